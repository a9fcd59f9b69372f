/- Two rows of the call's own, side by side, while one of them grows. sem.maker.put. -/
import Derived.Test.YtcmdhfccdkjenaaGreatDoorPart5
import Derived.Test.YtcmdhfccdkjenaaGreatDoorPart13
namespace Go.Proofs.YtcmdhfccdkjenaaGreatDoor
open Go.RowKit Go.Shelf

/-- append of a row onto a row of the call's own, within a region that draws its order; the row's block is the one that it was, or new. -/
theorem step_rowE {P : Program} {w : World} {ops : Array Oper} {o : Oper} {a : Act} {K : Act → World → Prop} {Q : Exit → Act → World → Prop} {E : Prop} (hgd : o.guard = none) (s x : Operand) (t : TypeId)
    (ho : o.op = .call { callee := .builtin .append, args := #[s, x], argTypes := #[t, t] })
    (base : Nat) (e : TypeId) (i : TypeInfo) (z : Value) (size bytes : Nat) (ht : P.underlying t = some (.slice e)) (hi : P.info? e = some i) (hz : i.zero = some z)
    (hsize : i.size = size) (hby : i.bytes = bytes) (hb1000 : bytes ≤ 1000) (hzs : z.cells.size = size) (hsz : 0 < size)
    (v : Value) (n : Nat) (xs : List Value) (hs : a.eval s = v) (hown : w.ownsRow base e size v n xs)
    (va : Value) (m : Nat) (ys : List Value) (hx : a.eval x = va) (ha : SlA w size va m ys) (h1 : ∀ u ∈ ys, u.oneCell' = true)
    (hnm : n + m ≤ 100000000000) (hbase : base ≤ w.heap.size)
    (h : ∀ a' cap' w', w'.ownsRow base e size (.slice a' (n + m) cap') (n + m) (xs ++ ys) → w.grownBy w' v.ownBlock → (∀ k, k < w.heap.size → some k ≠ v.ownBlock → some k ≠ (Value.slice a' (n + m) cap').ownBlock) → K (a.put o.dst (.slice a' (n + m) cap')) w') :
    if Region.wanted o (yielded ops a.tmps) = true then Oper.wp P o a w K Q else E := by
  by_cases h0 : 0 < m
  · obtain ⟨b, off, c, rfl, hc, hm, hb, hcell⟩ := ha.pos h0
    have hl : ys.length = m * size := by
      rcases ha with ha | ⟨_, rfl, rfl⟩
      · exact ha.len
      · simp
    have hbb : (n + m) * bytes ≤ 140737488355328 := Nat.le_trans (Nat.mul_le_mul (Nat.le_refl _) hb1000) (by omega)
    refine step_append_lies w hgd s x t ho base e i z size bytes ht hi hz hsize hby hzs hsz v n xs hs hown ⟨b, off, none⟩ m c ys hx hl (fun j u hu => by rw [addr_add]; exact hcell j u hu) h1 h0 (by simp only [maxLen]; omega) hbb hbase _ rfl
      (fun g cap w' h1 h2 h3 _ => h _ cap w' h1 h2 (fun k hk hne he => ?_))
    injection he with he
    dsimp only at he
    subst he
    rcases h3 with h3 | h3
    · exact hne h3.symm
    · omega
  · obtain rfl : m = 0 := by omega
    have hy : ys = [] := by
      rcases ha with ha | ⟨_, _, rfl⟩
      · have := ha.len; exact List.eq_nil_of_length_eq_zero (by omega)
      · rfl
    subst hy
    obtain ⟨ax, cx, rfl⟩ := ha.form
    obtain ⟨ao, cap, rfl, hnc⟩ := own_form2 hown
    refine step_zero w hgd s x t ho e i ht hi ao n cap hnc hs ax cx hx ?_
    refine h ao cap w (by rw [List.append_nil]; exact hown) ⟨rfl, rfl, rfl, Nat.le_refl _, fun _ _ _ => rfl⟩ (fun k _ hne he => hne (by rw [he]; cases ao <;> rfl))
/-- Two rows of the call's own in blocks of their own. -/
structure RowsTwo (w0 : World) (e : TypeId) (size : Nat) (v1 : Value) (n1 : Nat) (x1 : List Value) (v2 : Value) (n2 : Nat) (x2 : List Value) (w : World) : Prop where
  low : Below w0.heap.size w0 w
  o1 : w.ownsRow w0.heap.size e size v1 n1 x1
  o2 : w.ownsRow w0.heap.size e size v2 n2 x2
  ne : ∀ k, some k = v1.ownBlock → some k ≠ v2.ownBlock
theorem own_grown {w w' : World} {base size n : Nat} {e : TypeId} {v : Value} {xs : List Value} {r : Option Nat} (h : w.ownsRow base e size v n xs) (hg : w.grownBy w' r) (hne : ∀ k, some k = v.ownBlock → some k ≠ r) : w'.ownsRow base e size v n xs := by
  obtain ⟨h1, h2⟩ := h
  refine ⟨h1, ?_⟩
  rcases h2 with h2 | ⟨g, cap, cur, rfl, hb, hh, h3⟩
  · exact .inl h2
  · exact .inr ⟨g, cap, cur, rfl, hb, (hg.block g (Array.getElem?_eq_some_iff.1 hh).1 (hne g rfl)).trans hh, h3⟩
/-- A second row begins. -/
theorem RowsTwo.new {w0 w : World} {e : TypeId} {size n1 : Nat} {v1 : Value} {x1 : List Value} (hb : Below w0.heap.size w0 w) (h : w.ownsRow w0.heap.size e size v1 n1 x1) :
    RowsTwo w0 e size v1 n1 x1 (.slice (some ⟨w.heap.size, 0, none⟩) 0 0) 0 [] (w.alloc (.cells #[] e)) :=
  ⟨hb.alloc hb.size _, h.alloc _, World.ownsRow_made w #[] 0 hb.size (Nat.zero_le _) (by simp), fun k hk he => by
    have := (h.lt k hk.symm).2
    injection he with he
    dsimp only at he
    omega⟩
end Go.Proofs.YtcmdhfccdkjenaaGreatDoor
namespace Go.Proofs.YtcmdhfccdkjenaaGreatDoor
open Go.RowKit Go.Shelf

/-- The rows behind a rule that one row takes. -/
def rowPut (rv : Nat → Value) (p : Nat) (v : Value) : Nat → Value := fun q => if q = p then v else rv q
theorem kp_low {X : Nat → Prop} {w w' : World} {n : Nat} (h : Kp X w w') (hn : n ≤ w.heap.size) (hx : ∀ b, X b → n ≤ b) : Below n w w' := h.below hn (fun b hb hxb => by have := hx b hxb; omega)
theorem mkX_ge {w : World} {d : MkI} {rs : List Ru} {rv : Nat → Value} {fs : List (Nat × Nat)} {k : Nat} {qv : Value} {st : Nat} (h : MkAt w d rs rv fs k qv st) : ∀ b, mkX d qv b → d.F ≤ b := by
  have ok := h.ok
  have o1 := ok.o1; have o2 := ok.o2; have o3 := ok.o3; have o4 := ok.o4; have o5 := ok.o5; have o8 := ok.o8
  rintro b (h1 | h1 | h1 | h1)
  · omega
  · omega
  · rcases h1 with h1 | h1 <;> omega
  · have := (h.qge b h1.symm).1; omega
theorem MkAt.lowF {w : World} {d : MkI} {rs : List Ru} {rv : Nat → Value} {fs : List (Nat × Nat)} {k : Nat} {qv : Value} {st : Nat} (h : MkAt w d rs rv fs k qv st) : d.F ≤ w.heap.size := Nat.le_of_lt h.f.ff.2.2
/-- The maker, some rows of which have taken a rule already: rl tells the rows. -/
structure MkR (w : World) (d : MkI) (rl : Nat → List Ru) (rv : Nat → Value) (fs : List (Nat × Nat)) (k : Nat) (qv : Value) (st : Nat) : Prop where
  mm : Blk w d.M #[.pointer (some ⟨d.F, 0, none⟩), .int .i64 d.pr, .int .i64 d.lk, .int .i64 st]
  kk : Blk w d.K #[.pointer (some ⟨d.M, 0, none⟩), .slice (some ⟨d.BY, 0, none⟩) d.n d.n, .slice (some ⟨d.VIA, 0, none⟩) d.lk d.lk, qv]
  by_ : Blk w d.BY (arrOf d.n rv)
  via : Blk w d.VIA (arrOf d.lk (fun j => rv (d.n + j)))
  own : ∀ p, p < d.n + d.lk → w.ownsRow d.C 196 6 (rv p) (rl p).length ((rl p).flatMap Ru.cells)
  apart : ∀ p q, p < d.n + d.lk → q < d.n + d.lk → p ≠ q → ∀ g, (rv p).ownBlock = some g → (rv q).ownBlock ≠ some g
  qa : ∀ p, p < d.n + d.lk → ∀ g, (rv p).ownBlock = some g → qv.ownBlock ≠ some g
  le : d.C ≤ w.heap.size
  f : FamAt w d.F d.W0 d.g0 d.n d.pr fs
  q : QAt w d.C qv (fs.drop k)
  ok : d.ok
  kl : k ≤ fs.length
  tb : TB w
  sl : fs.length ≤ st
section
variable {w w' : World} {d : MkI} {rl : Nat → List Ru} {rs : List Ru} {rv : Nat → Value} {fs : List (Nat × Nat)} {k : Nat} {qv : Value} {st : Nat}
theorem MkAt.r (h : MkAt w d rs rv fs k qv st) : MkR w d (rowL d.n rs) rv fs k qv st := ⟨h.b.mm, h.b.kk, h.b.by_, h.b.via, h.b.own, h.b.apart, h.b.qa, h.b.le, h.f, h.q, h.ok, h.kl, h.tb, h.sl⟩
theorem MkR.at (h : MkR w d rl rv fs k qv st) (e : ∀ p, p < d.n + d.lk → rl p = rowL d.n rs p) : MkAt w d rs rv fs k qv st :=
  ⟨⟨h.mm, h.kk, h.by_, h.via, fun p hp => by rw [← e p hp]; exact h.own p hp, h.apart, h.qa, h.le⟩, h.f, h.q, h.ok, h.kl, h.tb, h.sl⟩
theorem MkR.kp {X : Nat → Prop} (h : MkR w d rl rv fs k qv st) (k' : Kp X w w') (hx : ∀ b, X b → d.C ≤ b) (hr : ∀ p, p < d.n + d.lk → ∀ g, (rv p).ownBlock = some g → ¬ X g) (hq : ∀ g, qv.ownBlock = some g → ¬ X g) : MkR w' d rl rv fs k qv st := by
  have o := h.ok
  have o0 := o.o0; have o1 := o.o1; have o2 := o.o2; have o3 := o.o3; have o4 := o.o4; have o5 := o.o5; have o6 := o.o6; have o8 := o.o8; have o9 := o.o9
  have no : ∀ b, b < d.C → ¬ X b := fun b hb hxb => by have := hx b hxb; omega
  exact ⟨k'.blk h.mm (no _ (by omega)), k'.blk h.kk (no _ (by omega)), k'.blk h.by_ (no _ o8), k'.blk h.via (no _ o9), fun p hp => k'.own (h.own p hp) (hr p hp), h.apart, h.qa, Nat.le_trans h.le k'.size,
    h.f.kp k' (no _ (by omega)) (no _ (by omega)) (fun i hi => no _ (by omega)), h.q.kp k' hq, o, h.kl, h.tb.kp k' (no _ (by omega)), h.sl⟩
theorem MkR.below (h : MkR w d rl rv fs k qv st) (hb : Below w.heap.size w w') : MkR w' d rl rv fs k qv st :=
  h.kp (Kp.of_below (X := fun _ => False) hb) (fun _ h => h.elim) (fun _ _ _ _ => id) (fun _ _ => id)
theorem MkR.steps (h : MkR w d rl rv fs k qv st) (st' : Nat) (hs : st ≤ st' := by omega) : MkR (w.setCell ⟨d.M, 3, none⟩ (.int .i64 st')) d rl rv fs k qv st' := by
  have o := h.ok
  have o0 := o.o0; have o1 := o.o1; have o2 := o.o2; have o3 := o.o3; have o4 := o.o4; have o5 := o.o5; have o6 := o.o6; have o8 := o.o8; have o9 := o.o9
  have ks : Kp (fun b => b = d.M) w (w.setCell ⟨d.M, 3, none⟩ (.int .i64 st')) := Kp.set rfl
  refine ⟨by simpa using h.mm.put (o := 3) (v := .int .i64 st') (by simp), ks.blk h.kk (by omega), ks.blk h.by_ (by omega), ks.blk h.via (by omega), fun p hp => ks.own (h.own p hp) (fun g hg e => ?_), h.apart, h.qa, Nat.le_trans h.le ks.size,
    h.f.kp ks (by omega) (by omega) (fun i hi => by omega), h.q.kp ks (fun g hg e => by have := (h.q.ge hg).1; omega), o, h.kl, h.tb.kp ks (by omega), Nat.le_trans h.sl hs⟩
  have := ((h.own p hp).lt g hg).1
  omega
/-- A row has taken a rule: its slice lies in the cell of its block. -/
theorem MkR.put (h : MkR w d rl rv fs k qv st) {p : Nat} (hp : p < d.n + d.lk) {v' : Value} {w1 : World} {r : Ru} (ho : w1.ownsRow d.C 196 6 v' (rl p ++ [r]).length ((rl p ++ [r]).flatMap Ru.cells)) (hg : w.grownBy w1 (rv p).ownBlock)
    (hn : ∀ b, b < w.heap.size → some b ≠ (rv p).ownBlock → some b ≠ v'.ownBlock) :
    MkR (w1.setCell (if p < d.n then ⟨d.BY, p, none⟩ else ⟨d.VIA, p - d.n, none⟩) v') d (fun q => if q = p then rl p ++ [r] else rl q) (rowPut rv p v') fs k qv st ∧ Below d.F w (w1.setCell (if p < d.n then ⟨d.BY, p, none⟩ else ⟨d.VIA, p - d.n, none⟩) v') := by
  have o := h.ok
  have o0 := o.o0; have o1 := o.o1; have o2 := o.o2; have o3 := o.o3; have o4 := o.o4; have o5 := o.o5; have o6 := o.o6; have o7 := o.o7; have o8 := o.o8; have o9 := o.o9
  have k1 : Kp (fun b => some b = (rv p).ownBlock) w w1 := Kp.of_grown hg (fun b hb => hb)
  have hge : ∀ p, p < d.n + d.lk → ∀ g, (rv p).ownBlock = some g → d.C ≤ g := fun p hp g hg => ((h.own p hp).lt g hg).1
  have hC : d.C ≤ w.heap.size := h.le
  have hX : ∀ b, b < d.C → ¬ some b = (rv p).ownBlock := fun b hb e => by have := hge p hp b e.symm; omega
  have hvX : ∀ g, v'.ownBlock = some g → d.C ≤ g := fun g hg => (ho.lt g hg).1
  obtain ⟨A, hA⟩ : ∃ A : Addr, A = (if p < d.n then (⟨d.BY, p, none⟩ : Addr) else ⟨d.VIA, p - d.n, none⟩) := ⟨_, rfl⟩
  rw [← hA]
  have hAb : A.block = d.BY ∨ A.block = d.VIA := by
    rw [hA]
    by_cases hpn : p < d.n
    · rw [if_pos hpn]; exact .inl rfl
    · rw [if_neg hpn]; exact .inr rfl
  have hAC : A.block < d.C := by rcases hAb with e | e <;> rw [e] <;> assumption
  have hAK : d.K < A.block := by rcases hAb with e | e <;> rw [e] <;> assumption
  have k2 : Kp (fun b => b = A.block) w1 (w1.setCell A v') := ⟨rfl, rfl, rfl, by simp [World.setCell], fun j _ hj => Below.heap_setCell _ _ _ _ hj⟩
  have k3 : Kp (fun b => some b = (rv p).ownBlock ∨ b = A.block) w (w1.setCell A v') := (k1.sub (fun b _ h => .inl h)).trans (k2.sub (Y := fun b => some b = (rv p).ownBlock ∨ b = A.block) (fun b _ h => .inr h)) (fun _ _ h => h)
  have no : ∀ b, b < d.C → b ≠ A.block → ¬ (some b = (rv p).ownBlock ∨ b = A.block) := fun b hb hne h => h.elim (hX b hb) hne
  have hby : Blk w1 d.BY (arrOf d.n rv) := k1.blk h.by_ (hX _ o8)
  have hvia : Blk w1 d.VIA (arrOf d.lk (fun j => rv (d.n + j))) := k1.blk h.via (hX _ o9)
  refine ⟨⟨k3.blk h.mm (no _ (by omega) (by omega)), k3.blk h.kk (no _ (by omega) (by omega)), ?_, ?_, ?_, ?_, ?_, Nat.le_trans h.le k3.size, h.f.kp k3 (no _ (by omega) (by omega)) (no _ (by omega) (by omega)) (fun i hi => no _ (by omega) (by omega)), h.q.kp k3 ?_, o, h.kl, h.tb.kp k3 (no _ (by omega) (by omega)), h.sl⟩, kp_low k3 (Nat.le_of_lt h.f.ff.2.2) ?_⟩
  · by_cases hpn : p < d.n
    · rw [hA, if_pos hpn]
      have := hby.put (o := p) (v := v') (by rw [arrOf_size]; exact hpn)
      rw [arrOf_set _ _ _ _ hpn] at this
      exact this
    · rw [hA, if_neg hpn]
      have := hby.far (g := d.VIA) (o := p - d.n) (v := v') (by omega)
      rw [arrOf_congr (f := rv) (g := rowPut rv p v') (fun i hi => by unfold rowPut; rw [if_neg (by omega)])] at this
      exact this
  · by_cases hpn : p < d.n
    · rw [hA, if_pos hpn]
      have := hvia.far (g := d.BY) (o := p) (v := v') (by omega)
      rw [arrOf_congr (g := fun j => rowPut rv p v' (d.n + j)) (fun i hi => by unfold rowPut; rw [if_neg (by omega)])] at this
      exact this
    · rw [hA, if_neg hpn]
      have hpl : p - d.n < d.lk := by omega
      have := hvia.put (o := p - d.n) (v := v') (by rw [arrOf_size]; exact hpl)
      rw [arrOf_set _ _ _ _ hpl, arrOf_congr (g := fun j => rowPut rv p v' (d.n + j)) (fun i hi => by
        unfold rowPut
        by_cases e : i = p - d.n
        · rw [if_pos e, if_pos (by omega)]
        · rw [if_neg e, if_neg (by omega)])] at this
      exact this
  · intro q hq
    by_cases e : q = p
    · subst e
      simp only [rowPut, if_pos]
      exact k2.own ho (fun g hg e => by have := hvX g hg; omega)
    · simp only [rowPut, if_neg e]
      refine k3.own (h.own q hq) (fun g hg hx => ?_)
      rcases hx with hx | hx
      · exact h.apart p q hp hq (fun e' => e e'.symm) g hx.symm hg
      · have := hge q hq g hg; omega
  · intro a b ha hb hab g hga
    unfold rowPut at hga ⊢
    by_cases ea : a = p
    · rw [if_pos ea] at hga
      rw [if_neg (fun e => hab (ea.trans e.symm))]
      intro hgb
      have hlt := ((h.own b hb).lt g hgb).2
      exact hn g hlt (fun e => h.apart p b hp hb (fun e' => hab (ea.trans e')) g e.symm hgb) hga.symm
    · rw [if_neg ea] at hga
      by_cases eb : b = p
      · rw [if_pos eb]
        intro hgb
        have hlt := ((h.own a ha).lt g hga).2
        exact hn g hlt (fun e => h.apart p a hp ha (fun e' => ea e'.symm) g e.symm hga) hgb.symm
      · rw [if_neg eb]; exact h.apart a b ha hb hab g hga
  · intro a ha g hga
    unfold rowPut at hga
    by_cases ea : a = p
    · rw [if_pos ea] at hga
      intro hgq
      have hlt := (h.q.ge hgq).2
      exact hn g hlt (fun e => h.qa p hp g e.symm hgq) hga.symm
    · rw [if_neg ea] at hga; exact h.qa a ha g hga
  · intro g hg hx
    rcases hx with hx | hx
    · exact h.qa p hp g hx.symm hg
    · have := (h.q.ge hg).1; omega
  · rintro b (hx | hx)
    · have := hge p hp b hx.symm; omega
    · omega
end
end Go.Proofs.YtcmdhfccdkjenaaGreatDoor
