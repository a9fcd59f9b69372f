/- Plain laws of what follows of a fact; rules by their kinds; the maker behind small steps. Two rows of the call's own, side by side, while one of them grows. sem.maker.put. sem.maker.put: the walk (printed by gen_semput.py). -/
import Derived.Test.YtcmdhfccdkjenaaGreatDoorPart10
import Derived.Test.YtcmdhfccdkjenaaGreatDoorPart5
namespace Go.Proofs.YtcmdhfccdkjenaaGreatDoor
open Go.RowKit Go.Shelf

theorem okRu_cases {p l : Nat} {r : Ru} (h : okRu p l r = true) :
    (∃ h x : Nat, r = ⟨1, h, x, 0, 0, 0⟩ ∧ h < p * l ∧ x < p) ∨ (∃ h a : Nat, r = ⟨2, h, 0, a, 0, 0⟩ ∧ h < p * l ∧ a < p * l) ∨
    (∃ h a v : Nat, r = ⟨3, h, 0, a, 0, v⟩ ∧ h < p * l ∧ a < p * l ∧ v < l) ∨ (∃ h a b : Nat, r = ⟨4, h, 0, a, b, 0⟩ ∧ h < p * l ∧ a < p * l ∧ b < p * l) := by
  obtain ⟨k, rh, who, ra, rb, via⟩ := r
  unfold okRu at h
  simp only [Bool.and_eq_true] at h
  obtain ⟨⟨_, h1⟩, h2⟩ := h
  obtain ⟨hh, rfl, hh1⟩ := inR_iff.1 h1
  by_cases k1 : k = 1
  · subst k1
    rw [if_pos rfl] at h2
    simp only [Bool.and_eq_true, decide_eq_true_iff] at h2
    obtain ⟨⟨rfl, rfl, rfl⟩, h3⟩ := h2
    obtain ⟨x, rfl, hx⟩ := inR_iff.1 h3
    exact .inl ⟨hh, x, rfl, hh1, hx⟩
  · rw [if_neg k1] at h2
    by_cases k2 : k = 2
    · subst k2
      rw [if_pos rfl] at h2
      simp only [Bool.and_eq_true, decide_eq_true_iff] at h2
      obtain ⟨⟨rfl, rfl, rfl⟩, h3⟩ := h2
      obtain ⟨x, rfl, hx⟩ := inR_iff.1 h3
      exact .inr (.inl ⟨hh, x, rfl, hh1, hx⟩)
    · rw [if_neg k2] at h2
      by_cases k3 : k = 3
      · subst k3
        rw [if_pos rfl] at h2
        simp only [Bool.and_eq_true, decide_eq_true_iff] at h2
        obtain ⟨⟨⟨rfl, rfl⟩, h3⟩, h4⟩ := h2
        obtain ⟨x, rfl, hx⟩ := inR_iff.1 h3
        obtain ⟨y, rfl, hy⟩ := inR_iff.1 h4
        exact .inr (.inr (.inl ⟨hh, x, y, rfl, hh1, hx, hy⟩))
      · rw [if_neg k3] at h2
        by_cases k4 : k = 4
        · subst k4
          rw [if_pos rfl] at h2
          simp only [Bool.and_eq_true, decide_eq_true_iff] at h2
          obtain ⟨⟨⟨rfl, rfl⟩, h3⟩, h4⟩ := h2
          obtain ⟨x, rfl, hx⟩ := inR_iff.1 h3
          obtain ⟨y, rfl, hy⟩ := inR_iff.1 h4
          exact .inr (.inr (.inr ⟨hh, x, y, rfl, hh1, hx, hy⟩))
        · rw [if_neg k4] at h2; cases h2

structure LookA (lk : Nat) (f : Nat × Nat) (fs fs' : List (Nat × Nat)) (r : Ru) : Prop where
  incl : r.k = 2 → (r.h.toNat, f.2) ∈ fs'
  both : r.k = 4 → (r.a.toNat, f.2) ∈ fs → (r.b.toNat, f.2) ∈ fs → (r.h.toNat, f.2) ∈ fs'
  link : r.k = 3 → ∀ y, (f.2 * lk + r.via.toNat, y) ∈ fs → (r.h.toNat, y) ∈ fs'
theorem LookA.mono {lk : Nat} {f : Nat × Nat} {fs fs1 fs2 : List (Nat × Nat)} {r : Ru} (h : LookA lk f fs fs1 r) (hs : ∀ g ∈ fs1, g ∈ fs2) : LookA lk f fs fs2 r :=
  ⟨fun e => hs _ (h.incl e), fun e a b => hs _ (h.both e a b), fun e y hy => hs _ (h.link e y hy)⟩
structure Grow (lk : Nat) (rs : List Ru) (fs fs' : List (Nat × Nat)) : Prop where
  pre : ∃ news, fs' = fs ++ news
  sound : ∀ E : Nat → Nat → Prop, CloN lk rs E → (∀ g ∈ fs, E g.1 g.2) → ∀ g ∈ fs', E g.1 g.2
theorem Grow.refl (lk : Nat) (rs : List Ru) (fs : List (Nat × Nat)) : Grow lk rs fs fs := ⟨⟨[], by simp⟩, fun _ _ h => h⟩
theorem Grow.trans {lk : Nat} {rs : List Ru} {a b c : List (Nat × Nat)} (h : Grow lk rs a b) (g : Grow lk rs b c) : Grow lk rs a c := by
  obtain ⟨n1, rfl⟩ := h.pre
  obtain ⟨n2, rfl⟩ := g.pre
  exact ⟨⟨n1 ++ n2, by rw [List.append_assoc]⟩, fun E hE h0 => g.sound E hE (h.sound E hE h0)⟩
theorem Grow.sub {lk : Nat} {rs : List Ru} {a b : List (Nat × Nat)} (h : Grow lk rs a b) : ∀ g ∈ a, g ∈ b := by
  obtain ⟨n1, rfl⟩ := h.pre
  exact fun g hg => List.mem_append.2 (.inl hg)
theorem Grow.add {lk : Nat} {rs : List Ru} {fs : List (Nat × Nat)} {r c : Nat} (h : ∀ E : Nat → Nat → Prop, CloN lk rs E → (∀ g ∈ fs, E g.1 g.2) → E r c) : Grow lk rs fs (addF fs r c) := by
  obtain ⟨n, e, hn⟩ := addF_pre fs r c
  refine ⟨⟨n, e⟩, fun E hE h0 g hg => ?_⟩
  rw [e] at hg
  rcases List.mem_append.1 hg with hg | hg
  · exact h0 g hg
  · rw [hn g hg]; exact h E hE h0
theorem Grow.all {lk : Nat} {rs : List Ru} {fs fs' : List (Nat × Nat)} {a b : Nat} {l : List Nat} (h : AllOf fs a b l fs') (hs : ∀ E : Nat → Nat → Prop, CloN lk rs E → (∀ g ∈ fs, E g.1 g.2) → ∀ c, (a, c) ∈ fs → E b c) : Grow lk rs fs fs' :=
  ⟨h.pre, fun E hE h0 g hg => by
    rcases h.only g hg with h1 | ⟨c, rfl, hc⟩
    · exact h0 g h1
    · exact hs E hE h0 c hc⟩
theorem colsOf_le {fs : List (Nat × Nat)} {rows cols : Nat} (h : ∀ f ∈ fs, f.1 < rows ∧ f.2 < cols) (i : Nat) : (colsOf fs i).length ≤ cols := by
  have h1 := nodup_le (colsOf fs i) (List.range cols) (List.Pairwise.imp (fun h => Nat.ne_of_lt h) (colsOf_asc fs i)) (fun c hc => List.mem_range.2 (h _ (colsOf_mem.1 hc).2).2)
  rwa [List.length_range] at h1
section
variable {w w1 w2 : World} {d : MkI} {rs : List Ru} {rv : Nat → Value} {fs fs1 : List (Nat × Nat)} {k : Nat} {qv qv1 : Value} {st st1 : Nat}
theorem MkMore.below (h : MkMore w d rs rv fs k qv w1 fs1 qv1 st1) (hb : Below w1.heap.size w1 w2) : MkMore w d rs rv fs k qv w2 fs1 qv1 st1 :=
  ⟨h.a.below hb, h.kp.trans (Kp.of_below (X := mkX d qv) hb) (fun _ _ h => h), h.qn⟩
theorem MkAt.qge (h : MkAt w d rs rv fs k qv st) : ∀ g, qv.ownBlock = some g → d.C ≤ g ∧ g < w.heap.size := fun _ hg => h.q.ge hg
theorem MkAt.steps (h : MkAt w d rs rv fs k qv st) (st' : Nat) (hs : st ≤ st' := by omega) : MkAt (w.setCell ⟨d.M, 3, none⟩ (.int .i64 st')) d rs rv fs k qv st' := by
  have ok := h.ok
  have o0 := ok.o0; have o1 := ok.o1; have o2 := ok.o2; have o3 := ok.o3; have o4 := ok.o4; have o5 := ok.o5; have o8 := ok.o8
  have ks : Kp (fun b => b = d.M) w (w.setCell ⟨d.M, 3, none⟩ (.int .i64 st')) := Kp.set rfl
  exact ⟨mkB_steps h.b ok st', h.f.kp ks (by omega) (by omega) (fun i hi => by omega), h.q.kp ks (fun g hg e => by have := (h.q.ge hg).1; omega), ok, h.kl, h.tb.kp ks (by omega), Nat.le_trans h.sl hs⟩
theorem MkMore.steps (h : MkMore w d rs rv fs k qv w1 fs1 qv1 st1) (st' : Nat) (hs : st1 ≤ st' := by omega) : MkMore w d rs rv fs k qv (w1.setCell ⟨d.M, 3, none⟩ (.int .i64 st')) fs1 qv1 st' :=
  ⟨h.a.steps st' hs, h.kp.trans (Kp.set (X := mkX d qv) (.inl rfl)) (fun _ _ h => h), h.qn⟩
theorem mkX_far (h : MkAt w d rs rv fs k qv st) {b : Nat} (hb : d.C ≤ b) (hq : qv.ownBlock ≠ some b) : ¬ mkX d qv b := by
  have ok := h.ok
  have o1 := ok.o1; have o2 := ok.o2; have o3 := ok.o3; have o4 := ok.o4; have o5 := ok.o5; have o8 := ok.o8
  rintro (h | h | h | h)
  · omega
  · omega
  · rcases h with h | h <;> omega
  · exact hq h.symm
end
end Go.Proofs.YtcmdhfccdkjenaaGreatDoor
namespace Go.Proofs.YtcmdhfccdkjenaaGreatDoor
open Go.RowKit Go.Shelf

theorem step_rowE {P : Program} {w : World} {ops : Array Oper} {o : Oper} {a : Act} {K : Act → World → Prop} {Q : Exit → Act → World → Prop} {E : Prop} (hgd : o.guard = none) (s x : Operand) (t : TypeId)
    (ho : o.op = .call { callee := .builtin .append, args := #[s, x], argTypes := #[t, t] })
    (base : Nat) (e : TypeId) (i : TypeInfo) (z : Value) (size bytes : Nat) (ht : P.underlying t = some (.slice e)) (hi : P.info? e = some i) (hz : i.zero = some z)
    (hsize : i.size = size) (hby : i.bytes = bytes) (hb1000 : bytes ≤ 1000) (hzs : z.cells.size = size) (hsz : 0 < size)
    (v : Value) (n : Nat) (xs : List Value) (hs : a.eval s = v) (hown : w.ownsRow base e size v n xs)
    (va : Value) (m : Nat) (ys : List Value) (hx : a.eval x = va) (ha : SlA w size va m ys) (h1 : ∀ u ∈ ys, u.oneCell' = true)
    (hnm : n + m ≤ 100000000000) (hbase : base ≤ w.heap.size)
    (h : ∀ a' cap' w', w'.ownsRow base e size (.slice a' (n + m) cap') (n + m) (xs ++ ys) → w.grownBy w' v.ownBlock → (∀ k, k < w.heap.size → some k ≠ v.ownBlock → some k ≠ (Value.slice a' (n + m) cap').ownBlock) → K (a.put o.dst (.slice a' (n + m) cap')) w') :
    if Region.wanted o (yielded ops a.tmps) = true then Oper.wp P o a w K Q else E := by
  by_cases h0 : 0 < m
  · obtain ⟨b, off, c, rfl, hc, hm, hb, hcell⟩ := ha.pos h0
    have hl : ys.length = m * size := by
      rcases ha with ha | ⟨_, rfl, rfl⟩
      · exact ha.len
      · simp
    have hbb : (n + m) * bytes ≤ 140737488355328 := Nat.le_trans (Nat.mul_le_mul (Nat.le_refl _) hb1000) (by omega)
    refine step_append_lies w hgd s x t ho base e i z size bytes ht hi hz hsize hby hzs hsz v n xs hs hown ⟨b, off, none⟩ m c ys hx hl (fun j u hu => by rw [addr_add]; exact hcell j u hu) h1 h0 (by simp only [maxLen]; omega) hbb hbase _ rfl
      (fun g cap w' h1 h2 h3 _ => h _ cap w' h1 h2 (fun k hk hne he => ?_))
    injection he with he
    dsimp only at he
    subst he
    rcases h3 with h3 | h3
    · exact hne h3.symm
    · omega
  · obtain rfl : m = 0 := by omega
    have hy : ys = [] := by
      rcases ha with ha | ⟨_, _, rfl⟩
      · have := ha.len; exact List.eq_nil_of_length_eq_zero (by omega)
      · rfl
    subst hy
    obtain ⟨ax, cx, rfl⟩ := ha.form
    obtain ⟨ao, cap, rfl, hnc⟩ := own_form2 hown
    refine step_zero w hgd s x t ho e i ht hi ao n cap hnc hs ax cx hx ?_
    refine h ao cap w (by rw [List.append_nil]; exact hown) ⟨rfl, rfl, rfl, Nat.le_refl _, fun _ _ _ => rfl⟩ (fun k _ hne he => hne (by rw [he]; cases ao <;> rfl))
theorem own_grown {w w' : World} {base size n : Nat} {e : TypeId} {v : Value} {xs : List Value} {r : Option Nat} (h : w.ownsRow base e size v n xs) (hg : w.grownBy w' r) (hne : ∀ k, some k = v.ownBlock → some k ≠ r) : w'.ownsRow base e size v n xs := by
  obtain ⟨h1, h2⟩ := h
  refine ⟨h1, ?_⟩
  rcases h2 with h2 | ⟨g, cap, cur, rfl, hb, hh, h3⟩
  · exact .inl h2
  · exact .inr ⟨g, cap, cur, rfl, hb, (hg.block g (Array.getElem?_eq_some_iff.1 hh).1 (hne g rfl)).trans hh, h3⟩
end Go.Proofs.YtcmdhfccdkjenaaGreatDoor
namespace Go.Proofs.YtcmdhfccdkjenaaGreatDoor
open Go.RowKit Go.Shelf

def rowPut (rv : Nat → Value) (p : Nat) (v : Value) : Nat → Value := fun q => if q = p then v else rv q
theorem kp_low {X : Nat → Prop} {w w' : World} {n : Nat} (h : Kp X w w') (hn : n ≤ w.heap.size) (hx : ∀ b, X b → n ≤ b) : Below n w w' := h.below hn (fun b hb hxb => by have := hx b hxb; omega)
theorem mkX_ge {w : World} {d : MkI} {rs : List Ru} {rv : Nat → Value} {fs : List (Nat × Nat)} {k : Nat} {qv : Value} {st : Nat} (h : MkAt w d rs rv fs k qv st) : ∀ b, mkX d qv b → d.F ≤ b := by
  have ok := h.ok
  have o1 := ok.o1; have o2 := ok.o2; have o3 := ok.o3; have o4 := ok.o4; have o5 := ok.o5; have o8 := ok.o8
  rintro b (h1 | h1 | h1 | h1)
  · omega
  · omega
  · rcases h1 with h1 | h1 <;> omega
  · have := (h.qge b h1.symm).1; omega
theorem MkAt.lowF {w : World} {d : MkI} {rs : List Ru} {rv : Nat → Value} {fs : List (Nat × Nat)} {k : Nat} {qv : Value} {st : Nat} (h : MkAt w d rs rv fs k qv st) : d.F ≤ w.heap.size := Nat.le_of_lt h.f.ff.2.2
structure MkR (w : World) (d : MkI) (rl : Nat → List Ru) (rv : Nat → Value) (fs : List (Nat × Nat)) (k : Nat) (qv : Value) (st : Nat) : Prop where
  mm : Blk w d.M #[.pointer (some ⟨d.F, 0, none⟩), .int .i64 d.pr, .int .i64 d.lk, .int .i64 st]
  kk : Blk w d.K #[.pointer (some ⟨d.M, 0, none⟩), .slice (some ⟨d.BY, 0, none⟩) d.n d.n, .slice (some ⟨d.VIA, 0, none⟩) d.lk d.lk, qv]
  by_ : Blk w d.BY (arrOf d.n rv)
  via : Blk w d.VIA (arrOf d.lk (fun j => rv (d.n + j)))
  own : ∀ p, p < d.n + d.lk → w.ownsRow d.C 196 6 (rv p) (rl p).length ((rl p).flatMap Ru.cells)
  apart : ∀ p q, p < d.n + d.lk → q < d.n + d.lk → p ≠ q → ∀ g, (rv p).ownBlock = some g → (rv q).ownBlock ≠ some g
  qa : ∀ p, p < d.n + d.lk → ∀ g, (rv p).ownBlock = some g → qv.ownBlock ≠ some g
  le : d.C ≤ w.heap.size
  f : FamAt w d.F d.W0 d.g0 d.n d.pr fs
  q : QAt w d.C qv (fs.drop k)
  ok : d.ok
  kl : k ≤ fs.length
  tb : TB w
  sl : fs.length ≤ st
section
variable {w w' : World} {d : MkI} {rl : Nat → List Ru} {rs : List Ru} {rv : Nat → Value} {fs : List (Nat × Nat)} {k : Nat} {qv : Value} {st : Nat}
theorem MkAt.r (h : MkAt w d rs rv fs k qv st) : MkR w d (rowL d.n rs) rv fs k qv st := ⟨h.b.mm, h.b.kk, h.b.by_, h.b.via, h.b.own, h.b.apart, h.b.qa, h.b.le, h.f, h.q, h.ok, h.kl, h.tb, h.sl⟩
theorem MkR.at (h : MkR w d rl rv fs k qv st) (e : ∀ p, p < d.n + d.lk → rl p = rowL d.n rs p) : MkAt w d rs rv fs k qv st :=
  ⟨⟨h.mm, h.kk, h.by_, h.via, fun p hp => by rw [← e p hp]; exact h.own p hp, h.apart, h.qa, h.le⟩, h.f, h.q, h.ok, h.kl, h.tb, h.sl⟩
theorem MkR.kp {X : Nat → Prop} (h : MkR w d rl rv fs k qv st) (k' : Kp X w w') (hx : ∀ b, X b → d.C ≤ b) (hr : ∀ p, p < d.n + d.lk → ∀ g, (rv p).ownBlock = some g → ¬ X g) (hq : ∀ g, qv.ownBlock = some g → ¬ X g) : MkR w' d rl rv fs k qv st := by
  have o := h.ok
  have o0 := o.o0; have o1 := o.o1; have o2 := o.o2; have o3 := o.o3; have o4 := o.o4; have o5 := o.o5; have o6 := o.o6; have o8 := o.o8; have o9 := o.o9
  have no : ∀ b, b < d.C → ¬ X b := fun b hb hxb => by have := hx b hxb; omega
  exact ⟨k'.blk h.mm (no _ (by omega)), k'.blk h.kk (no _ (by omega)), k'.blk h.by_ (no _ o8), k'.blk h.via (no _ o9), fun p hp => k'.own (h.own p hp) (hr p hp), h.apart, h.qa, Nat.le_trans h.le k'.size,
    h.f.kp k' (no _ (by omega)) (no _ (by omega)) (fun i hi => no _ (by omega)), h.q.kp k' hq, o, h.kl, h.tb.kp k' (no _ (by omega)), h.sl⟩
theorem MkR.below (h : MkR w d rl rv fs k qv st) (hb : Below w.heap.size w w') : MkR w' d rl rv fs k qv st :=
  h.kp (Kp.of_below (X := fun _ => False) hb) (fun _ h => h.elim) (fun _ _ _ _ => id) (fun _ _ => id)
theorem MkR.put (h : MkR w d rl rv fs k qv st) {p : Nat} (hp : p < d.n + d.lk) {v' : Value} {w1 : World} {r : Ru} (ho : w1.ownsRow d.C 196 6 v' (rl p ++ [r]).length ((rl p ++ [r]).flatMap Ru.cells)) (hg : w.grownBy w1 (rv p).ownBlock)
    (hn : ∀ b, b < w.heap.size → some b ≠ (rv p).ownBlock → some b ≠ v'.ownBlock) :
    MkR (w1.setCell (if p < d.n then ⟨d.BY, p, none⟩ else ⟨d.VIA, p - d.n, none⟩) v') d (fun q => if q = p then rl p ++ [r] else rl q) (rowPut rv p v') fs k qv st ∧ Below d.F w (w1.setCell (if p < d.n then ⟨d.BY, p, none⟩ else ⟨d.VIA, p - d.n, none⟩) v') := by
  have o := h.ok
  have o0 := o.o0; have o1 := o.o1; have o2 := o.o2; have o3 := o.o3; have o4 := o.o4; have o5 := o.o5; have o6 := o.o6; have o7 := o.o7; have o8 := o.o8; have o9 := o.o9
  have k1 : Kp (fun b => some b = (rv p).ownBlock) w w1 := Kp.of_grown hg (fun b hb => hb)
  have hge : ∀ p, p < d.n + d.lk → ∀ g, (rv p).ownBlock = some g → d.C ≤ g := fun p hp g hg => ((h.own p hp).lt g hg).1
  have hC : d.C ≤ w.heap.size := h.le
  have hX : ∀ b, b < d.C → ¬ some b = (rv p).ownBlock := fun b hb e => by have := hge p hp b e.symm; omega
  have hvX : ∀ g, v'.ownBlock = some g → d.C ≤ g := fun g hg => (ho.lt g hg).1
  obtain ⟨A, hA⟩ : ∃ A : Addr, A = (if p < d.n then (⟨d.BY, p, none⟩ : Addr) else ⟨d.VIA, p - d.n, none⟩) := ⟨_, rfl⟩
  rw [← hA]
  have hAb : A.block = d.BY ∨ A.block = d.VIA := by
    rw [hA]
    by_cases hpn : p < d.n
    · rw [if_pos hpn]; exact .inl rfl
    · rw [if_neg hpn]; exact .inr rfl
  have hAC : A.block < d.C := by rcases hAb with e | e <;> rw [e] <;> assumption
  have hAK : d.K < A.block := by rcases hAb with e | e <;> rw [e] <;> assumption
  have k2 : Kp (fun b => b = A.block) w1 (w1.setCell A v') := ⟨rfl, rfl, rfl, by simp [World.setCell], fun j _ hj => Below.heap_setCell _ _ _ _ hj⟩
  have k3 : Kp (fun b => some b = (rv p).ownBlock ∨ b = A.block) w (w1.setCell A v') := (k1.sub (fun b _ h => .inl h)).trans (k2.sub (Y := fun b => some b = (rv p).ownBlock ∨ b = A.block) (fun b _ h => .inr h)) (fun _ _ h => h)
  have no : ∀ b, b < d.C → b ≠ A.block → ¬ (some b = (rv p).ownBlock ∨ b = A.block) := fun b hb hne h => h.elim (hX b hb) hne
  have hby : Blk w1 d.BY (arrOf d.n rv) := k1.blk h.by_ (hX _ o8)
  have hvia : Blk w1 d.VIA (arrOf d.lk (fun j => rv (d.n + j))) := k1.blk h.via (hX _ o9)
  refine ⟨⟨k3.blk h.mm (no _ (by omega) (by omega)), k3.blk h.kk (no _ (by omega) (by omega)), ?_, ?_, ?_, ?_, ?_, Nat.le_trans h.le k3.size, h.f.kp k3 (no _ (by omega) (by omega)) (no _ (by omega) (by omega)) (fun i hi => no _ (by omega) (by omega)), h.q.kp k3 ?_, o, h.kl, h.tb.kp k3 (no _ (by omega) (by omega)), h.sl⟩, kp_low k3 (Nat.le_of_lt h.f.ff.2.2) ?_⟩
  · by_cases hpn : p < d.n
    · rw [hA, if_pos hpn]
      have := hby.put (o := p) (v := v') (by rw [arrOf_size]; exact hpn)
      rw [arrOf_set _ _ _ _ hpn] at this
      exact this
    · rw [hA, if_neg hpn]
      have := hby.far (g := d.VIA) (o := p - d.n) (v := v') (by omega)
      rw [arrOf_congr (f := rv) (g := rowPut rv p v') (fun i hi => by unfold rowPut; rw [if_neg (by omega)])] at this
      exact this
  · by_cases hpn : p < d.n
    · rw [hA, if_pos hpn]
      have := hvia.far (g := d.BY) (o := p) (v := v') (by omega)
      rw [arrOf_congr (g := fun j => rowPut rv p v' (d.n + j)) (fun i hi => by unfold rowPut; rw [if_neg (by omega)])] at this
      exact this
    · rw [hA, if_neg hpn]
      have hpl : p - d.n < d.lk := by omega
      have := hvia.put (o := p - d.n) (v := v') (by rw [arrOf_size]; exact hpl)
      rw [arrOf_set _ _ _ _ hpl, arrOf_congr (g := fun j => rowPut rv p v' (d.n + j)) (fun i hi => by
        unfold rowPut
        by_cases e : i = p - d.n
        · rw [if_pos e, if_pos (by omega)]
        · rw [if_neg e, if_neg (by omega)])] at this
      exact this
  · intro q hq
    by_cases e : q = p
    · subst e
      simp only [rowPut, if_pos]
      exact k2.own ho (fun g hg e => by have := hvX g hg; omega)
    · simp only [rowPut, if_neg e]
      refine k3.own (h.own q hq) (fun g hg hx => ?_)
      rcases hx with hx | hx
      · exact h.apart p q hp hq (fun e' => e e'.symm) g hx.symm hg
      · have := hge q hq g hg; omega
  · intro a b ha hb hab g hga
    unfold rowPut at hga ⊢
    by_cases ea : a = p
    · rw [if_pos ea] at hga
      rw [if_neg (fun e => hab (ea.trans e.symm))]
      intro hgb
      have hlt := ((h.own b hb).lt g hgb).2
      exact hn g hlt (fun e => h.apart p b hp hb (fun e' => hab (ea.trans e')) g e.symm hgb) hga.symm
    · rw [if_neg ea] at hga
      by_cases eb : b = p
      · rw [if_pos eb]
        intro hgb
        have hlt := ((h.own a ha).lt g hga).2
        exact hn g hlt (fun e => h.apart p a hp ha (fun e' => ea e'.symm) g e.symm hga) hgb.symm
      · rw [if_neg eb]; exact h.apart a b ha hb hab g hga
  · intro a ha g hga
    unfold rowPut at hga
    by_cases ea : a = p
    · rw [if_pos ea] at hga
      intro hgq
      have hlt := (h.q.ge hgq).2
      exact hn g hlt (fun e => h.qa p hp g e.symm hgq) hga.symm
    · rw [if_neg ea] at hga; exact h.qa a ha g hga
  · intro g hg hx
    rcases hx with hx | hx
    · exact h.qa p hp g hx.symm hg
    · have := (h.q.ge hg).1; omega
  · rintro b (hx | hx)
    · have := hge p hp b hx.symm; omega
    · omega
end
end Go.Proofs.YtcmdhfccdkjenaaGreatDoor
namespace Go.Proofs.YtcmdhfccdkjenaaGreatDoor
open Go.RowKit Go.Shelf

def takesR (n : Nat) (r : Ru) (p : Nat) : Bool := if p < n then decide (r.k ≠ 1) && (decide (r.a = (p : Int)) || (decide (r.k = 4) && decide (r.b = (p : Int)))) else decide (r.k = 3) && decide (r.via = ((p - n : Nat) : Int))
theorem rowL_snoc (n : Nat) (rs : List Ru) (r : Ru) (p : Nat) : rowL n (rs ++ [r]) p = rowL n rs p ++ (if takesR n r p = true then [r] else []) := by
  unfold rowL takesR
  by_cases hp : p < n
  · rw [if_pos hp, if_pos hp, if_pos hp]
    unfold byR
    rw [List.filter_append, List.filter_cons, List.filter_nil]
  · rw [if_neg hp, if_neg hp, if_neg hp]
    unfold viaR
    rw [List.filter_append, List.filter_cons, List.filter_nil]
def MemP (r : Ru) (fs : List (Nat × Nat)) : Prop := r.k = 1 → (r.h.toNat, r.who.toNat) ∈ fs
theorem slA_one {w : World} {g : Nat} {a b c d e f : Int} (h : Blk w g #[.int .i64 a, .int .i64 b, .int .i64 c, .int .i64 d, .int .i64 e, .int .i64 f]) : SlA w 6 (.slice (some ⟨g, 0, none⟩) 1 1) 1 [.int .i64 a, .int .i64 b, .int .i64 c, .int .i64 d, .int .i64 e, .int .i64 f] :=
  Sl.a ⟨rfl, by simp [maxLen], .inr ⟨g, 0, 1, rfl, Nat.le_refl _, by simp [maxLen], h.2.2, fun j u hu => by rw [Nat.zero_add, h.1 j]; simpa using hu⟩⟩
set_option maxRecDepth 100000 in
set_option maxHeartbeats 16000000 in
theorem mk_put {w : World} {d : MkI} {rs : List Ru} {rv : Nat → Value} {fs : List (Nat × Nat)} {k : Nat} {qv : Value} {st : Nat} (h : MkAt w d rs rv fs k qv st) (r : Ru) (hok : okRu d.pr d.lk r = true) (hst : st ≤ 10000000000) (hrs : rs.length ≤ 100000) (ra : List Ru) (hra : r ∈ ra) :
    Calls Tryz.prog 186 #[.pointer (some ⟨d.K, 0, none⟩), ruv r] w fun e w' => e = .returned (.tuple #[]) ∧ ∃ rv' fs' qv' st', MkAt w' d (rs ++ [r]) rv' fs' k qv' st' ∧ Below d.F w w' ∧ Grow d.lk ra fs fs' ∧ MemP r fs' ∧ st' ≤ st + 2 := by
  have p64 := h.ok.p64
  have l64 := h.ok.l64
  have hnn : d.n ≤ 64 * 64 := Nat.mul_le_mul p64 l64
  have hlow := h.lowF
  obtain ⟨infr, hir, hr0, hr1, hr2⟩ := info_parts ru_info
  have HIR := Lib.hid hir
  clear hir
  have SN := Lib.hid (rowL_snoc d.n rs r)
  have hcases := okRu_cases hok
  have hstw : IntKind.i64.wrap ((st : Int) + 1) = (st : Int) + 1 := Go.IntWalk.i64_in _ (by omega)
  have hMK : d.M < d.K := h.ok.o4
  obtain ⟨ck, fk, zk⟩ := h.b.kk
  obtain ⟨cm, fm, zm⟩ := h.b.mm
  have hMC : d.M < w.heap.size := zm
  have HL := fun p => rowL_len d.n rs p
  clear hok
  rcases hcases with ⟨h0, x0, rfl, hh, hx⟩ | ⟨h0, a0, rfl, hh, ha⟩ | ⟨h0, a0, v0, rfl, hh, ha, hv⟩ | ⟨h0, a0, b0, rfl, hh, ha, hb⟩
  · have hh : h0 < d.n := hh
    obtain ⟨w3, hw3⟩ : ∃ V, V = (w.setCell ⟨d.M, 3, none⟩ (.int .i64 ((st : Int) + 1))).alloc (.cells #[.int .i64 1, .int .i64 h0, .int .i64 x0, .int .i64 0, .int .i64 0, .int .i64 0] 196) := ⟨_, rfl⟩
    have HA := Lib.hid (show MkAt w3 d rs rv fs k qv (st + 1) by rw [hw3]; exact (h.steps (st + 1)).below ((Below.refl _ _).alloc (Nat.le_refl _) _))
    have HB := Lib.hid (show Below d.F w w3 by rw [hw3]; exact (kp_low (Kp.set (X := mkX d qv) (w := w) (o := 3) (v := .int .i64 ((st : Int) + 1)) (.inl rfl)) hlow (mkX_ge h)).alloc (by simpa using hlow) _)
    have HR3 := Lib.hid (show Blk w3 w.heap.size #[.int .i64 1, .int .i64 h0, .int .i64 x0, .int .i64 0, .int .i64 0, .int .i64 0] by rw [hw3]; have := Blk.new (w.setCell ⟨d.M, 3, none⟩ (.int .i64 ((st : Int) + 1))) #[.int .i64 1, .int .i64 h0, .int .i64 x0, .int .i64 0, .int .i64 0, .int .i64 0] 196; simpa using this)
    have hbC : d.C ≤ w.heap.size := h.b.le
    have hbR : ∀ p, p < d.n + d.lk → ∀ g, (rv p).ownBlock = some g → g ≠ w.heap.size := fun p hp g hg e => by have := ((h.b.own p hp).lt g hg).2; omega
    have hbQ : ∀ g, qv.ownBlock = some g → g ≠ w.heap.size := fun g hg e => by have := (h.qge g hg).2; omega
    clear h
    have AD := Lib.hid (mk_add HA.out h0 x0 hh hx (by omega))
    have HGA := Lib.hid (Grow.add (lk := d.lk) (rs := ra) (fs := fs) (r := h0) (c := x0) (fun E hE _ => hE.mem _ hra rfl))
    go_enter Tryz.func186, Tryz.ntmps186
    go_wp2_with fail
    rw [← hw3]
    clear hw3 ck fk zk cm fm zm
    refine AD.out.mono ?_
    rintro e w4 ⟨rfl, qv2, hmm⟩
    have HM4 := Lib.hid hmm
    clear hmm AD
    go_wp2
    go_end0
    refine ⟨rfl, rv, _, qv2, st + 1 + 1, ?_, HB.out.trans (kp_low HM4.out.kp HA.out.lowF (mkX_ge HA.out)), HGA.out, fun _ => addF_mem _ _ _, by omega⟩
    exact HM4.out.a.r.at (fun p hp => by rw [SN.out p]; unfold takesR; simp)
  · have hh : h0 < d.n := hh
    have ha : a0 < d.n := ha
    obtain ⟨w3, hw3⟩ : ∃ V, V = (w.setCell ⟨d.M, 3, none⟩ (.int .i64 ((st : Int) + 1))).alloc (.cells #[.int .i64 2, .int .i64 h0, .int .i64 0, .int .i64 a0, .int .i64 0, .int .i64 0] 196) := ⟨_, rfl⟩
    have HA := Lib.hid (show MkAt w3 d rs rv fs k qv (st + 1) by rw [hw3]; exact (h.steps (st + 1)).below ((Below.refl _ _).alloc (Nat.le_refl _) _))
    have HB := Lib.hid (show Below d.F w w3 by rw [hw3]; exact (kp_low (Kp.set (X := mkX d qv) (w := w) (o := 3) (v := .int .i64 ((st : Int) + 1)) (.inl rfl)) hlow (mkX_ge h)).alloc (by simpa using hlow) _)
    have HR3 := Lib.hid (show Blk w3 w.heap.size #[.int .i64 2, .int .i64 h0, .int .i64 0, .int .i64 a0, .int .i64 0, .int .i64 0] by rw [hw3]; have := Blk.new (w.setCell ⟨d.M, 3, none⟩ (.int .i64 ((st : Int) + 1))) #[.int .i64 2, .int .i64 h0, .int .i64 0, .int .i64 a0, .int .i64 0, .int .i64 0] 196; simpa using this)
    have hbC : d.C ≤ w.heap.size := h.b.le
    have hbR : ∀ p, p < d.n + d.lk → ∀ g, (rv p).ownBlock = some g → g ≠ w.heap.size := fun p hp g hg e => by have := ((h.b.own p hp).lt g hg).2; omega
    have hbQ : ∀ g, qv.ownBlock = some g → g ≠ w.heap.size := fun g hg e => by have := (h.qge g hg).2; omega
    clear h
    have HR0 := Lib.hid HA.out.r
    have HB0 := HR3
    have HW0 := HB
    have hbR0 := hbR
    clear HA HR3 HB hbR
    go_enter Tryz.func186, Tryz.ntmps186
    go_wp2_with fail
    rw [← hw3]
    clear hw3 ck fk zk cm fm zm
    have hL0 : (rowL d.n rs (a0)).length ≤ 100001 := Nat.le_succ_of_le (Nat.le_trans (HL _) hrs)
    have hown0 := HR0.out.own (a0) (by omega)
    obtain ⟨ro0, rc0, hrv0⟩ := own_form hown0
    obtain ⟨L0, hLe0⟩ : ∃ L, L = (rowL d.n rs (a0)).length := ⟨_, rfl⟩
    rw [← hLe0] at hrv0 hL0
    have HLe0 := Lib.hid hLe0
    have HRV0 := Lib.hid hrv0
    rw [hrv0, ← hLe0] at hown0
    have HOW0 := Lib.hid hown0
    have HRa := HR0.out.below (below_drew (Below.refl _ _))
    have hcell0 : (w3.drew).cell? ⟨d.BY, a0, none⟩ = some (.slice ro0 L0 rc0) := by have := (HRa.by_).1 (a0); rw [arrOf_get, if_pos ha, hrv0] at this; exact this
    have HRd := Lib.hid HRa
    have HBd := Lib.hid (HB0.out.below (below_drew (Below.refl _ _)))
    have HWd := Lib.hid (HW0.out.trans ((below_drew (Below.refl _ _)).mono (HR0.out.f.ff.2.2 |> Nat.le_of_lt)))
    have HOd := Lib.hid (own_below HOW0.out (below_drew (Below.refl w3.heap.size w3)))
    clear HRa hown0 HOW0 hLe0
    refine wp_region_last (S := (fun W => (∀ o, W.cell? ⟨d.K, o, none⟩ = (#[.pointer (some ⟨d.M, 0, none⟩), .slice (some ⟨d.BY, 0, none⟩) d.n d.n, .slice (some ⟨d.VIA, 0, none⟩) d.lk d.lk, qv] : Array Value)[o]?) ∧ (∀ o, W.cell? ⟨w.heap.size, o, none⟩ = (#[.int .i64 2, .int .i64 h0, .int .i64 0, .int .i64 a0, .int .i64 0, .int .i64 0] : Array Value)[o]?) ∧ W.cell? ⟨d.BY, a0, none⟩ = some (.slice ro0 L0 rc0))) 18 (by kernel_rfl) ⟨HRd.out.kk.1, HBd.out.1, hcell0⟩ (fun hHeld => ?_)
    obtain ⟨wd0, hwd⟩ : ∃ W, W = w3.drew := ⟨_, rfl⟩
    rw [← hwd] at HRd HBd HWd HOd hHeld hcell0 ⊢
    clear hwd hrv0 HR0 HB0 HW0
    (refine lyes 0 ?_); (refine lyes 1 ?_); (refine lyes 2 ?_); (refine lyes 3 ?_); (refine lyes 4 ?_); (refine lyes 5 ?_); (refine lyes 6 ?_); (refine lyes 7 ?_); (refine lyes 8 ?_); (refine lyes 9 ?_); (refine lyes 10 ?_); (refine lyes 11 ?_); (refine lyes 12 ?_); (refine lyes 13 ?_); (refine lyes 14 ?_); (try simp only [Act.put, List.setIfInBounds_toArray, List.set])
    (refine last_call 15 rfl (by kernel_rfl) (fun K hK => ?_); go_simp)
    have hba : Below wd0.heap.size wd0 (wd0.alloc (.cells #[.int .i64 2, .int .i64 h0, .int .i64 0, .int .i64 a0, .int .i64 0, .int .i64 0] 196)) := (Below.refl _ _).alloc (Nat.le_refl _) _
    have hne := Blk.new wd0 #[.int .i64 2, .int .i64 h0, .int .i64 0, .int .i64 a0, .int .i64 0, .int .i64 0] 196
    have hce := (hba.cell (p := ⟨d.BY, a0, none⟩) (World.block_lt_of_cell? wd0 _ hcell0)).trans hcell0
    have HRe := Lib.hid (HRd.out.below hba)
    have HBe := Lib.hid (HBd.out.below hba)
    have HWe := Lib.hid (HWd.out.trans (hba.mono (Nat.le_of_lt HRd.out.f.ff.2.2)))
    have HOe := own_below HOd.out hba
    (refine hK.out _ _ ⟨HRe.out.kk.1, HBe.out.1, hce⟩ (fun hHeld => ?_); clear hK K; (try simp only [Act.put, List.setIfInBounds_toArray, List.set]))
    refine last_call 16 rfl (by kernel_rfl) (fun K hK => ?_)
    refine step_rowE rfl _ _ 153 rfl d.C 196 infr _ 6 48 Tryz.underlying153 HIR.out hr0 hr1 hr2 (Nat.le_of_ble_eq_true rfl) rfl (Nat.le_of_ble_eq_true rfl) _ L0 _ rfl HOe _ 1 _ rfl (slA_one hne) (ru1 _ _ _ _ _ _) (by omega) HRe.out.le ?_
    intro s0 c0 w5 ho5 hg5 hn5
    have hk5 : Kp (fun b => some b = (Value.slice ro0 L0 rc0).ownBlock) (wd0.alloc (.cells #[.int .i64 2, .int .i64 h0, .int .i64 0, .int .i64 a0, .int .i64 0, .int .i64 0] 196)) w5 := Kp.of_grown hg5 (fun b hb => hb)
    have hgX : ∀ b, b < d.C → ¬ some b = (Value.slice ro0 L0 rc0).ownBlock := fun b hb e => by have := (HOe.lt b e.symm).1; omega
    have hK5 := hk5.blk HRe.out.kk (hgX _ (by have := HRe.out.ok.o5; have := HRe.out.ok.o8; omega))
    have hB5 := hk5.blk HBe.out (fun e => hbR0 (a0) (by omega) _ (by rw [HRV0.out]; exact e.symm) rfl)
    have hc5 := (World.cell?_of_block (a := ⟨d.BY, a0, none⟩) (hk5.block _ (World.block_lt_of_cell? _ _ hce) (hgX _ HRe.out.ok.o8))).trans hce
    (refine hK.out _ _ ⟨hK5.1, hB5.1, hc5⟩ (fun hHeld => ?_); clear hK K; (try simp only [Act.put, List.setIfInBounds_toArray, List.set]))
    (refine lyes 17 ?_); (try simp only [Act.put, List.setIfInBounds_toArray, List.set])
    have hf5 : w5.frozen? ⟨d.BY, a0, none⟩ = false := ((hk5.blk HRe.out.by_ (hgX _ HRe.out.ok.o8)).2.1 _)
    have HP := Lib.hid (HRe.out.put (p := a0) (by omega) (r := ⟨2, h0, 0, a0, 0, 0⟩) (v' := .slice s0 (L0 + 1) c0) (w1 := w5) (by rw [List.length_append, List.flatMap_append, ← HLe0.out]; exact ho5) (by rw [HRV0.out]; exact hg5) (by rw [HRV0.out]; exact hn5))
    have HPB := Lib.hid (Kp.blk (X := fun b => b = d.BY) (Kp.set (b := d.BY) (o := a0) (v := .slice s0 (L0 + 1) c0) rfl) hB5 (by have := HRe.out.ok.o8; have := HRe.out.ok.o9; omega))
    clear hba hne hce hk5 hgX hK5 hB5 HRd HBd HOd HOe ho5 hg5
    (refine last_end 18 rfl (by kernel_rfl) (by kernel_rfl) (fun K hK => ?_); go_simp)
    clear hc5 hf5
    refine hK.out _ _ ?_
    clear hK K
    have hst9 := HP.out
    rw [show (if a0 < d.n then (⟨d.BY, a0, none⟩ : Addr) else ⟨d.VIA, a0 - d.n, none⟩) = ⟨d.BY, a0, none⟩ from if_pos ha] at hst9
    obtain ⟨w1, hw1⟩ : ∃ V, V = w5.setCell ⟨d.BY, a0, none⟩ (.slice s0 (L0 + 1) c0) := ⟨_, rfl⟩
    rw [← hw1] at hst9 HPB ⊢
    clear hw1
    have HR1 := Lib.hid hst9.1
    have HW1 := Lib.hid (HWe.out.trans hst9.2)
    have HB1 := HPB
    have hnew : Value.ownBlock (.slice s0 (L0 + 1) c0) ≠ some w.heap.size := fun e => hn5 w.heap.size HBe.out.2.2 (fun e2 => hbR0 (a0) (by omega) _ (by rw [HRV0.out]; exact e2.symm) rfl) e.symm
    have hbR1 : ∀ q, q < d.n + d.lk → ∀ g, (rowPut (rv) (a0) (.slice s0 (L0 + 1) c0) q).ownBlock = some g → g ≠ w.heap.size := fun q hq g hg => by
      unfold rowPut at hg
      by_cases e : q = a0
      · rw [if_pos e] at hg
        intro eg
        exact hnew (eg ▸ hg)
      · rw [if_neg e] at hg; exact hbR0 q hq g hg
    clear HP HPB HWe HRe HBe hn5 hst9 hnew
    go_wp2
    go_end0
    refine ⟨rfl, _, fs, qv, st + 1, HR1.out.at (fun p hp => ?_), HW1.out, Grow.refl _ _ _, (fun e => by simp at e), by omega⟩
    rw [SN.out p]
    unfold takesR
    by_cases e : p = a0
    · subst e; rw [if_pos rfl, if_pos ha]; simp
    · rw [if_neg e]
      by_cases hpn : p < d.n
      · rw [if_pos hpn]; simp; omega
      · rw [if_neg hpn]; simp
  · have hh : h0 < d.n := hh
    have ha : a0 < d.n := ha
    obtain ⟨w3, hw3⟩ : ∃ V, V = (w.setCell ⟨d.M, 3, none⟩ (.int .i64 ((st : Int) + 1))).alloc (.cells #[.int .i64 3, .int .i64 h0, .int .i64 0, .int .i64 a0, .int .i64 0, .int .i64 v0] 196) := ⟨_, rfl⟩
    have HA := Lib.hid (show MkAt w3 d rs rv fs k qv (st + 1) by rw [hw3]; exact (h.steps (st + 1)).below ((Below.refl _ _).alloc (Nat.le_refl _) _))
    have HB := Lib.hid (show Below d.F w w3 by rw [hw3]; exact (kp_low (Kp.set (X := mkX d qv) (w := w) (o := 3) (v := .int .i64 ((st : Int) + 1)) (.inl rfl)) hlow (mkX_ge h)).alloc (by simpa using hlow) _)
    have HR3 := Lib.hid (show Blk w3 w.heap.size #[.int .i64 3, .int .i64 h0, .int .i64 0, .int .i64 a0, .int .i64 0, .int .i64 v0] by rw [hw3]; have := Blk.new (w.setCell ⟨d.M, 3, none⟩ (.int .i64 ((st : Int) + 1))) #[.int .i64 3, .int .i64 h0, .int .i64 0, .int .i64 a0, .int .i64 0, .int .i64 v0] 196; simpa using this)
    have hbC : d.C ≤ w.heap.size := h.b.le
    have hbR : ∀ p, p < d.n + d.lk → ∀ g, (rv p).ownBlock = some g → g ≠ w.heap.size := fun p hp g hg e => by have := ((h.b.own p hp).lt g hg).2; omega
    have hbQ : ∀ g, qv.ownBlock = some g → g ≠ w.heap.size := fun g hg e => by have := (h.qge g hg).2; omega
    clear h
    have HR0 := Lib.hid HA.out.r
    have HB0 := HR3
    have HW0 := HB
    have hbR0 := hbR
    clear HA HR3 HB hbR
    go_enter Tryz.func186, Tryz.ntmps186
    go_wp2_with fail
    rw [← hw3]
    clear hw3 ck fk zk cm fm zm
    have hL0 : (rowL d.n rs (d.n + v0)).length ≤ 100001 := Nat.le_succ_of_le (Nat.le_trans (HL _) hrs)
    have hown0 := HR0.out.own (d.n + v0) (by omega)
    obtain ⟨ro0, rc0, hrv0⟩ := own_form hown0
    obtain ⟨L0, hLe0⟩ : ∃ L, L = (rowL d.n rs (d.n + v0)).length := ⟨_, rfl⟩
    rw [← hLe0] at hrv0 hL0
    have HLe0 := Lib.hid hLe0
    have HRV0 := Lib.hid hrv0
    rw [hrv0, ← hLe0] at hown0
    have HOW0 := Lib.hid hown0
    have HRa := HR0.out.below (below_drew (Below.refl _ _))
    have hcell0 : (w3.drew).cell? ⟨d.VIA, v0, none⟩ = some (.slice ro0 L0 rc0) := by have := (HRa.via).1 (v0); rw [arrOf_get, if_pos hv, hrv0] at this; exact this
    have HRd := Lib.hid HRa
    have HBd := Lib.hid (HB0.out.below (below_drew (Below.refl _ _)))
    have HWd := Lib.hid (HW0.out.trans ((below_drew (Below.refl _ _)).mono (HR0.out.f.ff.2.2 |> Nat.le_of_lt)))
    have HOd := Lib.hid (own_below HOW0.out (below_drew (Below.refl w3.heap.size w3)))
    clear HRa hown0 HOW0 hLe0
    refine wp_region_last (S := (fun W => (∀ o, W.cell? ⟨d.K, o, none⟩ = (#[.pointer (some ⟨d.M, 0, none⟩), .slice (some ⟨d.BY, 0, none⟩) d.n d.n, .slice (some ⟨d.VIA, 0, none⟩) d.lk d.lk, qv] : Array Value)[o]?) ∧ (∀ o, W.cell? ⟨w.heap.size, o, none⟩ = (#[.int .i64 3, .int .i64 h0, .int .i64 0, .int .i64 a0, .int .i64 0, .int .i64 v0] : Array Value)[o]?) ∧ W.cell? ⟨d.VIA, v0, none⟩ = some (.slice ro0 L0 rc0))) 18 (by kernel_rfl) ⟨HRd.out.kk.1, HBd.out.1, hcell0⟩ (fun hHeld => ?_)
    obtain ⟨wd0, hwd⟩ : ∃ W, W = w3.drew := ⟨_, rfl⟩
    rw [← hwd] at HRd HBd HWd HOd hHeld hcell0 ⊢
    clear hwd hrv0 HR0 HB0 HW0
    (refine lyes 0 ?_); (refine lyes 1 ?_); (refine lyes 2 ?_); (refine lyes 3 ?_); (refine lyes 4 ?_); (refine lyes 5 ?_); (refine lyes 6 ?_); (refine lyes 7 ?_); (refine lyes 8 ?_); (refine lyes 9 ?_); (refine lyes 10 ?_); (refine lyes 11 ?_); (refine lyes 12 ?_); (refine lyes 13 ?_); (refine lyes 14 ?_); (try simp only [Act.put, List.setIfInBounds_toArray, List.set])
    (refine last_call 15 rfl (by kernel_rfl) (fun K hK => ?_); go_simp)
    have hba : Below wd0.heap.size wd0 (wd0.alloc (.cells #[.int .i64 3, .int .i64 h0, .int .i64 0, .int .i64 a0, .int .i64 0, .int .i64 v0] 196)) := (Below.refl _ _).alloc (Nat.le_refl _) _
    have hne := Blk.new wd0 #[.int .i64 3, .int .i64 h0, .int .i64 0, .int .i64 a0, .int .i64 0, .int .i64 v0] 196
    have hce := (hba.cell (p := ⟨d.VIA, v0, none⟩) (World.block_lt_of_cell? wd0 _ hcell0)).trans hcell0
    have HRe := Lib.hid (HRd.out.below hba)
    have HBe := Lib.hid (HBd.out.below hba)
    have HWe := Lib.hid (HWd.out.trans (hba.mono (Nat.le_of_lt HRd.out.f.ff.2.2)))
    have HOe := own_below HOd.out hba
    (refine hK.out _ _ ⟨HRe.out.kk.1, HBe.out.1, hce⟩ (fun hHeld => ?_); clear hK K; (try simp only [Act.put, List.setIfInBounds_toArray, List.set]))
    refine last_call 16 rfl (by kernel_rfl) (fun K hK => ?_)
    refine step_rowE rfl _ _ 153 rfl d.C 196 infr _ 6 48 Tryz.underlying153 HIR.out hr0 hr1 hr2 (Nat.le_of_ble_eq_true rfl) rfl (Nat.le_of_ble_eq_true rfl) _ L0 _ rfl HOe _ 1 _ rfl (slA_one hne) (ru1 _ _ _ _ _ _) (by omega) HRe.out.le ?_
    intro s0 c0 w5 ho5 hg5 hn5
    have hk5 : Kp (fun b => some b = (Value.slice ro0 L0 rc0).ownBlock) (wd0.alloc (.cells #[.int .i64 3, .int .i64 h0, .int .i64 0, .int .i64 a0, .int .i64 0, .int .i64 v0] 196)) w5 := Kp.of_grown hg5 (fun b hb => hb)
    have hgX : ∀ b, b < d.C → ¬ some b = (Value.slice ro0 L0 rc0).ownBlock := fun b hb e => by have := (HOe.lt b e.symm).1; omega
    have hK5 := hk5.blk HRe.out.kk (hgX _ (by have := HRe.out.ok.o5; have := HRe.out.ok.o8; omega))
    have hB5 := hk5.blk HBe.out (fun e => hbR0 (d.n + v0) (by omega) _ (by rw [HRV0.out]; exact e.symm) rfl)
    have hc5 := (World.cell?_of_block (a := ⟨d.VIA, v0, none⟩) (hk5.block _ (World.block_lt_of_cell? _ _ hce) (hgX _ HRe.out.ok.o9))).trans hce
    (refine hK.out _ _ ⟨hK5.1, hB5.1, hc5⟩ (fun hHeld => ?_); clear hK K; (try simp only [Act.put, List.setIfInBounds_toArray, List.set]))
    (refine lyes 17 ?_); (try simp only [Act.put, List.setIfInBounds_toArray, List.set])
    have hf5 : w5.frozen? ⟨d.VIA, v0, none⟩ = false := ((hk5.blk HRe.out.via (hgX _ HRe.out.ok.o9)).2.1 _)
    have HP := Lib.hid (HRe.out.put (p := d.n + v0) (by omega) (r := ⟨3, h0, 0, a0, 0, v0⟩) (v' := .slice s0 (L0 + 1) c0) (w1 := w5) (by rw [List.length_append, List.flatMap_append, ← HLe0.out]; exact ho5) (by rw [HRV0.out]; exact hg5) (by rw [HRV0.out]; exact hn5))
    have HPB := Lib.hid (Kp.blk (X := fun b => b = d.VIA) (Kp.set (b := d.VIA) (o := v0) (v := .slice s0 (L0 + 1) c0) rfl) hB5 (by have := HRe.out.ok.o8; have := HRe.out.ok.o9; omega))
    clear hba hne hce hk5 hgX hK5 hB5 HRd HBd HOd HOe ho5 hg5
    (refine last_end 18 rfl (by kernel_rfl) (by kernel_rfl) (fun K hK => ?_); go_simp)
    clear hc5 hf5
    refine hK.out _ _ ?_
    clear hK K
    have hst9 := HP.out
    rw [show (if d.n + v0 < d.n then (⟨d.BY, d.n + v0, none⟩ : Addr) else ⟨d.VIA, d.n + v0 - d.n, none⟩) = ⟨d.VIA, v0, none⟩ from (if_neg (by omega)).trans (by rw [Nat.add_sub_cancel_left])] at hst9
    obtain ⟨w1, hw1⟩ : ∃ V, V = w5.setCell ⟨d.VIA, v0, none⟩ (.slice s0 (L0 + 1) c0) := ⟨_, rfl⟩
    rw [← hw1] at hst9 HPB ⊢
    clear hw1
    have HR1 := Lib.hid hst9.1
    have HW1 := Lib.hid (HWe.out.trans hst9.2)
    have HB1 := HPB
    have hnew : Value.ownBlock (.slice s0 (L0 + 1) c0) ≠ some w.heap.size := fun e => hn5 w.heap.size HBe.out.2.2 (fun e2 => hbR0 (d.n + v0) (by omega) _ (by rw [HRV0.out]; exact e2.symm) rfl) e.symm
    have hbR1 : ∀ q, q < d.n + d.lk → ∀ g, (rowPut (rv) (d.n + v0) (.slice s0 (L0 + 1) c0) q).ownBlock = some g → g ≠ w.heap.size := fun q hq g hg => by
      unfold rowPut at hg
      by_cases e : q = d.n + v0
      · rw [if_pos e] at hg
        intro eg
        exact hnew (eg ▸ hg)
      · rw [if_neg e] at hg; exact hbR0 q hq g hg
    clear HP HPB HWe HRe HBe hn5 hst9 hnew
    go_wp2_with fail
    have hL1 : ((fun q => if q = d.n + v0 then rowL d.n rs (d.n + v0) ++ [⟨3, h0, 0, a0, 0, v0⟩] else rowL d.n rs q) (a0)).length ≤ 100001 := by dsimp only; rw [if_neg (show ¬ a0 = d.n + v0 by omega)]; exact Nat.le_succ_of_le (Nat.le_trans (HL _) hrs)
    have hown1 := HR1.out.own (a0) (by omega)
    obtain ⟨ro1, rc1, hrv1⟩ := own_form hown1
    obtain ⟨L1, hLe1⟩ : ∃ L, L = ((fun q => if q = d.n + v0 then rowL d.n rs (d.n + v0) ++ [⟨3, h0, 0, a0, 0, v0⟩] else rowL d.n rs q) (a0)).length := ⟨_, rfl⟩
    rw [← hLe1] at hrv1 hL1
    have HLe1 := Lib.hid hLe1
    have HRV1 := Lib.hid hrv1
    rw [hrv1, ← hLe1] at hown1
    have HOW1 := Lib.hid hown1
    have HRa := HR1.out.below (below_drew (Below.refl _ _))
    have hcell1 : (w1.drew).cell? ⟨d.BY, a0, none⟩ = some (.slice ro1 L1 rc1) := by have := (HRa.by_).1 (a0); rw [arrOf_get, if_pos ha, hrv1] at this; exact this
    have HRd := Lib.hid HRa
    have HBd := Lib.hid (HB1.out.below (below_drew (Below.refl _ _)))
    have HWd := Lib.hid (HW1.out.trans ((below_drew (Below.refl _ _)).mono (HR1.out.f.ff.2.2 |> Nat.le_of_lt)))
    have HOd := Lib.hid (own_below HOW1.out (below_drew (Below.refl w1.heap.size w1)))
    clear HRa hown1 HOW1 hLe1
    refine wp_region_last (S := (fun W => (∀ o, W.cell? ⟨d.K, o, none⟩ = (#[.pointer (some ⟨d.M, 0, none⟩), .slice (some ⟨d.BY, 0, none⟩) d.n d.n, .slice (some ⟨d.VIA, 0, none⟩) d.lk d.lk, qv] : Array Value)[o]?) ∧ (∀ o, W.cell? ⟨w.heap.size, o, none⟩ = (#[.int .i64 3, .int .i64 h0, .int .i64 0, .int .i64 a0, .int .i64 0, .int .i64 v0] : Array Value)[o]?) ∧ W.cell? ⟨d.BY, a0, none⟩ = some (.slice ro1 L1 rc1))) 18 (by kernel_rfl) ⟨HRd.out.kk.1, HBd.out.1, hcell1⟩ (fun hHeld => ?_)
    obtain ⟨wd1, hwd⟩ : ∃ W, W = w1.drew := ⟨_, rfl⟩
    rw [← hwd] at HRd HBd HWd HOd hHeld hcell1 ⊢
    clear hwd hrv1 HR1 HB1 HW1
    (refine lyes 0 ?_); (refine lyes 1 ?_); (refine lyes 2 ?_); (refine lyes 3 ?_); (refine lyes 4 ?_); (refine lyes 5 ?_); (refine lyes 6 ?_); (refine lyes 7 ?_); (refine lyes 8 ?_); (refine lyes 9 ?_); (refine lyes 10 ?_); (refine lyes 11 ?_); (refine lyes 12 ?_); (refine lyes 13 ?_); (refine lyes 14 ?_); (try simp only [Act.put, List.setIfInBounds_toArray, List.set])
    (refine last_call 15 rfl (by kernel_rfl) (fun K hK => ?_); go_simp)
    have hba : Below wd1.heap.size wd1 (wd1.alloc (.cells #[.int .i64 3, .int .i64 h0, .int .i64 0, .int .i64 a0, .int .i64 0, .int .i64 v0] 196)) := (Below.refl _ _).alloc (Nat.le_refl _) _
    have hne := Blk.new wd1 #[.int .i64 3, .int .i64 h0, .int .i64 0, .int .i64 a0, .int .i64 0, .int .i64 v0] 196
    have hce := (hba.cell (p := ⟨d.BY, a0, none⟩) (World.block_lt_of_cell? wd1 _ hcell1)).trans hcell1
    have HRe := Lib.hid (HRd.out.below hba)
    have HBe := Lib.hid (HBd.out.below hba)
    have HWe := Lib.hid (HWd.out.trans (hba.mono (Nat.le_of_lt HRd.out.f.ff.2.2)))
    have HOe := own_below HOd.out hba
    (refine hK.out _ _ ⟨HRe.out.kk.1, HBe.out.1, hce⟩ (fun hHeld => ?_); clear hK K; (try simp only [Act.put, List.setIfInBounds_toArray, List.set]))
    refine last_call 16 rfl (by kernel_rfl) (fun K hK => ?_)
    refine step_rowE rfl _ _ 153 rfl d.C 196 infr _ 6 48 Tryz.underlying153 HIR.out hr0 hr1 hr2 (Nat.le_of_ble_eq_true rfl) rfl (Nat.le_of_ble_eq_true rfl) _ L1 _ rfl HOe _ 1 _ rfl (slA_one hne) (ru1 _ _ _ _ _ _) (by omega) HRe.out.le ?_
    intro s1 c1 w5 ho5 hg5 hn5
    have hk5 : Kp (fun b => some b = (Value.slice ro1 L1 rc1).ownBlock) (wd1.alloc (.cells #[.int .i64 3, .int .i64 h0, .int .i64 0, .int .i64 a0, .int .i64 0, .int .i64 v0] 196)) w5 := Kp.of_grown hg5 (fun b hb => hb)
    have hgX : ∀ b, b < d.C → ¬ some b = (Value.slice ro1 L1 rc1).ownBlock := fun b hb e => by have := (HOe.lt b e.symm).1; omega
    have hK5 := hk5.blk HRe.out.kk (hgX _ (by have := HRe.out.ok.o5; have := HRe.out.ok.o8; omega))
    have hB5 := hk5.blk HBe.out (fun e => hbR1 (a0) (by omega) _ (by rw [HRV1.out]; exact e.symm) rfl)
    have hc5 := (World.cell?_of_block (a := ⟨d.BY, a0, none⟩) (hk5.block _ (World.block_lt_of_cell? _ _ hce) (hgX _ HRe.out.ok.o8))).trans hce
    (refine hK.out _ _ ⟨hK5.1, hB5.1, hc5⟩ (fun hHeld => ?_); clear hK K; (try simp only [Act.put, List.setIfInBounds_toArray, List.set]))
    (refine lyes 17 ?_); (try simp only [Act.put, List.setIfInBounds_toArray, List.set])
    have hf5 : w5.frozen? ⟨d.BY, a0, none⟩ = false := ((hk5.blk HRe.out.by_ (hgX _ HRe.out.ok.o8)).2.1 _)
    have HP := Lib.hid (HRe.out.put (p := a0) (by omega) (r := ⟨3, h0, 0, a0, 0, v0⟩) (v' := .slice s1 (L1 + 1) c1) (w1 := w5) (by rw [List.length_append, List.flatMap_append, ← HLe1.out]; exact ho5) (by rw [HRV1.out]; exact hg5) (by rw [HRV1.out]; exact hn5))
    have HPB := Lib.hid (Kp.blk (X := fun b => b = d.BY) (Kp.set (b := d.BY) (o := a0) (v := .slice s1 (L1 + 1) c1) rfl) hB5 (by have := HRe.out.ok.o8; have := HRe.out.ok.o9; omega))
    clear hba hne hce hk5 hgX hK5 hB5 HRd HBd HOd HOe ho5 hg5
    (refine last_end 18 rfl (by kernel_rfl) (by kernel_rfl) (fun K hK => ?_); go_simp)
    clear hc5 hf5
    refine hK.out _ _ ?_
    clear hK K
    have hst9 := HP.out
    rw [show (if a0 < d.n then (⟨d.BY, a0, none⟩ : Addr) else ⟨d.VIA, a0 - d.n, none⟩) = ⟨d.BY, a0, none⟩ from if_pos ha] at hst9
    obtain ⟨w2, hw2⟩ : ∃ V, V = w5.setCell ⟨d.BY, a0, none⟩ (.slice s1 (L1 + 1) c1) := ⟨_, rfl⟩
    rw [← hw2] at hst9 HPB ⊢
    clear hw2
    have HR2 := Lib.hid hst9.1
    have HW2 := Lib.hid (HWe.out.trans hst9.2)
    have HB2 := HPB
    have hnew : Value.ownBlock (.slice s1 (L1 + 1) c1) ≠ some w.heap.size := fun e => hn5 w.heap.size HBe.out.2.2 (fun e2 => hbR1 (a0) (by omega) _ (by rw [HRV1.out]; exact e2.symm) rfl) e.symm
    have hbR2 : ∀ q, q < d.n + d.lk → ∀ g, (rowPut (rowPut rv (d.n + v0) (.slice s0 (L0 + 1) c0)) (a0) (.slice s1 (L1 + 1) c1) q).ownBlock = some g → g ≠ w.heap.size := fun q hq g hg => by
      unfold rowPut at hg
      by_cases e : q = a0
      · rw [if_pos e] at hg
        intro eg
        exact hnew (eg ▸ hg)
      · rw [if_neg e] at hg; exact hbR1 q hq g hg
    clear HP HPB HWe HRe HBe hn5 hst9 hnew
    go_wp2
    go_end0
    refine ⟨rfl, _, fs, qv, st + 1, HR2.out.at (fun p hp => ?_), HW2.out, Grow.refl _ _ _, (fun e => by simp at e), by omega⟩
    rw [SN.out p]
    unfold takesR
    by_cases e : p = a0
    · subst e
      rw [if_pos rfl, if_neg (show ¬ p = d.n + v0 by omega), if_pos ha]; simp
    · rw [if_neg e]
      by_cases e2 : p = d.n + v0
      · subst e2
        rw [if_pos rfl, if_neg (show ¬ d.n + v0 < d.n by omega)]; simp
      · rw [if_neg e2]
        by_cases hpn : p < d.n
        · rw [if_pos hpn]; simp; omega
        · rw [if_neg hpn]; simp; omega
  · by_cases hab : a0 = b0
    · subst hab
      have hh : h0 < d.n := hh
      have ha : a0 < d.n := ha
      obtain ⟨w3, hw3⟩ : ∃ V, V = (w.setCell ⟨d.M, 3, none⟩ (.int .i64 ((st : Int) + 1))).alloc (.cells #[.int .i64 4, .int .i64 h0, .int .i64 0, .int .i64 a0, .int .i64 a0, .int .i64 0] 196) := ⟨_, rfl⟩
      have HA := Lib.hid (show MkAt w3 d rs rv fs k qv (st + 1) by rw [hw3]; exact (h.steps (st + 1)).below ((Below.refl _ _).alloc (Nat.le_refl _) _))
      have HB := Lib.hid (show Below d.F w w3 by rw [hw3]; exact (kp_low (Kp.set (X := mkX d qv) (w := w) (o := 3) (v := .int .i64 ((st : Int) + 1)) (.inl rfl)) hlow (mkX_ge h)).alloc (by simpa using hlow) _)
      have HR3 := Lib.hid (show Blk w3 w.heap.size #[.int .i64 4, .int .i64 h0, .int .i64 0, .int .i64 a0, .int .i64 a0, .int .i64 0] by rw [hw3]; have := Blk.new (w.setCell ⟨d.M, 3, none⟩ (.int .i64 ((st : Int) + 1))) #[.int .i64 4, .int .i64 h0, .int .i64 0, .int .i64 a0, .int .i64 a0, .int .i64 0] 196; simpa using this)
      have hbC : d.C ≤ w.heap.size := h.b.le
      have hbR : ∀ p, p < d.n + d.lk → ∀ g, (rv p).ownBlock = some g → g ≠ w.heap.size := fun p hp g hg e => by have := ((h.b.own p hp).lt g hg).2; omega
      have hbQ : ∀ g, qv.ownBlock = some g → g ≠ w.heap.size := fun g hg e => by have := (h.qge g hg).2; omega
      clear h
      have HR0 := Lib.hid HA.out.r
      have HB0 := HR3
      have HW0 := HB
      have hbR0 := hbR
      clear HA HR3 HB hbR
      have dab : ((a0 : Int) != (a0 : Int)) = false := by simp
      go_enter Tryz.func186, Tryz.ntmps186
      go_wp2_with fail
      rw [← hw3]
      clear hw3 ck fk zk cm fm zm
      have hL0 : (rowL d.n rs (a0)).length ≤ 100001 := Nat.le_succ_of_le (Nat.le_trans (HL _) hrs)
      have hown0 := HR0.out.own (a0) (by omega)
      obtain ⟨ro0, rc0, hrv0⟩ := own_form hown0
      obtain ⟨L0, hLe0⟩ : ∃ L, L = (rowL d.n rs (a0)).length := ⟨_, rfl⟩
      rw [← hLe0] at hrv0 hL0
      have HLe0 := Lib.hid hLe0
      have HRV0 := Lib.hid hrv0
      rw [hrv0, ← hLe0] at hown0
      have HOW0 := Lib.hid hown0
      have HRa := HR0.out.below (below_drew (Below.refl _ _))
      have hcell0 : (w3.drew).cell? ⟨d.BY, a0, none⟩ = some (.slice ro0 L0 rc0) := by have := (HRa.by_).1 (a0); rw [arrOf_get, if_pos ha, hrv0] at this; exact this
      have HRd := Lib.hid HRa
      have HBd := Lib.hid (HB0.out.below (below_drew (Below.refl _ _)))
      have HWd := Lib.hid (HW0.out.trans ((below_drew (Below.refl _ _)).mono (HR0.out.f.ff.2.2 |> Nat.le_of_lt)))
      have HOd := Lib.hid (own_below HOW0.out (below_drew (Below.refl w3.heap.size w3)))
      clear HRa hown0 HOW0 hLe0
      refine wp_region_last (S := (fun W => (∀ o, W.cell? ⟨d.K, o, none⟩ = (#[.pointer (some ⟨d.M, 0, none⟩), .slice (some ⟨d.BY, 0, none⟩) d.n d.n, .slice (some ⟨d.VIA, 0, none⟩) d.lk d.lk, qv] : Array Value)[o]?) ∧ (∀ o, W.cell? ⟨w.heap.size, o, none⟩ = (#[.int .i64 4, .int .i64 h0, .int .i64 0, .int .i64 a0, .int .i64 a0, .int .i64 0] : Array Value)[o]?) ∧ W.cell? ⟨d.BY, a0, none⟩ = some (.slice ro0 L0 rc0))) 18 (by kernel_rfl) ⟨HRd.out.kk.1, HBd.out.1, hcell0⟩ (fun hHeld => ?_)
      obtain ⟨wd0, hwd⟩ : ∃ W, W = w3.drew := ⟨_, rfl⟩
      rw [← hwd] at HRd HBd HWd HOd hHeld hcell0 ⊢
      clear hwd hrv0 HR0 HB0 HW0
      (refine lyes 0 ?_); (refine lyes 1 ?_); (refine lyes 2 ?_); (refine lyes 3 ?_); (refine lyes 4 ?_); (refine lyes 5 ?_); (refine lyes 6 ?_); (refine lyes 7 ?_); (refine lyes 8 ?_); (refine lyes 9 ?_); (refine lyes 10 ?_); (refine lyes 11 ?_); (refine lyes 12 ?_); (refine lyes 13 ?_); (refine lyes 14 ?_); (try simp only [Act.put, List.setIfInBounds_toArray, List.set])
      (refine last_call 15 rfl (by kernel_rfl) (fun K hK => ?_); go_simp)
      have hba : Below wd0.heap.size wd0 (wd0.alloc (.cells #[.int .i64 4, .int .i64 h0, .int .i64 0, .int .i64 a0, .int .i64 a0, .int .i64 0] 196)) := (Below.refl _ _).alloc (Nat.le_refl _) _
      have hne := Blk.new wd0 #[.int .i64 4, .int .i64 h0, .int .i64 0, .int .i64 a0, .int .i64 a0, .int .i64 0] 196
      have hce := (hba.cell (p := ⟨d.BY, a0, none⟩) (World.block_lt_of_cell? wd0 _ hcell0)).trans hcell0
      have HRe := Lib.hid (HRd.out.below hba)
      have HBe := Lib.hid (HBd.out.below hba)
      have HWe := Lib.hid (HWd.out.trans (hba.mono (Nat.le_of_lt HRd.out.f.ff.2.2)))
      have HOe := own_below HOd.out hba
      (refine hK.out _ _ ⟨HRe.out.kk.1, HBe.out.1, hce⟩ (fun hHeld => ?_); clear hK K; (try simp only [Act.put, List.setIfInBounds_toArray, List.set]))
      refine last_call 16 rfl (by kernel_rfl) (fun K hK => ?_)
      refine step_rowE rfl _ _ 153 rfl d.C 196 infr _ 6 48 Tryz.underlying153 HIR.out hr0 hr1 hr2 (Nat.le_of_ble_eq_true rfl) rfl (Nat.le_of_ble_eq_true rfl) _ L0 _ rfl HOe _ 1 _ rfl (slA_one hne) (ru1 _ _ _ _ _ _) (by omega) HRe.out.le ?_
      intro s0 c0 w5 ho5 hg5 hn5
      have hk5 : Kp (fun b => some b = (Value.slice ro0 L0 rc0).ownBlock) (wd0.alloc (.cells #[.int .i64 4, .int .i64 h0, .int .i64 0, .int .i64 a0, .int .i64 a0, .int .i64 0] 196)) w5 := Kp.of_grown hg5 (fun b hb => hb)
      have hgX : ∀ b, b < d.C → ¬ some b = (Value.slice ro0 L0 rc0).ownBlock := fun b hb e => by have := (HOe.lt b e.symm).1; omega
      have hK5 := hk5.blk HRe.out.kk (hgX _ (by have := HRe.out.ok.o5; have := HRe.out.ok.o8; omega))
      have hB5 := hk5.blk HBe.out (fun e => hbR0 (a0) (by omega) _ (by rw [HRV0.out]; exact e.symm) rfl)
      have hc5 := (World.cell?_of_block (a := ⟨d.BY, a0, none⟩) (hk5.block _ (World.block_lt_of_cell? _ _ hce) (hgX _ HRe.out.ok.o8))).trans hce
      (refine hK.out _ _ ⟨hK5.1, hB5.1, hc5⟩ (fun hHeld => ?_); clear hK K; (try simp only [Act.put, List.setIfInBounds_toArray, List.set]))
      (refine lyes 17 ?_); (try simp only [Act.put, List.setIfInBounds_toArray, List.set])
      have hf5 : w5.frozen? ⟨d.BY, a0, none⟩ = false := ((hk5.blk HRe.out.by_ (hgX _ HRe.out.ok.o8)).2.1 _)
      have HP := Lib.hid (HRe.out.put (p := a0) (by omega) (r := ⟨4, h0, 0, a0, a0, 0⟩) (v' := .slice s0 (L0 + 1) c0) (w1 := w5) (by rw [List.length_append, List.flatMap_append, ← HLe0.out]; exact ho5) (by rw [HRV0.out]; exact hg5) (by rw [HRV0.out]; exact hn5))
      have HPB := Lib.hid (Kp.blk (X := fun b => b = d.BY) (Kp.set (b := d.BY) (o := a0) (v := .slice s0 (L0 + 1) c0) rfl) hB5 (by have := HRe.out.ok.o8; have := HRe.out.ok.o9; omega))
      clear hba hne hce hk5 hgX hK5 hB5 HRd HBd HOd HOe ho5 hg5
      (refine last_end 18 rfl (by kernel_rfl) (by kernel_rfl) (fun K hK => ?_); go_simp)
      clear hc5 hf5
      refine hK.out _ _ ?_
      clear hK K
      have hst9 := HP.out
      rw [show (if a0 < d.n then (⟨d.BY, a0, none⟩ : Addr) else ⟨d.VIA, a0 - d.n, none⟩) = ⟨d.BY, a0, none⟩ from if_pos ha] at hst9
      obtain ⟨w1, hw1⟩ : ∃ V, V = w5.setCell ⟨d.BY, a0, none⟩ (.slice s0 (L0 + 1) c0) := ⟨_, rfl⟩
      rw [← hw1] at hst9 HPB ⊢
      clear hw1
      have HR1 := Lib.hid hst9.1
      have HW1 := Lib.hid (HWe.out.trans hst9.2)
      have HB1 := HPB
      have hnew : Value.ownBlock (.slice s0 (L0 + 1) c0) ≠ some w.heap.size := fun e => hn5 w.heap.size HBe.out.2.2 (fun e2 => hbR0 (a0) (by omega) _ (by rw [HRV0.out]; exact e2.symm) rfl) e.symm
      have hbR1 : ∀ q, q < d.n + d.lk → ∀ g, (rowPut (rv) (a0) (.slice s0 (L0 + 1) c0) q).ownBlock = some g → g ≠ w.heap.size := fun q hq g hg => by
        unfold rowPut at hg
        by_cases e : q = a0
        · rw [if_pos e] at hg
          intro eg
          exact hnew (eg ▸ hg)
        · rw [if_neg e] at hg; exact hbR0 q hq g hg
      clear HP HPB HWe HRe HBe hn5 hst9 hnew
      go_wp2
      go_end0
      refine ⟨rfl, _, fs, qv, st + 1, HR1.out.at (fun p hp => ?_), HW1.out, Grow.refl _ _ _, (fun e => by simp at e), by omega⟩
      rw [SN.out p]
      unfold takesR
      by_cases e : p = a0
      · subst e; rw [if_pos rfl, if_pos ha]; simp
      · rw [if_neg e]
        by_cases hpn : p < d.n
        · rw [if_pos hpn]; simp; omega
        · rw [if_neg hpn]; simp
    · have hh : h0 < d.n := hh
      have ha : a0 < d.n := ha
      have hb : b0 < d.n := hb
      obtain ⟨w3, hw3⟩ : ∃ V, V = (w.setCell ⟨d.M, 3, none⟩ (.int .i64 ((st : Int) + 1))).alloc (.cells #[.int .i64 4, .int .i64 h0, .int .i64 0, .int .i64 a0, .int .i64 b0, .int .i64 0] 196) := ⟨_, rfl⟩
      have HA := Lib.hid (show MkAt w3 d rs rv fs k qv (st + 1) by rw [hw3]; exact (h.steps (st + 1)).below ((Below.refl _ _).alloc (Nat.le_refl _) _))
      have HB := Lib.hid (show Below d.F w w3 by rw [hw3]; exact (kp_low (Kp.set (X := mkX d qv) (w := w) (o := 3) (v := .int .i64 ((st : Int) + 1)) (.inl rfl)) hlow (mkX_ge h)).alloc (by simpa using hlow) _)
      have HR3 := Lib.hid (show Blk w3 w.heap.size #[.int .i64 4, .int .i64 h0, .int .i64 0, .int .i64 a0, .int .i64 b0, .int .i64 0] by rw [hw3]; have := Blk.new (w.setCell ⟨d.M, 3, none⟩ (.int .i64 ((st : Int) + 1))) #[.int .i64 4, .int .i64 h0, .int .i64 0, .int .i64 a0, .int .i64 b0, .int .i64 0] 196; simpa using this)
      have hbC : d.C ≤ w.heap.size := h.b.le
      have hbR : ∀ p, p < d.n + d.lk → ∀ g, (rv p).ownBlock = some g → g ≠ w.heap.size := fun p hp g hg e => by have := ((h.b.own p hp).lt g hg).2; omega
      have hbQ : ∀ g, qv.ownBlock = some g → g ≠ w.heap.size := fun g hg e => by have := (h.qge g hg).2; omega
      clear h
      have HR0 := Lib.hid HA.out.r
      have HB0 := HR3
      have HW0 := HB
      have hbR0 := hbR
      clear HA HR3 HB hbR
      have dab : ((b0 : Int) != (a0 : Int)) = true := by rw [bne_iff_ne]; omega
      go_enter Tryz.func186, Tryz.ntmps186
      go_wp2_with fail
      rw [← hw3]
      clear hw3 ck fk zk cm fm zm
      have hL0 : (rowL d.n rs (b0)).length ≤ 100001 := Nat.le_succ_of_le (Nat.le_trans (HL _) hrs)
      have hown0 := HR0.out.own (b0) (by omega)
      obtain ⟨ro0, rc0, hrv0⟩ := own_form hown0
      obtain ⟨L0, hLe0⟩ : ∃ L, L = (rowL d.n rs (b0)).length := ⟨_, rfl⟩
      rw [← hLe0] at hrv0 hL0
      have HLe0 := Lib.hid hLe0
      have HRV0 := Lib.hid hrv0
      rw [hrv0, ← hLe0] at hown0
      have HOW0 := Lib.hid hown0
      have HRa := HR0.out.below (below_drew (Below.refl _ _))
      have hcell0 : (w3.drew).cell? ⟨d.BY, b0, none⟩ = some (.slice ro0 L0 rc0) := by have := (HRa.by_).1 (b0); rw [arrOf_get, if_pos hb, hrv0] at this; exact this
      have HRd := Lib.hid HRa
      have HBd := Lib.hid (HB0.out.below (below_drew (Below.refl _ _)))
      have HWd := Lib.hid (HW0.out.trans ((below_drew (Below.refl _ _)).mono (HR0.out.f.ff.2.2 |> Nat.le_of_lt)))
      have HOd := Lib.hid (own_below HOW0.out (below_drew (Below.refl w3.heap.size w3)))
      clear HRa hown0 HOW0 hLe0
      refine wp_region_last (S := (fun W => (∀ o, W.cell? ⟨d.K, o, none⟩ = (#[.pointer (some ⟨d.M, 0, none⟩), .slice (some ⟨d.BY, 0, none⟩) d.n d.n, .slice (some ⟨d.VIA, 0, none⟩) d.lk d.lk, qv] : Array Value)[o]?) ∧ (∀ o, W.cell? ⟨w.heap.size, o, none⟩ = (#[.int .i64 4, .int .i64 h0, .int .i64 0, .int .i64 a0, .int .i64 b0, .int .i64 0] : Array Value)[o]?) ∧ W.cell? ⟨d.BY, b0, none⟩ = some (.slice ro0 L0 rc0))) 18 (by kernel_rfl) ⟨HRd.out.kk.1, HBd.out.1, hcell0⟩ (fun hHeld => ?_)
      obtain ⟨wd0, hwd⟩ : ∃ W, W = w3.drew := ⟨_, rfl⟩
      rw [← hwd] at HRd HBd HWd HOd hHeld hcell0 ⊢
      clear hwd hrv0 HR0 HB0 HW0
      (refine lyes 0 ?_); (refine lyes 1 ?_); (refine lyes 2 ?_); (refine lyes 3 ?_); (refine lyes 4 ?_); (refine lyes 5 ?_); (refine lyes 6 ?_); (refine lyes 7 ?_); (refine lyes 8 ?_); (refine lyes 9 ?_); (refine lyes 10 ?_); (refine lyes 11 ?_); (refine lyes 12 ?_); (refine lyes 13 ?_); (refine lyes 14 ?_); (try simp only [Act.put, List.setIfInBounds_toArray, List.set])
      (refine last_call 15 rfl (by kernel_rfl) (fun K hK => ?_); go_simp)
      have hba : Below wd0.heap.size wd0 (wd0.alloc (.cells #[.int .i64 4, .int .i64 h0, .int .i64 0, .int .i64 a0, .int .i64 b0, .int .i64 0] 196)) := (Below.refl _ _).alloc (Nat.le_refl _) _
      have hne := Blk.new wd0 #[.int .i64 4, .int .i64 h0, .int .i64 0, .int .i64 a0, .int .i64 b0, .int .i64 0] 196
      have hce := (hba.cell (p := ⟨d.BY, b0, none⟩) (World.block_lt_of_cell? wd0 _ hcell0)).trans hcell0
      have HRe := Lib.hid (HRd.out.below hba)
      have HBe := Lib.hid (HBd.out.below hba)
      have HWe := Lib.hid (HWd.out.trans (hba.mono (Nat.le_of_lt HRd.out.f.ff.2.2)))
      have HOe := own_below HOd.out hba
      (refine hK.out _ _ ⟨HRe.out.kk.1, HBe.out.1, hce⟩ (fun hHeld => ?_); clear hK K; (try simp only [Act.put, List.setIfInBounds_toArray, List.set]))
      refine last_call 16 rfl (by kernel_rfl) (fun K hK => ?_)
      refine step_rowE rfl _ _ 153 rfl d.C 196 infr _ 6 48 Tryz.underlying153 HIR.out hr0 hr1 hr2 (Nat.le_of_ble_eq_true rfl) rfl (Nat.le_of_ble_eq_true rfl) _ L0 _ rfl HOe _ 1 _ rfl (slA_one hne) (ru1 _ _ _ _ _ _) (by omega) HRe.out.le ?_
      intro s0 c0 w5 ho5 hg5 hn5
      have hk5 : Kp (fun b => some b = (Value.slice ro0 L0 rc0).ownBlock) (wd0.alloc (.cells #[.int .i64 4, .int .i64 h0, .int .i64 0, .int .i64 a0, .int .i64 b0, .int .i64 0] 196)) w5 := Kp.of_grown hg5 (fun b hb => hb)
      have hgX : ∀ b, b < d.C → ¬ some b = (Value.slice ro0 L0 rc0).ownBlock := fun b hb e => by have := (HOe.lt b e.symm).1; omega
      have hK5 := hk5.blk HRe.out.kk (hgX _ (by have := HRe.out.ok.o5; have := HRe.out.ok.o8; omega))
      have hB5 := hk5.blk HBe.out (fun e => hbR0 (b0) (by omega) _ (by rw [HRV0.out]; exact e.symm) rfl)
      have hc5 := (World.cell?_of_block (a := ⟨d.BY, b0, none⟩) (hk5.block _ (World.block_lt_of_cell? _ _ hce) (hgX _ HRe.out.ok.o8))).trans hce
      (refine hK.out _ _ ⟨hK5.1, hB5.1, hc5⟩ (fun hHeld => ?_); clear hK K; (try simp only [Act.put, List.setIfInBounds_toArray, List.set]))
      (refine lyes 17 ?_); (try simp only [Act.put, List.setIfInBounds_toArray, List.set])
      have hf5 : w5.frozen? ⟨d.BY, b0, none⟩ = false := ((hk5.blk HRe.out.by_ (hgX _ HRe.out.ok.o8)).2.1 _)
      have HP := Lib.hid (HRe.out.put (p := b0) (by omega) (r := ⟨4, h0, 0, a0, b0, 0⟩) (v' := .slice s0 (L0 + 1) c0) (w1 := w5) (by rw [List.length_append, List.flatMap_append, ← HLe0.out]; exact ho5) (by rw [HRV0.out]; exact hg5) (by rw [HRV0.out]; exact hn5))
      have HPB := Lib.hid (Kp.blk (X := fun b => b = d.BY) (Kp.set (b := d.BY) (o := b0) (v := .slice s0 (L0 + 1) c0) rfl) hB5 (by have := HRe.out.ok.o8; have := HRe.out.ok.o9; omega))
      clear hba hne hce hk5 hgX hK5 hB5 HRd HBd HOd HOe ho5 hg5
      (refine last_end 18 rfl (by kernel_rfl) (by kernel_rfl) (fun K hK => ?_); go_simp)
      clear hc5 hf5
      refine hK.out _ _ ?_
      clear hK K
      have hst9 := HP.out
      rw [show (if b0 < d.n then (⟨d.BY, b0, none⟩ : Addr) else ⟨d.VIA, b0 - d.n, none⟩) = ⟨d.BY, b0, none⟩ from if_pos hb] at hst9
      obtain ⟨w1, hw1⟩ : ∃ V, V = w5.setCell ⟨d.BY, b0, none⟩ (.slice s0 (L0 + 1) c0) := ⟨_, rfl⟩
      rw [← hw1] at hst9 HPB ⊢
      clear hw1
      have HR1 := Lib.hid hst9.1
      have HW1 := Lib.hid (HWe.out.trans hst9.2)
      have HB1 := HPB
      have hnew : Value.ownBlock (.slice s0 (L0 + 1) c0) ≠ some w.heap.size := fun e => hn5 w.heap.size HBe.out.2.2 (fun e2 => hbR0 (b0) (by omega) _ (by rw [HRV0.out]; exact e2.symm) rfl) e.symm
      have hbR1 : ∀ q, q < d.n + d.lk → ∀ g, (rowPut (rv) (b0) (.slice s0 (L0 + 1) c0) q).ownBlock = some g → g ≠ w.heap.size := fun q hq g hg => by
        unfold rowPut at hg
        by_cases e : q = b0
        · rw [if_pos e] at hg
          intro eg
          exact hnew (eg ▸ hg)
        · rw [if_neg e] at hg; exact hbR0 q hq g hg
      clear HP HPB HWe HRe HBe hn5 hst9 hnew
      go_wp2_with fail
      have hL1 : ((fun q => if q = b0 then rowL d.n rs b0 ++ [⟨4, h0, 0, a0, b0, 0⟩] else rowL d.n rs q) (a0)).length ≤ 100001 := by dsimp only; rw [if_neg (show ¬ a0 = b0 by omega)]; exact Nat.le_succ_of_le (Nat.le_trans (HL _) hrs)
      have hown1 := HR1.out.own (a0) (by omega)
      obtain ⟨ro1, rc1, hrv1⟩ := own_form hown1
      obtain ⟨L1, hLe1⟩ : ∃ L, L = ((fun q => if q = b0 then rowL d.n rs b0 ++ [⟨4, h0, 0, a0, b0, 0⟩] else rowL d.n rs q) (a0)).length := ⟨_, rfl⟩
      rw [← hLe1] at hrv1 hL1
      have HLe1 := Lib.hid hLe1
      have HRV1 := Lib.hid hrv1
      rw [hrv1, ← hLe1] at hown1
      have HOW1 := Lib.hid hown1
      have HRa := HR1.out.below (below_drew (Below.refl _ _))
      have hcell1 : (w1.drew).cell? ⟨d.BY, a0, none⟩ = some (.slice ro1 L1 rc1) := by have := (HRa.by_).1 (a0); rw [arrOf_get, if_pos ha, hrv1] at this; exact this
      have HRd := Lib.hid HRa
      have HBd := Lib.hid (HB1.out.below (below_drew (Below.refl _ _)))
      have HWd := Lib.hid (HW1.out.trans ((below_drew (Below.refl _ _)).mono (HR1.out.f.ff.2.2 |> Nat.le_of_lt)))
      have HOd := Lib.hid (own_below HOW1.out (below_drew (Below.refl w1.heap.size w1)))
      clear HRa hown1 HOW1 hLe1
      refine wp_region_last (S := (fun W => (∀ o, W.cell? ⟨d.K, o, none⟩ = (#[.pointer (some ⟨d.M, 0, none⟩), .slice (some ⟨d.BY, 0, none⟩) d.n d.n, .slice (some ⟨d.VIA, 0, none⟩) d.lk d.lk, qv] : Array Value)[o]?) ∧ (∀ o, W.cell? ⟨w.heap.size, o, none⟩ = (#[.int .i64 4, .int .i64 h0, .int .i64 0, .int .i64 a0, .int .i64 b0, .int .i64 0] : Array Value)[o]?) ∧ W.cell? ⟨d.BY, a0, none⟩ = some (.slice ro1 L1 rc1))) 18 (by kernel_rfl) ⟨HRd.out.kk.1, HBd.out.1, hcell1⟩ (fun hHeld => ?_)
      obtain ⟨wd1, hwd⟩ : ∃ W, W = w1.drew := ⟨_, rfl⟩
      rw [← hwd] at HRd HBd HWd HOd hHeld hcell1 ⊢
      clear hwd hrv1 HR1 HB1 HW1
      (refine lyes 0 ?_); (refine lyes 1 ?_); (refine lyes 2 ?_); (refine lyes 3 ?_); (refine lyes 4 ?_); (refine lyes 5 ?_); (refine lyes 6 ?_); (refine lyes 7 ?_); (refine lyes 8 ?_); (refine lyes 9 ?_); (refine lyes 10 ?_); (refine lyes 11 ?_); (refine lyes 12 ?_); (refine lyes 13 ?_); (refine lyes 14 ?_); (try simp only [Act.put, List.setIfInBounds_toArray, List.set])
      (refine last_call 15 rfl (by kernel_rfl) (fun K hK => ?_); go_simp)
      have hba : Below wd1.heap.size wd1 (wd1.alloc (.cells #[.int .i64 4, .int .i64 h0, .int .i64 0, .int .i64 a0, .int .i64 b0, .int .i64 0] 196)) := (Below.refl _ _).alloc (Nat.le_refl _) _
      have hne := Blk.new wd1 #[.int .i64 4, .int .i64 h0, .int .i64 0, .int .i64 a0, .int .i64 b0, .int .i64 0] 196
      have hce := (hba.cell (p := ⟨d.BY, a0, none⟩) (World.block_lt_of_cell? wd1 _ hcell1)).trans hcell1
      have HRe := Lib.hid (HRd.out.below hba)
      have HBe := Lib.hid (HBd.out.below hba)
      have HWe := Lib.hid (HWd.out.trans (hba.mono (Nat.le_of_lt HRd.out.f.ff.2.2)))
      have HOe := own_below HOd.out hba
      (refine hK.out _ _ ⟨HRe.out.kk.1, HBe.out.1, hce⟩ (fun hHeld => ?_); clear hK K; (try simp only [Act.put, List.setIfInBounds_toArray, List.set]))
      refine last_call 16 rfl (by kernel_rfl) (fun K hK => ?_)
      refine step_rowE rfl _ _ 153 rfl d.C 196 infr _ 6 48 Tryz.underlying153 HIR.out hr0 hr1 hr2 (Nat.le_of_ble_eq_true rfl) rfl (Nat.le_of_ble_eq_true rfl) _ L1 _ rfl HOe _ 1 _ rfl (slA_one hne) (ru1 _ _ _ _ _ _) (by omega) HRe.out.le ?_
      intro s1 c1 w5 ho5 hg5 hn5
      have hk5 : Kp (fun b => some b = (Value.slice ro1 L1 rc1).ownBlock) (wd1.alloc (.cells #[.int .i64 4, .int .i64 h0, .int .i64 0, .int .i64 a0, .int .i64 b0, .int .i64 0] 196)) w5 := Kp.of_grown hg5 (fun b hb => hb)
      have hgX : ∀ b, b < d.C → ¬ some b = (Value.slice ro1 L1 rc1).ownBlock := fun b hb e => by have := (HOe.lt b e.symm).1; omega
      have hK5 := hk5.blk HRe.out.kk (hgX _ (by have := HRe.out.ok.o5; have := HRe.out.ok.o8; omega))
      have hB5 := hk5.blk HBe.out (fun e => hbR1 (a0) (by omega) _ (by rw [HRV1.out]; exact e.symm) rfl)
      have hc5 := (World.cell?_of_block (a := ⟨d.BY, a0, none⟩) (hk5.block _ (World.block_lt_of_cell? _ _ hce) (hgX _ HRe.out.ok.o8))).trans hce
      (refine hK.out _ _ ⟨hK5.1, hB5.1, hc5⟩ (fun hHeld => ?_); clear hK K; (try simp only [Act.put, List.setIfInBounds_toArray, List.set]))
      (refine lyes 17 ?_); (try simp only [Act.put, List.setIfInBounds_toArray, List.set])
      have hf5 : w5.frozen? ⟨d.BY, a0, none⟩ = false := ((hk5.blk HRe.out.by_ (hgX _ HRe.out.ok.o8)).2.1 _)
      have HP := Lib.hid (HRe.out.put (p := a0) (by omega) (r := ⟨4, h0, 0, a0, b0, 0⟩) (v' := .slice s1 (L1 + 1) c1) (w1 := w5) (by rw [List.length_append, List.flatMap_append, ← HLe1.out]; exact ho5) (by rw [HRV1.out]; exact hg5) (by rw [HRV1.out]; exact hn5))
      have HPB := Lib.hid (Kp.blk (X := fun b => b = d.BY) (Kp.set (b := d.BY) (o := a0) (v := .slice s1 (L1 + 1) c1) rfl) hB5 (by have := HRe.out.ok.o8; have := HRe.out.ok.o9; omega))
      clear hba hne hce hk5 hgX hK5 hB5 HRd HBd HOd HOe ho5 hg5
      (refine last_end 18 rfl (by kernel_rfl) (by kernel_rfl) (fun K hK => ?_); go_simp)
      clear hc5 hf5
      refine hK.out _ _ ?_
      clear hK K
      have hst9 := HP.out
      rw [show (if a0 < d.n then (⟨d.BY, a0, none⟩ : Addr) else ⟨d.VIA, a0 - d.n, none⟩) = ⟨d.BY, a0, none⟩ from if_pos ha] at hst9
      obtain ⟨w2, hw2⟩ : ∃ V, V = w5.setCell ⟨d.BY, a0, none⟩ (.slice s1 (L1 + 1) c1) := ⟨_, rfl⟩
      rw [← hw2] at hst9 HPB ⊢
      clear hw2
      have HR2 := Lib.hid hst9.1
      have HW2 := Lib.hid (HWe.out.trans hst9.2)
      have HB2 := HPB
      have hnew : Value.ownBlock (.slice s1 (L1 + 1) c1) ≠ some w.heap.size := fun e => hn5 w.heap.size HBe.out.2.2 (fun e2 => hbR1 (a0) (by omega) _ (by rw [HRV1.out]; exact e2.symm) rfl) e.symm
      have hbR2 : ∀ q, q < d.n + d.lk → ∀ g, (rowPut (rowPut rv b0 (.slice s0 (L0 + 1) c0)) (a0) (.slice s1 (L1 + 1) c1) q).ownBlock = some g → g ≠ w.heap.size := fun q hq g hg => by
        unfold rowPut at hg
        by_cases e : q = a0
        · rw [if_pos e] at hg
          intro eg
          exact hnew (eg ▸ hg)
        · rw [if_neg e] at hg; exact hbR1 q hq g hg
      clear HP HPB HWe HRe HBe hn5 hst9 hnew
      go_wp2
      go_end0
      refine ⟨rfl, _, fs, qv, st + 1, HR2.out.at (fun p hp => ?_), HW2.out, Grow.refl _ _ _, (fun e => by simp at e), by omega⟩
      rw [SN.out p]
      unfold takesR
      by_cases e : p = a0
      · subst e
        rw [if_pos rfl, if_neg (show ¬ p = b0 by omega), if_pos ha]; simp
      · rw [if_neg e]
        by_cases e2 : p = b0
        · subst e2
          rw [if_pos rfl, if_pos hb]; simp
        · rw [if_neg e2]
          by_cases hpn : p < d.n
          · rw [if_pos hpn]; simp; omega
          · rw [if_neg hpn]; simp
end Go.Proofs.YtcmdhfccdkjenaaGreatDoor
