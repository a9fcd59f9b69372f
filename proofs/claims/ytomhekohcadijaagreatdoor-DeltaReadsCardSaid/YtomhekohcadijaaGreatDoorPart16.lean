/- A difference that is being read: its block, its rows of the call's own (printed by gen_dlput.py). Two rows of the call's own, side by side, while one of them grows. (*delta.Delta).put: a line of the kind 0 (printed by gen_dlput.py). (*delta.Delta).put: a line of the kind 1 (printed by gen_dlput.py). -/
import Derived.Test.YtomhekohcadijaaGreatDoorPart11
import Derived.Test.YtomhekohcadijaaGreatDoorPart15
import Derived.Test.YtomhekohcadijaaGreatDoorPart5
import Derived.Test.YtomhekohcadijaaGreatDoorPart10
namespace Go.Proofs.YtomhekohcadijaaGreatDoor
open Go.RowKit Go.Shelf

structure MkD (C b : Nat) (w : World) (v0 v1 v2 v3 v4 v5 : Value) (d : Dl) : Prop where
  blk : Blk w b #[v0, v1, v2, v3, v4, v5]
  hb : b < C
  hC : C ≤ w.heap.size
  r0 : w.ownsRow C 80 9 v0 d.more.length (d.more.flatMap St.cells)
  r1 : w.ownsRow C 80 9 v1 d.gone.length (d.gone.flatMap St.cells)
  r2 : w.ownsRow C 78 2 v2 d.grow.length (d.grow.flatMap Rl.cells)
  r3 : w.ownsRow C 78 2 v3 d.ungrow.length (d.ungrow.flatMap Rl.cells)
  r4 : w.ownsRow C 78 2 v4 d.shrink.length (d.shrink.flatMap Rl.cells)
  r5 : w.ownsRow C 78 2 v5 d.unshrink.length (d.unshrink.flatMap Rl.cells)
  n01 : ∀ k, some k = v0.ownBlock → some k ≠ v1.ownBlock
  n23 : ∀ k, some k = v2.ownBlock → some k ≠ v3.ownBlock
  n24 : ∀ k, some k = v2.ownBlock → some k ≠ v4.ownBlock
  n25 : ∀ k, some k = v2.ownBlock → some k ≠ v5.ownBlock
  n34 : ∀ k, some k = v3.ownBlock → some k ≠ v4.ownBlock
  n35 : ∀ k, some k = v3.ownBlock → some k ≠ v5.ownBlock
  n45 : ∀ k, some k = v4.ownBlock → some k ≠ v5.ownBlock
theorem MkD.kp {C b : Nat} {w w' : World} {v0 v1 v2 v3 v4 v5 : Value} {d : Dl} (h : MkD C b w v0 v1 v2 v3 v4 v5 d) (hb : Below w.heap.size w w') : MkD C b w' v0 v1 v2 v3 v4 v5 d :=
  ⟨h.blk.below hb, h.hb, Nat.le_trans h.hC hb.size, own_below h.r0 hb, own_below h.r1 hb, own_below h.r2 hb, own_below h.r3 hb, own_below h.r4 hb, own_below h.r5 hb, h.n01, h.n23, h.n24, h.n25, h.n34, h.n35, h.n45⟩
theorem row_keep {C b o : Nat} {w w' : World} {u v x : Value} {e : TypeId} {size n : Nat} {xs : List Value} (hb : b < C) (k : Kp (fun k => some k = v.ownBlock) w w') (hx : w.ownsRow C e size x n xs) (hne : ∀ k, some k = v.ownBlock → some k ≠ x.ownBlock) : (w'.setCell ⟨b, o, none⟩ u).ownsRow C e size x n xs :=
  (Kp.set (X := fun k => k = b) rfl).own (k.own hx (fun g hg e => hne g e hg.symm)) (fun g hg e => by have := (own_type hx hg).1; omega)
theorem ne_grown {C : Nat} {w : World} {v u x : Value} {e : TypeId} {size n : Nat} {xs : List Value} (hx : w.ownsRow C e size x n xs) (hne : ∀ k, some k = v.ownBlock → some k ≠ x.ownBlock) (hf : ∀ k, k < w.heap.size → some k ≠ v.ownBlock → some k ≠ u.ownBlock) : ∀ k, some k = u.ownBlock → some k ≠ x.ownBlock := fun k hu hk => by
  obtain ⟨_, cs, hc⟩ := own_type hx hk.symm
  exact hf k (Array.getElem?_eq_some_iff.1 hc).1 (fun e => hne k e hk) hu
theorem MkD.put0 {C b : Nat} {w w' : World} {v0 v1 v2 v3 v4 v5 u : Value} {d : Dl} (h : MkD C b w v0 v1 v2 v3 v4 v5 d) (k : Kp (fun k => some k = v0.ownBlock) w w') {l : List St} (ho : w'.ownsRow C 80 9 u l.length (l.flatMap St.cells)) (hf : ∀ k, k < w.heap.size → some k ≠ v0.ownBlock → some k ≠ u.ownBlock) :
    MkD C b (w'.setCell ⟨b, 0, none⟩ u) u v1 v2 v3 v4 v5 { d with more := l } := by
  have hb0 : some b ≠ v0.ownBlock := fun e => by have := (own_type h.r0 e.symm).1; have := h.hb; omega
  exact ⟨((k.blk h.blk hb0).put (o := 0) (by simp)).congr rfl, h.hb, by simpa using Nat.le_trans h.hC k.size, (Kp.set (X := fun k => k = b) rfl).own ho (fun g hg e => by have := (own_type ho hg).1; have := h.hb; omega), row_keep h.hb k h.r1 (h.n01), row_keep h.hb k h.r2 (own_ne_type h.r0 h.r2 ne_sr), row_keep h.hb k h.r3 (own_ne_type h.r0 h.r3 ne_sr), row_keep h.hb k h.r4 (own_ne_type h.r0 h.r4 ne_sr), row_keep h.hb k h.r5 (own_ne_type h.r0 h.r5 ne_sr), ne_grown h.r1 h.n01 hf, h.n23, h.n24, h.n25, h.n34, h.n35, h.n45⟩
theorem MkD.put1 {C b : Nat} {w w' : World} {v0 v1 v2 v3 v4 v5 u : Value} {d : Dl} (h : MkD C b w v0 v1 v2 v3 v4 v5 d) (k : Kp (fun k => some k = v1.ownBlock) w w') {l : List St} (ho : w'.ownsRow C 80 9 u l.length (l.flatMap St.cells)) (hf : ∀ k, k < w.heap.size → some k ≠ v1.ownBlock → some k ≠ u.ownBlock) :
    MkD C b (w'.setCell ⟨b, 1, none⟩ u) v0 u v2 v3 v4 v5 { d with gone := l } := by
  have hb0 : some b ≠ v1.ownBlock := fun e => by have := (own_type h.r1 e.symm).1; have := h.hb; omega
  exact ⟨((k.blk h.blk hb0).put (o := 1) (by simp)).congr rfl, h.hb, by simpa using Nat.le_trans h.hC k.size, row_keep h.hb k h.r0 ((fun g h1 h2 => h.n01 g h2 h1)), (Kp.set (X := fun k => k = b) rfl).own ho (fun g hg e => by have := (own_type ho hg).1; have := h.hb; omega), row_keep h.hb k h.r2 (own_ne_type h.r1 h.r2 ne_sr), row_keep h.hb k h.r3 (own_ne_type h.r1 h.r3 ne_sr), row_keep h.hb k h.r4 (own_ne_type h.r1 h.r4 ne_sr), row_keep h.hb k h.r5 (own_ne_type h.r1 h.r5 ne_sr), (fun g h1 h2 => ne_grown h.r0 (fun g h1 h2 => h.n01 g h2 h1) hf g h2 h1), h.n23, h.n24, h.n25, h.n34, h.n35, h.n45⟩
theorem MkD.put2 {C b : Nat} {w w' : World} {v0 v1 v2 v3 v4 v5 u : Value} {d : Dl} (h : MkD C b w v0 v1 v2 v3 v4 v5 d) (k : Kp (fun k => some k = v2.ownBlock) w w') {l : List Rl} (ho : w'.ownsRow C 78 2 u l.length (l.flatMap Rl.cells)) (hf : ∀ k, k < w.heap.size → some k ≠ v2.ownBlock → some k ≠ u.ownBlock) :
    MkD C b (w'.setCell ⟨b, 2, none⟩ u) v0 v1 u v3 v4 v5 { d with grow := l } := by
  have hb0 : some b ≠ v2.ownBlock := fun e => by have := (own_type h.r2 e.symm).1; have := h.hb; omega
  exact ⟨((k.blk h.blk hb0).put (o := 2) (by simp)).congr rfl, h.hb, by simpa using Nat.le_trans h.hC k.size, row_keep h.hb k h.r0 (own_ne_type h.r2 h.r0 (fun e => ne_sr e.symm)), row_keep h.hb k h.r1 (own_ne_type h.r2 h.r1 (fun e => ne_sr e.symm)), (Kp.set (X := fun k => k = b) rfl).own ho (fun g hg e => by have := (own_type ho hg).1; have := h.hb; omega), row_keep h.hb k h.r3 (h.n23), row_keep h.hb k h.r4 (h.n24), row_keep h.hb k h.r5 (h.n25), h.n01, ne_grown h.r3 h.n23 hf, ne_grown h.r4 h.n24 hf, ne_grown h.r5 h.n25 hf, h.n34, h.n35, h.n45⟩
theorem MkD.put3 {C b : Nat} {w w' : World} {v0 v1 v2 v3 v4 v5 u : Value} {d : Dl} (h : MkD C b w v0 v1 v2 v3 v4 v5 d) (k : Kp (fun k => some k = v3.ownBlock) w w') {l : List Rl} (ho : w'.ownsRow C 78 2 u l.length (l.flatMap Rl.cells)) (hf : ∀ k, k < w.heap.size → some k ≠ v3.ownBlock → some k ≠ u.ownBlock) :
    MkD C b (w'.setCell ⟨b, 3, none⟩ u) v0 v1 v2 u v4 v5 { d with ungrow := l } := by
  have hb0 : some b ≠ v3.ownBlock := fun e => by have := (own_type h.r3 e.symm).1; have := h.hb; omega
  exact ⟨((k.blk h.blk hb0).put (o := 3) (by simp)).congr rfl, h.hb, by simpa using Nat.le_trans h.hC k.size, row_keep h.hb k h.r0 (own_ne_type h.r3 h.r0 (fun e => ne_sr e.symm)), row_keep h.hb k h.r1 (own_ne_type h.r3 h.r1 (fun e => ne_sr e.symm)), row_keep h.hb k h.r2 ((fun g h1 h2 => h.n23 g h2 h1)), (Kp.set (X := fun k => k = b) rfl).own ho (fun g hg e => by have := (own_type ho hg).1; have := h.hb; omega), row_keep h.hb k h.r4 (h.n34), row_keep h.hb k h.r5 (h.n35), h.n01, (fun g h1 h2 => ne_grown h.r2 (fun g h1 h2 => h.n23 g h2 h1) hf g h2 h1), h.n24, h.n25, ne_grown h.r4 h.n34 hf, ne_grown h.r5 h.n35 hf, h.n45⟩
theorem MkD.put4 {C b : Nat} {w w' : World} {v0 v1 v2 v3 v4 v5 u : Value} {d : Dl} (h : MkD C b w v0 v1 v2 v3 v4 v5 d) (k : Kp (fun k => some k = v4.ownBlock) w w') {l : List Rl} (ho : w'.ownsRow C 78 2 u l.length (l.flatMap Rl.cells)) (hf : ∀ k, k < w.heap.size → some k ≠ v4.ownBlock → some k ≠ u.ownBlock) :
    MkD C b (w'.setCell ⟨b, 4, none⟩ u) v0 v1 v2 v3 u v5 { d with shrink := l } := by
  have hb0 : some b ≠ v4.ownBlock := fun e => by have := (own_type h.r4 e.symm).1; have := h.hb; omega
  exact ⟨((k.blk h.blk hb0).put (o := 4) (by simp)).congr rfl, h.hb, by simpa using Nat.le_trans h.hC k.size, row_keep h.hb k h.r0 (own_ne_type h.r4 h.r0 (fun e => ne_sr e.symm)), row_keep h.hb k h.r1 (own_ne_type h.r4 h.r1 (fun e => ne_sr e.symm)), row_keep h.hb k h.r2 ((fun g h1 h2 => h.n24 g h2 h1)), row_keep h.hb k h.r3 ((fun g h1 h2 => h.n34 g h2 h1)), (Kp.set (X := fun k => k = b) rfl).own ho (fun g hg e => by have := (own_type ho hg).1; have := h.hb; omega), row_keep h.hb k h.r5 (h.n45), h.n01, h.n23, (fun g h1 h2 => ne_grown h.r2 (fun g h1 h2 => h.n24 g h2 h1) hf g h2 h1), h.n25, (fun g h1 h2 => ne_grown h.r3 (fun g h1 h2 => h.n34 g h2 h1) hf g h2 h1), h.n35, ne_grown h.r5 h.n45 hf⟩
theorem MkD.put5 {C b : Nat} {w w' : World} {v0 v1 v2 v3 v4 v5 u : Value} {d : Dl} (h : MkD C b w v0 v1 v2 v3 v4 v5 d) (k : Kp (fun k => some k = v5.ownBlock) w w') {l : List Rl} (ho : w'.ownsRow C 78 2 u l.length (l.flatMap Rl.cells)) (hf : ∀ k, k < w.heap.size → some k ≠ v5.ownBlock → some k ≠ u.ownBlock) :
    MkD C b (w'.setCell ⟨b, 5, none⟩ u) v0 v1 v2 v3 v4 u { d with unshrink := l } := by
  have hb0 : some b ≠ v5.ownBlock := fun e => by have := (own_type h.r5 e.symm).1; have := h.hb; omega
  exact ⟨((k.blk h.blk hb0).put (o := 5) (by simp)).congr rfl, h.hb, by simpa using Nat.le_trans h.hC k.size, row_keep h.hb k h.r0 (own_ne_type h.r5 h.r0 (fun e => ne_sr e.symm)), row_keep h.hb k h.r1 (own_ne_type h.r5 h.r1 (fun e => ne_sr e.symm)), row_keep h.hb k h.r2 ((fun g h1 h2 => h.n25 g h2 h1)), row_keep h.hb k h.r3 ((fun g h1 h2 => h.n35 g h2 h1)), row_keep h.hb k h.r4 ((fun g h1 h2 => h.n45 g h2 h1)), (Kp.set (X := fun k => k = b) rfl).own ho (fun g hg e => by have := (own_type ho hg).1; have := h.hb; omega), h.n01, h.n23, h.n24, (fun g h1 h2 => ne_grown h.r2 (fun g h1 h2 => h.n25 g h2 h1) hf g h2 h1), h.n34, (fun g h1 h2 => ne_grown h.r3 (fun g h1 h2 => h.n35 g h2 h1) hf g h2 h1), (fun g h1 h2 => ne_grown h.r4 (fun g h1 h2 => h.n45 g h2 h1) hf g h2 h1)⟩
def PutP (C b : Nat) (w : World) (i : Int) (r : Option Dl) (e : Ending) (w' : World) : Prop :=
  e = .returned (.tuple #[.int .i64 i, .bool r.isSome]) ∧ Kp (fun k => k = b ∨ C ≤ k) w w' ∧ ∀ d', r = some d' → ∃ v0 v1 v2 v3 v4 v5, MkD C b w' v0 v1 v2 v3 v4 v5 d'
theorem kindL_size (s : ByteArray) : ∀ (L : List (Nat × ByteArray)), (kindL s L).2.size ≤ s.size
  | [] => by show (emp : ByteArray).size ≤ _; exact Nat.zero_le _
  | x :: r => by
    by_cases hx : preB s x.2 = true
    · have e : kindL s (x :: r) = ((x.1 : Int), s.extract x.2.size s.size) := if_pos hx
      rw [e, ByteArray.size_extract]
      omega
    · have e : kindL s (x :: r) = kindL s r := if_neg hx
      rw [e]
      exact kindL_size s r
theorem cut_len (l : List UInt8) : (Lib.cut l [46]).1.length ≤ l.length ∧ (Lib.cut l [46]).2.1.length ≤ l.length := by
  unfold Lib.cut
  split
  · exact ⟨by rw [List.length_take]; omega, by rw [List.length_drop]; omega⟩
  · exact ⟨Nat.le_refl _, Nat.zero_le _⟩
theorem cutR_le {s : ByteArray} (h : s.size ≤ 1000000) : (cutR s).le 4294967 := by
  have h1 := cut_len (bl s)
  rw [bl_len] at h1
  refine ⟨?_, ?_⟩
  · show (Lib.cut (bl s) [46]).1.toArray.size ≤ 4294967
    rw [List.size_toArray]; omega
  · show (Lib.cut (bl s) [46]).2.1.toArray.size ≤ 4294967
    rw [List.size_toArray]; omega
theorem rl_oneD (r : Rl) : ∀ u ∈ r.cells, u.oneCell' = true := fun u hu => by
  simp only [Rl.cells, List.mem_cons, List.not_mem_nil, or_false] at hu
  rcases hu with rfl | rfl <;> rfl
theorem beh_zeroS {l : List St} {x : St} (h : ¬ 0 < l.length) : behS l x = true := dif_neg h
theorem beh_oneS {l : List St} {x : St} (h : 0 < l.length) : behS l x = decide (cmpSt (l[l.length - 1]'(by omega)) x < 0) := dif_pos h
theorem beh_zeroR {l : List Rl} {x : Rl} (h : ¬ 0 < l.length) : behR l x = true := dif_neg h
theorem beh_oneR {l : List Rl} {x : Rl} (h : 0 < l.length) : behR l x = decide (cmpR (l[l.length - 1]'(by omega)) x < 0) := dif_pos h
end Go.Proofs.YtomhekohcadijaaGreatDoor
namespace Go.Proofs.YtomhekohcadijaaGreatDoor
open Go.RowKit Go.Shelf

theorem step_rowE {P : Program} {w : World} {ops : Array Oper} {o : Oper} {a : Act} {K : Act → World → Prop} {Q : Exit → Act → World → Prop} {E : Prop} (hgd : o.guard = none) (s x : Operand) (t : TypeId)
    (ho : o.op = .call { callee := .builtin .append, args := #[s, x], argTypes := #[t, t] })
    (base : Nat) (e : TypeId) (i : TypeInfo) (z : Value) (size bytes : Nat) (ht : P.underlying t = some (.slice e)) (hi : P.info? e = some i) (hz : i.zero = some z)
    (hsize : i.size = size) (hby : i.bytes = bytes) (hb1000 : bytes ≤ 1000) (hzs : z.cells.size = size) (hsz : 0 < size)
    (v : Value) (n : Nat) (xs : List Value) (hs : a.eval s = v) (hown : w.ownsRow base e size v n xs)
    (va : Value) (m : Nat) (ys : List Value) (hx : a.eval x = va) (ha : SlA w size va m ys) (h1 : ∀ u ∈ ys, u.oneCell' = true)
    (hnm : n + m ≤ 100000000000) (hbase : base ≤ w.heap.size)
    (h : ∀ a' cap' w', w'.ownsRow base e size (.slice a' (n + m) cap') (n + m) (xs ++ ys) → w.grownBy w' v.ownBlock → (∀ k, k < w.heap.size → some k ≠ v.ownBlock → some k ≠ (Value.slice a' (n + m) cap').ownBlock) → K (a.put o.dst (.slice a' (n + m) cap')) w') :
    if Region.wanted o (yielded ops a.tmps) = true then Oper.wp P o a w K Q else E := by
  by_cases h0 : 0 < m
  · obtain ⟨b, off, c, rfl, hc, hm, hb, hcell⟩ := ha.pos h0
    have hl : ys.length = m * size := by
      rcases ha with ha | ⟨_, rfl, rfl⟩
      · exact ha.len
      · simp
    have hbb : (n + m) * bytes ≤ 140737488355328 := Nat.le_trans (Nat.mul_le_mul (Nat.le_refl _) hb1000) (by omega)
    refine step_append_lies w hgd s x t ho base e i z size bytes ht hi hz hsize hby hzs hsz v n xs hs hown ⟨b, off, none⟩ m c ys hx hl (fun j u hu => by rw [addr_add]; exact hcell j u hu) h1 h0 (by simp only [maxLen]; omega) hbb hbase _ rfl
      (fun g cap w' h1 h2 h3 _ => h _ cap w' h1 h2 (fun k hk hne he => ?_))
    injection he with he
    dsimp only at he
    subst he
    rcases h3 with h3 | h3
    · exact hne h3.symm
    · omega
  · obtain rfl : m = 0 := by omega
    have hy : ys = [] := by
      rcases ha with ha | ⟨_, _, rfl⟩
      · have := ha.len; exact List.eq_nil_of_length_eq_zero (by omega)
      · rfl
    subst hy
    obtain ⟨ax, cx, rfl⟩ := ha.form
    obtain ⟨ao, cap, rfl, hnc⟩ := own_form2 hown
    refine step_zero w hgd s x t ho e i ht hi ao n cap hnc hs ax cx hx ?_
    refine h ao cap w (by rw [List.append_nil]; exact hown) ⟨rfl, rfl, rfl, Nat.le_refl _, fun _ _ _ => rfl⟩ (fun k _ hne he => hne (by rw [he]; cases ao <;> rfl))
end Go.Proofs.YtomhekohcadijaaGreatDoor
namespace Go.Proofs.YtomhekohcadijaaGreatDoor
open Go.RowKit Go.Shelf

set_option maxRecDepth 100000 in
set_option maxHeartbeats 8000000 in
theorem delta_put0 (s rest : ByteArray) (last : Int) (C b : Nat) (v0 v1 v2 v3 v4 v5 : Value) (d : Dl) (w : World) (hg : Gl w) (h : MkD C b w v0 v1 v2 v3 v4 v5 d) (hs : s.size ≤ 1000000) (hn : d.gone.length ≤ 100000) (hk : kindB s = (0, rest)) (hl : last ≤ 0) :
    Calls Tryz.prog 52 #[.pointer (some ⟨b, 0, none⟩), .string s, .int .i64 last] w fun e w' => PutP C b w 0 (if okLnS d.gone rest = true then some { d with gone := d.gone ++ [(parseS rest).1] } else none) e w' := by
  have HG := Lib.hid hg
  have HM := Lib.hid h
  have hrs : rest.size ≤ 1000000 := by have := kindL_size s (bkL marksB 6); rw [show kindL s (bkL marksB 6) = (0, rest) from hk] at this; exact Nat.le_trans this hs
  have KD := Lib.hid (fun W => delta_kind s W (by omega))
  rw [hk] at KD
  obtain ⟨a0, c0, rfl⟩ := own_form h.r0
  obtain ⟨a1, c1, rfl⟩ := own_form h.r1
  obtain ⟨a2, c2, rfl⟩ := own_form h.r2
  obtain ⟨a3, c3, rfl⟩ := own_form h.r3
  obtain ⟨a4, c4, rfl⟩ := own_form h.r4
  obtain ⟨a5, c5, rfl⟩ := own_form h.r5
  obtain ⟨R, hR⟩ : ∃ R, R = (if okLnS d.gone rest = true then some { d with gone := d.gone ++ [(parseS rest).1] } else none) := ⟨_, rfl⟩
  rw [← hR]
  have HR := Lib.hid hR
  have d1 : decide ((0 : Int) < last) = false := decide_eq_false (by omega)
  clear hg h hk hR hs
  go_enter Tryz.func52, Tryz.ntmps52
  go_wp2_with fail
  refine (KD.out _).mono ?_
  rintro e w1 ⟨rfl, hb1⟩
  have HB := Lib.hid hb1
  have HM := Lib.hid (HM.out.kp hb1)
  clear hb1 KD
  go_wp2_with fail
  have SP := Lib.hid (syn_Parse rest w1 (by omega) (HG.out.below HB.out))
  have PRT := Lib.hid (parse_right rest)
  have HRY := Lib.hid (show (parseS rest).2.2 = 0 ∧ printS (parseS rest).1 = rest ∧ behS d.gone (parseS rest).1 = true → R = some { d with gone := d.gone ++ [(parseS rest).1] } from fun h => by rw [HR.out, if_pos (okLnS_iff.2 h)])
  have HRN := Lib.hid (show ¬ ((parseS rest).2.2 = 0 ∧ printS (parseS rest).1 = rest ∧ behS d.gone (parseS rest).1 = true) → R = none from fun h => by rw [HR.out, if_neg (fun h' => h (okLnS_iff.1 h'))])
  clear HR
  generalize parseS rest = pq at *
  obtain ⟨⟨xk, ⟨x1, x2⟩, xw, ⟨x3, x4⟩, ⟨x5, x6⟩, xv⟩, at0, y0⟩ := pq
  dsimp only at SP PRT HRY HRN
  refine SP.out.mono ?_
  rintro e w2 ⟨rfl, hb2⟩
  have HB := Lib.hid (HB.out.trans (hb2.mono HB.out.size))
  have HM := Lib.hid (HM.out.kp hb2)
  clear hb2 SP
  obtain ⟨gx, hgx0⟩ : ∃ g, g = w2.heap.size := ⟨_, rfl⟩
  have HX := Lib.hid (Blk.new w2 #[.int .i64 xk, .string x1, .string x2, .string xw, .string x3, .string x4, .string x5, .string x6, .string xv] 80)
  have hba := (Below.refl w2.heap.size w2).alloc (Nat.le_refl _) (.cells #[.int .i64 xk, .string x1, .string x2, .string xw, .string x3, .string x4, .string x5, .string x6, .string xv] 80)
  have HMo := HM
  have hgx := Lib.hid (show w2.heap.size ≤ gx by rw [hgx0]; exact Nat.le_refl _)
  have HB := Lib.hid (HB.out.trans (hba.mono HB.out.size))
  have HM := Lib.hid (HM.out.kp hba)
  obtain ⟨w3, hw3⟩ : ∃ V, V = w2.alloc (.cells #[.int .i64 xk, .string x1, .string x2, .string xw, .string x3, .string x4, .string x5, .string x6, .string xv] 80) := ⟨_, rfl⟩
  rw [← hw3] at HX HB HM
  rw [← hgx0] at HX
  clear hba
  go_upto_region 6 with fail
  rw [← hw3, ← hgx0]
  clear hw3 hgx0
  refine wp_region_held_drew (S := fun _ => True) (by kernel_rfl) trivial (fun hHeld => ?_)
  have hd := below_drew (Below.refl w3.heap.size w3)
  have HB := Lib.hid (HB.out.trans (hd.mono HB.out.size))
  have HM := Lib.hid (HM.out.kp hd)
  have HX := Lib.hid (HX.out.below hd)
  obtain ⟨w4, hw4⟩ : ∃ V, V = w3.drew := ⟨_, rfl⟩
  rw [← hw4] at HB HM HX ⊢
  clear hd hw4
  (refine hyes 0 ?_); (refine hyes 1 ?_); (refine hyes 2 ?_); (refine hyes 3 ?_); (refine hyes 4 ?_); (refine hyes 5 ?_); (refine hyes 7 ?_); (try simp only [Act.put, List.setIfInBounds_toArray, List.set])
  (refine held_call 6 rfl (by kernel_rfl) (fun K hK => ?_); go_simp)
  obtain ⟨w5, hw5⟩ : ∃ V, V = w4.alloc (.cells #[.pointer (some ⟨b, 1, none⟩), .pointer (some ⟨b, 0, none⟩)] 144) := ⟨_, rfl⟩
  obtain ⟨bn, hbn⟩ : ∃ b, b = w4.heap.size := ⟨_, rfl⟩
  rw [← hw5, ← hbn]
  have hd : Below w4.heap.size w4 w5 := by rw [hw5]; exact (Below.refl _ _).alloc (Nat.le_refl _) _
  have hq : w5.cell? ⟨bn, 0, none⟩ = some (.pointer (some ⟨b, 1, none⟩)) := by
    rw [hw5, hbn]; exact (Blk.new w4 #[.pointer (some ⟨b, 1, none⟩), .pointer (some ⟨b, 0, none⟩)] 144).1 0
  have HB := Lib.hid (HB.out.trans (hd.mono HB.out.size))
  have HM := Lib.hid (HM.out.kp hd)
  have HX := Lib.hid (HX.out.below hd)
  clear hd hw5 hbn
  (refine hK.out _ _ trivial (fun hHeld => ?_); clear hK K; (try simp only [Act.put, List.setIfInBounds_toArray, List.set]))
  (refine hnow 8 ?_); (refine hnow 9 ?_); (refine hnow 10 ?_); (try simp only [Act.put, List.setIfInBounds_toArray, List.set])
  refine wpAnyH_done (by kernel_rfl) ?_ _
  clear hq hHeld
  obtain ⟨cm, fm, zm⟩ := HM.out.blk
  go_upto_region 8 with fail
  clear cm fm zm
  by_cases hy : y0 = 0
  · subst hy
    have hxr := PRT.out rfl
    have PR := Lib.hid (fun W => syn_Print ⟨xk, ⟨x1, x2⟩, xw, ⟨x3, x4⟩, ⟨x5, x6⟩, xv⟩ W (st_le_mono (rightS_le hxr) (by decide)))
    have dy : ((0 : Int) != 0) = false := rfl
    by_cases hp : printS ⟨xk, ⟨x1, x2⟩, xw, ⟨x3, x4⟩, ⟨x5, x6⟩, xv⟩ = rest
    · have dp : ((printS ⟨xk, ⟨x1, x2⟩, xw, ⟨x3, x4⟩, ⟨x5, x6⟩, xv⟩).toList != rest.toList) = false := by rw [hp]; simp
      have dq : ((printS ⟨xk, ⟨x1, x2⟩, xw, ⟨x3, x4⟩, ⟨x5, x6⟩, xv⟩).toList == rest.toList) = true := by rw [hp]; simp
      have HP := Lib.hid hp
      clear hp hxr PRT
      generalize printS ⟨xk, ⟨x1, x2⟩, xw, ⟨x3, x4⟩, ⟨x5, x6⟩, xv⟩ = pt at PR dp dq HP HRY HRN
      by_cases hn0 : 0 < d.gone.length
      · have dn : decide ((0 : Int) < (d.gone.length : Int)) = true := decide_eq_true (by omega)
        have dn2 : decide (0 < d.gone.length) = true := decide_eq_true hn0
        obtain ⟨gl, ol, cl, he, hc1, hm1, hbl, hxl⟩ := (Sl.of_own HM.out.r1).pos hn0
        simp only [Value.slice.injEq, true_and] at he
        obtain ⟨rfl, rfl⟩ := he
        obtain ⟨p0, p1, p2, p3, p4, p5, p6, p7, p8⟩ := st_cell hxl (d.gone.length - 1) (by omega)
        obtain ⟨m, hm⟩ : ∃ m, m = d.gone.length - 1 := ⟨_, rfl⟩
        have hwm : IntKind.i64.wrap ((d.gone.length : Int) - 1) = (m : Int) := by rw [show (d.gone.length : Int) - 1 = (m : Int) by omega]; exact Go.IntWalk.i64_in _ (by omega)
        have hml : m < d.gone.length := by omega
        have BE := Lib.hid (beh_oneS (x := ⟨xk, ⟨x1, x2⟩, xw, ⟨x3, x4⟩, ⟨x5, x6⟩, xv⟩) hn0)
        clear hxl
        simp only [← hm] at p0 p1 p2 p3 p4 p5 p6 p7 p8 BE
        have OR := Lib.hid (fun W => syn_OrderB d.gone[m] ⟨xk, ⟨x1, x2⟩, xw, ⟨x3, x4⟩, ⟨x5, x6⟩, xv⟩ W)
        have hek : d.gone[m] = ⟨d.gone[m].k, ⟨d.gone[m].h.o, d.gone[m].h.n⟩, d.gone[m].who, ⟨d.gone[m].a.o, d.gone[m].a.n⟩, ⟨d.gone[m].b.o, d.gone[m].b.n⟩, d.gone[m].via⟩ := rfl
        clear hek
        generalize d.gone[m] = z at *
        clear hm
        obtain ⟨zk, ⟨z1, z2⟩, zw, ⟨z3, z4⟩, ⟨z5, z6⟩, zv⟩ := z
        generalize cmpSt ⟨zk, ⟨z1, z2⟩, zw, ⟨z3, z4⟩, ⟨z5, z6⟩, zv⟩ ⟨xk, ⟨x1, x2⟩, xw, ⟨x3, x4⟩, ⟨x5, x6⟩, xv⟩ = cc at OR BE
        have HY9 := Lib.hid (show (∀ j (hj : j < 9), w5.cell? ⟨gl, ol + m * 9 + j, none⟩ = some ((#[.int .i64 zk, .string z1, .string z2, .string zw, .string z3, .string z4, .string z5, .string z6, .string zv] : Array Value)[j]'(by simpa using hj))) from fun j hj => by
          match j, hj with
          | 0, _ => exact p0
          | 1, _ => exact p1
          | 2, _ => exact p2
          | 3, _ => exact p3
          | 4, _ => exact p4
          | 5, _ => exact p5
          | 6, _ => exact p6
          | 7, _ => exact p7
          | 8, _ => exact p8)
        refine wp_region_held_drew (S := fun W => (∀ o, W.cell? ⟨b, o, none⟩ = (#[.slice a0 d.more.length c0, .slice (some ⟨gl, ol, none⟩) d.gone.length c1, .slice a2 d.grow.length c2, .slice a3 d.ungrow.length c3, .slice a4 d.shrink.length c4, .slice a5 d.unshrink.length c5] : Array Value)[o]?) ∧ (∀ o, W.cell? ⟨gx, o, none⟩ = (#[.int .i64 xk, .string x1, .string x2, .string xw, .string x3, .string x4, .string x5, .string x6, .string xv] : Array Value)[o]?) ∧ W.cell? ⟨gl, ol + m * 9, none⟩ = some (.int .i64 zk) ∧ W.cell? ⟨gl, ol + m * 9 + 1, none⟩ = some (.string z1) ∧ W.cell? ⟨gl, ol + m * 9 + 2, none⟩ = some (.string z2) ∧ W.cell? ⟨gl, ol + m * 9 + 3, none⟩ = some (.string zw) ∧ W.cell? ⟨gl, ol + m * 9 + 4, none⟩ = some (.string z3) ∧ W.cell? ⟨gl, ol + m * 9 + 5, none⟩ = some (.string z4) ∧ W.cell? ⟨gl, ol + m * 9 + 6, none⟩ = some (.string z5) ∧ W.cell? ⟨gl, ol + m * 9 + 7, none⟩ = some (.string z6) ∧ W.cell? ⟨gl, ol + m * 9 + 8, none⟩ = some (.string zv)) (by kernel_rfl) ⟨(HM.out.blk.below (below_drew (Below.refl _ _))).1, (HX.out.below (below_drew (Below.refl _ _))).1, p0, p1, p2, p3, p4, p5, p6, p7, p8⟩ (fun hHeld => ?_)
        clear p0 p1 p2 p3 p4 p5 p6 p7 p8
        have hd := below_drew (Below.refl w5.heap.size w5)
        have HB := Lib.hid (HB.out.trans (hd.mono HB.out.size))
        have HM := Lib.hid (HM.out.kp hd)
        have HX := Lib.hid (HX.out.below hd)
        have HY9 := Lib.hid (fun j hj => (hd.cell (p := ⟨gl, ol + m * 9 + j, none⟩) hbl).trans (HY9.out j hj))
        obtain ⟨w6, hw6⟩ : ∃ V, V = w5.drew := ⟨_, rfl⟩
        have hbl6 : gl < w6.heap.size := by rw [hw6]; exact Nat.lt_of_lt_of_le hbl hd.size
        rw [← hw6] at HB HM HX HY9 hHeld ⊢
        clear hd hw6 hbl
        (refine hyes 0 ?_); (refine hyes 1 ?_); (refine hyes 2 ?_); (refine hyes 3 ?_); (refine hyes 5 ?_); (try simp only [Act.put, List.setIfInBounds_toArray, List.set])
        (refine held_call 4 rfl (by kernel_rfl) (fun K hK => ?_); go_simp)
        go_at_call 82; refine (PR.out _).mono ?_; rintro e w7 ⟨rfl, hb7⟩
        have HB := Lib.hid (HB.out.trans (hb7.mono HB.out.size))
        have HM := Lib.hid (HM.out.kp hb7)
        have HX := Lib.hid (HX.out.below hb7)
        have HY9 := Lib.hid (fun j hj => (hb7.cell (p := ⟨gl, ol + m * 9 + j, none⟩) hbl6).trans (HY9.out j hj))
        have hbl7 : gl < w7.heap.size := Nat.lt_of_lt_of_le hbl6 hb7.size
        clear hb7 PR hbl6
        (refine hK.out _ _ ⟨HM.out.blk.1, HX.out.1, HY9.out 0 (by decide), HY9.out 1 (by decide), HY9.out 2 (by decide), HY9.out 3 (by decide), HY9.out 4 (by decide), HY9.out 5 (by decide), HY9.out 6 (by decide), HY9.out 7 (by decide), HY9.out 8 (by decide)⟩ (fun hHeld => ?_); clear hK K; (try simp only [Act.put, List.setIfInBounds_toArray, List.set]))
        (refine hyes 6 ?_); (refine hyes 7 ?_); (refine hyes 8 ?_); (refine hyes 9 ?_); (refine hyes 10 ?_); (refine hyes 11 ?_); (refine hyes 12 ?_); (refine hyes 13 ?_); (refine hyes 14 ?_); (refine hyes 15 ?_); (refine hyes 16 ?_); (refine hyes 17 ?_); (refine hyes 18 ?_); (refine hyes 19 ?_); (try simp only [Act.put, List.setIfInBounds_toArray, List.set])
        (refine held_call 20 rfl (by kernel_rfl) (fun K hK => ?_); go_simp)
        go_at_call 107; refine (OR.out _).mono ?_; rintro e w8 ⟨rfl, hb8⟩
        have HB := Lib.hid (HB.out.trans (hb8.mono HB.out.size))
        have HM := Lib.hid (HM.out.kp hb8)
        have HX := Lib.hid (HX.out.below hb8)
        have HY9 := Lib.hid (fun j hj => (hb8.cell (p := ⟨gl, ol + m * 9 + j, none⟩) hbl7).trans (HY9.out j hj))
        clear hb8 OR hbl7
        (refine hK.out _ _ ⟨HM.out.blk.1, HX.out.1, HY9.out 0 (by decide), HY9.out 1 (by decide), HY9.out 2 (by decide), HY9.out 3 (by decide), HY9.out 4 (by decide), HY9.out 5 (by decide), HY9.out 6 (by decide), HY9.out 7 (by decide), HY9.out 8 (by decide)⟩ (fun hHeld => ?_); clear hK K; (try simp only [Act.put, List.setIfInBounds_toArray, List.set]))
        clear HY9
        by_cases hcc : cc < 0
        · have dc : decide ((0 : Int) ≤ cc) = false := decide_eq_false (by omega)
          (refine hyes 21 ?_); (refine hyes 22 ?_); (refine hyes 23 ?_); (try simp only [Act.put, List.setIfInBounds_toArray, List.set])
          refine wpAnyH_done (by kernel_rfl) ?_ _
          clear hHeld
          obtain ⟨wA, rfl⟩ : ∃ V, V = w8 := ⟨_, rfl⟩
          have hRs := Lib.hid (show R = some { d with gone := d.gone ++ [(⟨xk, ⟨x1, x2⟩, xw, ⟨x3, x4⟩, ⟨x5, x6⟩, xv⟩ : St)] } from HRY.out ⟨rfl, HP.out, BE.out.trans (decide_eq_true hcc)⟩)
          clear HRY HRN
          have hC := HM.out.hC
          have hbC := HM.out.hb
          have hzx := HX.out.2.2
          obtain ⟨cm, fm, zm⟩ := HM.out.blk
          obtain ⟨cx, fx, zx⟩ := HX.out
          go_upto_region 10 with fail
          clear cm fm zm cx fx zx
          refine wp_region_last (S := fun W => (∀ o, W.cell? ⟨b, o, none⟩ = (#[.slice a0 d.more.length c0, .slice (some ⟨gl, ol, none⟩) d.gone.length c1, .slice a2 d.grow.length c2, .slice a3 d.ungrow.length c3, .slice a4 d.shrink.length c4, .slice a5 d.unshrink.length c5] : Array Value)[o]?) ∧ (∀ o, W.cell? ⟨gx, o, none⟩ = (#[.int .i64 xk, .string x1, .string x2, .string xw, .string x3, .string x4, .string x5, .string x6, .string xv] : Array Value)[o]?)) 8 (by kernel_rfl) ⟨(HM.out.blk.below (below_drew (Below.refl _ _))).1, (HX.out.below (below_drew (Below.refl _ _))).1⟩ (fun hHeld => ?_)
          have hd := below_drew (Below.refl wA.heap.size wA)
          have HM := Lib.hid (HM.out.kp hd)
          have HB := Lib.hid (HB.out.trans (hd.mono HB.out.size))
          have HX := Lib.hid (HX.out.below hd)
          obtain ⟨W4, hW4⟩ : ∃ V, V = wA.drew := ⟨_, rfl⟩
          rw [← hW4] at HM HB HX hHeld ⊢
          clear hd hW4
          (refine lyes 0 ?_); (refine lyes 1 ?_); (refine lyes 2 ?_); (refine lyes 3 ?_); (refine lyes 4 ?_); (try simp only [Act.put, List.setIfInBounds_toArray, List.set])
          (refine last_call 5 rfl (by kernel_rfl) (fun K hK => ?_); go_simp)
          obtain ⟨W5, hW5⟩ : ∃ V, V = W4.alloc (.cells #[.int .i64 xk, .string x1, .string x2, .string xw, .string x3, .string x4, .string x5, .string x6, .string xv] 80) := ⟨_, rfl⟩
          obtain ⟨bn, hbn⟩ : ∃ b, b = W4.heap.size := ⟨_, rfl⟩
          rw [← hW5, ← hbn]
          have hbq : Below W4.heap.size W4 W5 := by rw [hW5]; exact (Below.refl _ _).alloc (Nat.le_refl _) _
          have HN1 := Lib.hid (show Sl W5 9 (.slice (some ⟨bn, 0, none⟩) 1 1) 1 ([.int .i64 xk, .string x1, .string x2, .string xw, .string x3, .string x4, .string x5, .string x6, .string xv]) by rw [hW5]; exact Sl.new W4 [.int .i64 xk, .string x1, .string x2, .string xw, .string x3, .string x4, .string x5, .string x6, .string xv] 80 9 1 bn hbn rfl (by simp [maxLen]))
          have HM5 := Lib.hid (HM.out.kp hbq)
          have HB5 := Lib.hid (HB.out.trans (hbq.mono HB.out.size))
          have HX5 := Lib.hid (HX.out.below hbq)
          clear hbq hW5 hbn HM HB HX
          (refine hK.out _ _ ⟨HM5.out.blk.1, HX5.out.1⟩ (fun hHeld => ?_); clear hK K; (try simp only [Act.put, List.setIfInBounds_toArray, List.set]))
          obtain ⟨inf, hin, hs0, hs1, hs2⟩ := info_parts st_info
          have HIN := Lib.hid hin
          clear hin
          refine last_call 6 rfl (by kernel_rfl) (fun K hK => ?_)
          refine step_rowE rfl _ _ 22 rfl C 80 inf _ 9 136 Tryz.underlying22 HIN.out hs0 hs1 hs2 (by decide) rfl (by decide) _ d.gone.length _ rfl HM5.out.r1 _ 1 _ rfl HN1.out.a (st_one ⟨xk, ⟨x1, x2⟩, xw, ⟨x3, x4⟩, ⟨x5, x6⟩, xv⟩) (by omega) HM5.out.hC ?_
          intro a9 c9 wc hown9 hg9 hlie
          have hneb : some b ≠ (Value.slice (some ⟨gl, ol, none⟩) d.gone.length c1).ownBlock := fun e => by have := (own_type HM5.out.r1 e.symm).1; omega
          have HKG := Lib.hid (Kp.of_grown (X := fun k => some k = (Value.slice (some ⟨gl, ol, none⟩) d.gone.length c1).ownBlock) hg9 (fun _ h => h))
          have HBG := Lib.hid (HKG.out.blk HM5.out.blk hneb)
          have hneq : some gx ≠ (Value.slice (some ⟨gl, ol, none⟩) d.gone.length c1).ownBlock := fun e => by
            obtain ⟨_, cs, h2⟩ := own_type HMo.out.r1 e.symm
            have := (Array.getElem?_eq_some_iff.1 h2).1
            have := hgx.out
            omega
          have HQG := Lib.hid (HKG.out.blk HX5.out hneq)
          have HLIE := Lib.hid hlie
          have e1 : (d.gone ++ [(⟨xk, ⟨x1, x2⟩, xw, ⟨x3, x4⟩, ⟨x5, x6⟩, xv⟩ : St)]).length = d.gone.length + 1 := by simp
          have HO9 := Lib.hid (show wc.ownsRow C 80 9 (.slice a9 (d.gone.length + 1) c9) (d.gone ++ [(⟨xk, ⟨x1, x2⟩, xw, ⟨x3, x4⟩, ⟨x5, x6⟩, xv⟩ : St)]).length ((d.gone ++ [(⟨xk, ⟨x1, x2⟩, xw, ⟨x3, x4⟩, ⟨x5, x6⟩, xv⟩ : St)]).flatMap St.cells) by
            rw [e1, List.flatMap_append, List.flatMap_singleton]; exact hown9)
          clear hg9 hown9 hlie HN1 HIN hs0 hs1 hs2 hneb hneq e1
          (refine hK.out _ _ ⟨HBG.out.1, HQG.out.1⟩ (fun hHeld => ?_); clear hK K; (try simp only [Act.put, List.setIfInBounds_toArray, List.set]))
          (refine lyes 7 ?_); (try simp only [Act.put, List.setIfInBounds_toArray, List.set])
          obtain ⟨cg, fg, zg⟩ := HBG.out
          (refine last_end 8 rfl (by kernel_rfl) (by kernel_rfl) (fun K hK => ?_); go_simp)
          clear cg fg zg
          have HMP := Lib.hid (HM5.out.put1 HKG.out HO9.out HLIE.out)
          have HKP := Lib.hid (((Kp.of_below (X := fun k => k = b ∨ C ≤ k) HB5.out).trans HKG.out (fun g hg e => .inr (own_type HMo.out.r1 e.symm).1)).trans (Kp.set (X := fun k => k = b) (o := 1) (v := .slice a9 (d.gone.length + 1) c9) rfl) (fun g _ e => .inl e))
          obtain ⟨wd, hwd⟩ : ∃ V, V = wc.setCell ⟨b, 1, none⟩ (.slice a9 (d.gone.length + 1) c9) := ⟨_, rfl⟩
          rw [← hwd] at HMP HKP ⊢
          clear hwd HBG HQG HKG HO9 HM5 HB5 HX5 HLIE
          refine hK.out _ _ ?_
          clear hK K
          go_wp2
          refine bodyPost_ret (v := .tuple #[.int .i64 0, .bool true]) (by simp [results, Tryz.results52, go_sem]) rfl ?_
          exact ⟨by rw [hRs.out]; rfl, HKP.out, fun d' hd => by rw [hRs.out] at hd; cases hd; exact ⟨_, _, _, _, _, _, HMP.out⟩⟩
        · have dc : decide ((0 : Int) ≤ cc) = true := decide_eq_true (by omega)
          (refine hyes 21 ?_); (refine hyes 22 ?_); (refine hyes 23 ?_); (try simp only [Act.put, List.setIfInBounds_toArray, List.set])
          refine wpAnyH_done (by kernel_rfl) ?_ _
          clear hHeld
          obtain ⟨wA, rfl⟩ : ∃ V, V = w8 := ⟨_, rfl⟩
          have hRn := Lib.hid (show R = none from HRN.out (fun h => by rw [BE.out] at h; exact hcc (of_decide_eq_true h.2.2)))
          go_wp2
          refine bodyPost_ret (v := .tuple #[.int .i64 0, .bool false]) (by simp [results, Tryz.results52, go_sem]) rfl ?_
          exact ⟨by rw [hRn.out]; rfl, Kp.of_below HB.out, fun d' hd => by rw [hRn.out] at hd; cases hd⟩
      · have dn : decide ((0 : Int) < (d.gone.length : Int)) = false := decide_eq_false (by omega)
        have dn2 : decide (0 < d.gone.length) = false := decide_eq_false hn0
        have BE := Lib.hid (beh_zeroS (x := ⟨xk, ⟨x1, x2⟩, xw, ⟨x3, x4⟩, ⟨x5, x6⟩, xv⟩) hn0)
        clear hn0
        refine wp_region_held_drew (S := (fun W => (∀ o, W.cell? ⟨b, o, none⟩ = (#[.slice a0 d.more.length c0, .slice a1 d.gone.length c1, .slice a2 d.grow.length c2, .slice a3 d.ungrow.length c3, .slice a4 d.shrink.length c4, .slice a5 d.unshrink.length c5] : Array Value)[o]?) ∧ (∀ o, W.cell? ⟨gx, o, none⟩ = (#[.int .i64 xk, .string x1, .string x2, .string xw, .string x3, .string x4, .string x5, .string x6, .string xv] : Array Value)[o]?))) (by kernel_rfl) ⟨(HM.out.blk.below (below_drew (Below.refl _ _))).1, (HX.out.below (below_drew (Below.refl _ _))).1⟩ (fun hHeld => ?_)
        have hd := below_drew (Below.refl w5.heap.size w5)
        have HB := Lib.hid (HB.out.trans (hd.mono HB.out.size))
        have HM := Lib.hid (HM.out.kp hd)
        have HX := Lib.hid (HX.out.below hd)
        obtain ⟨w6, hw6⟩ : ∃ V, V = w5.drew := ⟨_, rfl⟩
        rw [← hw6] at HB HM HX hHeld ⊢
        clear hd hw6
        (refine hyes 0 ?_); (refine hyes 1 ?_); (refine hyes 2 ?_); (refine hyes 3 ?_); (refine hyes 5 ?_); (try simp only [Act.put, List.setIfInBounds_toArray, List.set])
        (refine held_call 4 rfl (by kernel_rfl) (fun K hK => ?_); go_simp)
        go_at_call 82; refine (PR.out _).mono ?_; rintro e w7 ⟨rfl, hb7⟩
        have HB := Lib.hid (HB.out.trans (hb7.mono HB.out.size))
        have HM := Lib.hid (HM.out.kp hb7)
        have HX := Lib.hid (HX.out.below hb7)
        clear hb7 PR
        (refine hK.out _ _ ⟨HM.out.blk.1, HX.out.1⟩ (fun hHeld => ?_); clear hK K; (try simp only [Act.put, List.setIfInBounds_toArray, List.set]))
        (refine hyes 6 ?_); (refine hyes 7 ?_); (refine hyes 8 ?_); (refine hyes 9 ?_); (refine hyes 10 ?_); (refine hyes 11 ?_); (try simp only [Act.put, List.setIfInBounds_toArray, List.set])
        (refine hno 12 ?_); (refine hno 13 ?_); (refine hno 14 ?_); (refine hno 15 ?_); (refine hno 16 ?_); (refine hno 17 ?_); (refine hno 18 ?_); (refine hno 19 ?_); (refine hno 20 ?_); (refine hno 21 ?_); (try simp only [Act.put, List.setIfInBounds_toArray, List.set])
        (refine hyes 22 ?_); (refine hyes 23 ?_); (try simp only [Act.put, List.setIfInBounds_toArray, List.set])
        refine wpAnyH_done (by kernel_rfl) ?_ _
        clear hHeld
        obtain ⟨wA, rfl⟩ : ∃ V, V = w7 := ⟨_, rfl⟩
        have hRs := Lib.hid (show R = some { d with gone := d.gone ++ [(⟨xk, ⟨x1, x2⟩, xw, ⟨x3, x4⟩, ⟨x5, x6⟩, xv⟩ : St)] } from HRY.out ⟨rfl, HP.out, BE.out⟩)
        clear HRY HRN
        have hC := HM.out.hC
        have hbC := HM.out.hb
        have hzx := HX.out.2.2
        obtain ⟨cm, fm, zm⟩ := HM.out.blk
        obtain ⟨cx, fx, zx⟩ := HX.out
        go_upto_region 10 with fail
        clear cm fm zm cx fx zx
        refine wp_region_last (S := fun W => (∀ o, W.cell? ⟨b, o, none⟩ = (#[.slice a0 d.more.length c0, .slice a1 d.gone.length c1, .slice a2 d.grow.length c2, .slice a3 d.ungrow.length c3, .slice a4 d.shrink.length c4, .slice a5 d.unshrink.length c5] : Array Value)[o]?) ∧ (∀ o, W.cell? ⟨gx, o, none⟩ = (#[.int .i64 xk, .string x1, .string x2, .string xw, .string x3, .string x4, .string x5, .string x6, .string xv] : Array Value)[o]?)) 8 (by kernel_rfl) ⟨(HM.out.blk.below (below_drew (Below.refl _ _))).1, (HX.out.below (below_drew (Below.refl _ _))).1⟩ (fun hHeld => ?_)
        have hd := below_drew (Below.refl wA.heap.size wA)
        have HM := Lib.hid (HM.out.kp hd)
        have HB := Lib.hid (HB.out.trans (hd.mono HB.out.size))
        have HX := Lib.hid (HX.out.below hd)
        obtain ⟨W4, hW4⟩ : ∃ V, V = wA.drew := ⟨_, rfl⟩
        rw [← hW4] at HM HB HX hHeld ⊢
        clear hd hW4
        (refine lyes 0 ?_); (refine lyes 1 ?_); (refine lyes 2 ?_); (refine lyes 3 ?_); (refine lyes 4 ?_); (try simp only [Act.put, List.setIfInBounds_toArray, List.set])
        (refine last_call 5 rfl (by kernel_rfl) (fun K hK => ?_); go_simp)
        obtain ⟨W5, hW5⟩ : ∃ V, V = W4.alloc (.cells #[.int .i64 xk, .string x1, .string x2, .string xw, .string x3, .string x4, .string x5, .string x6, .string xv] 80) := ⟨_, rfl⟩
        obtain ⟨bn, hbn⟩ : ∃ b, b = W4.heap.size := ⟨_, rfl⟩
        rw [← hW5, ← hbn]
        have hbq : Below W4.heap.size W4 W5 := by rw [hW5]; exact (Below.refl _ _).alloc (Nat.le_refl _) _
        have HN1 := Lib.hid (show Sl W5 9 (.slice (some ⟨bn, 0, none⟩) 1 1) 1 ([.int .i64 xk, .string x1, .string x2, .string xw, .string x3, .string x4, .string x5, .string x6, .string xv]) by rw [hW5]; exact Sl.new W4 [.int .i64 xk, .string x1, .string x2, .string xw, .string x3, .string x4, .string x5, .string x6, .string xv] 80 9 1 bn hbn rfl (by simp [maxLen]))
        have HM5 := Lib.hid (HM.out.kp hbq)
        have HB5 := Lib.hid (HB.out.trans (hbq.mono HB.out.size))
        have HX5 := Lib.hid (HX.out.below hbq)
        clear hbq hW5 hbn HM HB HX
        (refine hK.out _ _ ⟨HM5.out.blk.1, HX5.out.1⟩ (fun hHeld => ?_); clear hK K; (try simp only [Act.put, List.setIfInBounds_toArray, List.set]))
        obtain ⟨inf, hin, hs0, hs1, hs2⟩ := info_parts st_info
        have HIN := Lib.hid hin
        clear hin
        refine last_call 6 rfl (by kernel_rfl) (fun K hK => ?_)
        refine step_rowE rfl _ _ 22 rfl C 80 inf _ 9 136 Tryz.underlying22 HIN.out hs0 hs1 hs2 (by decide) rfl (by decide) _ d.gone.length _ rfl HM5.out.r1 _ 1 _ rfl HN1.out.a (st_one ⟨xk, ⟨x1, x2⟩, xw, ⟨x3, x4⟩, ⟨x5, x6⟩, xv⟩) (by omega) HM5.out.hC ?_
        intro a9 c9 wc hown9 hg9 hlie
        have hneb : some b ≠ (Value.slice a1 d.gone.length c1).ownBlock := fun e => by have := (own_type HM5.out.r1 e.symm).1; omega
        have HKG := Lib.hid (Kp.of_grown (X := fun k => some k = (Value.slice a1 d.gone.length c1).ownBlock) hg9 (fun _ h => h))
        have HBG := Lib.hid (HKG.out.blk HM5.out.blk hneb)
        have hneq : some gx ≠ (Value.slice a1 d.gone.length c1).ownBlock := fun e => by
          obtain ⟨_, cs, h2⟩ := own_type HMo.out.r1 e.symm
          have := (Array.getElem?_eq_some_iff.1 h2).1
          have := hgx.out
          omega
        have HQG := Lib.hid (HKG.out.blk HX5.out hneq)
        have HLIE := Lib.hid hlie
        have e1 : (d.gone ++ [(⟨xk, ⟨x1, x2⟩, xw, ⟨x3, x4⟩, ⟨x5, x6⟩, xv⟩ : St)]).length = d.gone.length + 1 := by simp
        have HO9 := Lib.hid (show wc.ownsRow C 80 9 (.slice a9 (d.gone.length + 1) c9) (d.gone ++ [(⟨xk, ⟨x1, x2⟩, xw, ⟨x3, x4⟩, ⟨x5, x6⟩, xv⟩ : St)]).length ((d.gone ++ [(⟨xk, ⟨x1, x2⟩, xw, ⟨x3, x4⟩, ⟨x5, x6⟩, xv⟩ : St)]).flatMap St.cells) by
          rw [e1, List.flatMap_append, List.flatMap_singleton]; exact hown9)
        clear hg9 hown9 hlie HN1 HIN hs0 hs1 hs2 hneb hneq e1
        (refine hK.out _ _ ⟨HBG.out.1, HQG.out.1⟩ (fun hHeld => ?_); clear hK K; (try simp only [Act.put, List.setIfInBounds_toArray, List.set]))
        (refine lyes 7 ?_); (try simp only [Act.put, List.setIfInBounds_toArray, List.set])
        obtain ⟨cg, fg, zg⟩ := HBG.out
        (refine last_end 8 rfl (by kernel_rfl) (by kernel_rfl) (fun K hK => ?_); go_simp)
        clear cg fg zg
        have HMP := Lib.hid (HM5.out.put1 HKG.out HO9.out HLIE.out)
        have HKP := Lib.hid (((Kp.of_below (X := fun k => k = b ∨ C ≤ k) HB5.out).trans HKG.out (fun g hg e => .inr (own_type HMo.out.r1 e.symm).1)).trans (Kp.set (X := fun k => k = b) (o := 1) (v := .slice a9 (d.gone.length + 1) c9) rfl) (fun g _ e => .inl e))
        obtain ⟨wd, hwd⟩ : ∃ V, V = wc.setCell ⟨b, 1, none⟩ (.slice a9 (d.gone.length + 1) c9) := ⟨_, rfl⟩
        rw [← hwd] at HMP HKP ⊢
        clear hwd HBG HQG HKG HO9 HM5 HB5 HX5 HLIE
        refine hK.out _ _ ?_
        clear hK K
        go_wp2
        refine bodyPost_ret (v := .tuple #[.int .i64 0, .bool true]) (by simp [results, Tryz.results52, go_sem]) rfl ?_
        exact ⟨by rw [hRs.out]; rfl, HKP.out, fun d' hd => by rw [hRs.out] at hd; cases hd; exact ⟨_, _, _, _, _, _, HMP.out⟩⟩
    · have dp : ((printS ⟨xk, ⟨x1, x2⟩, xw, ⟨x3, x4⟩, ⟨x5, x6⟩, xv⟩).toList != rest.toList) = true := by
        rw [bne_iff_ne]
        intro e
        exact hp (bl_inj.1 (by rw [← toList_bl, ← toList_bl]; exact e))
      have dq : ((printS ⟨xk, ⟨x1, x2⟩, xw, ⟨x3, x4⟩, ⟨x5, x6⟩, xv⟩).toList == rest.toList) = false := by
        rw [beq_eq_false_iff_ne]
        intro e
        exact hp (bl_inj.1 (by rw [← toList_bl, ← toList_bl]; exact e))
      have HP := Lib.hid hp
      clear hp hxr PRT
      generalize printS ⟨xk, ⟨x1, x2⟩, xw, ⟨x3, x4⟩, ⟨x5, x6⟩, xv⟩ = pt at PR dp dq HP HRY HRN
      refine wp_region_held_drew (S := (fun W => (∀ o, W.cell? ⟨b, o, none⟩ = (#[.slice a0 d.more.length c0, .slice a1 d.gone.length c1, .slice a2 d.grow.length c2, .slice a3 d.ungrow.length c3, .slice a4 d.shrink.length c4, .slice a5 d.unshrink.length c5] : Array Value)[o]?) ∧ (∀ o, W.cell? ⟨gx, o, none⟩ = (#[.int .i64 xk, .string x1, .string x2, .string xw, .string x3, .string x4, .string x5, .string x6, .string xv] : Array Value)[o]?))) (by kernel_rfl) ⟨(HM.out.blk.below (below_drew (Below.refl _ _))).1, (HX.out.below (below_drew (Below.refl _ _))).1⟩ (fun hHeld => ?_)
      have hd := below_drew (Below.refl w5.heap.size w5)
      have HB := Lib.hid (HB.out.trans (hd.mono HB.out.size))
      have HM := Lib.hid (HM.out.kp hd)
      have HX := Lib.hid (HX.out.below hd)
      obtain ⟨w6, hw6⟩ : ∃ V, V = w5.drew := ⟨_, rfl⟩
      rw [← hw6] at HB HM HX hHeld ⊢
      clear hd hw6
      (refine hyes 0 ?_); (refine hyes 1 ?_); (refine hyes 2 ?_); (refine hyes 3 ?_); (refine hyes 5 ?_); (try simp only [Act.put, List.setIfInBounds_toArray, List.set])
      (refine held_call 4 rfl (by kernel_rfl) (fun K hK => ?_); go_simp)
      go_at_call 82; refine (PR.out _).mono ?_; rintro e w7 ⟨rfl, hb7⟩
      have HB := Lib.hid (HB.out.trans (hb7.mono HB.out.size))
      have HM := Lib.hid (HM.out.kp hb7)
      have HX := Lib.hid (HX.out.below hb7)
      clear hb7 PR
      (refine hK.out _ _ ⟨HM.out.blk.1, HX.out.1⟩ (fun hHeld => ?_); clear hK K; (try simp only [Act.put, List.setIfInBounds_toArray, List.set]))
      (refine hyes 6 ?_); (refine hyes 7 ?_); (refine hyes 8 ?_); (try simp only [Act.put, List.setIfInBounds_toArray, List.set])
      (refine hno 9 ?_); (refine hno 10 ?_); (refine hno 11 ?_); (refine hno 12 ?_); (refine hno 13 ?_); (refine hno 14 ?_); (refine hno 15 ?_); (refine hno 16 ?_); (refine hno 17 ?_); (refine hno 18 ?_); (refine hno 19 ?_); (refine hno 20 ?_); (refine hno 21 ?_); (refine hno 22 ?_); (try simp only [Act.put, List.setIfInBounds_toArray, List.set])
      (refine hyes 23 ?_); (try simp only [Act.put, List.setIfInBounds_toArray, List.set])
      refine wpAnyH_done (by kernel_rfl) ?_ _
      clear hHeld
      obtain ⟨wA, rfl⟩ : ∃ V, V = w7 := ⟨_, rfl⟩
      have hRn := Lib.hid (show R = none from HRN.out (fun h => HP.out h.2.1))
      go_wp2
      refine bodyPost_ret (v := .tuple #[.int .i64 0, .bool false]) (by simp [results, Tryz.results52, go_sem]) rfl ?_
      exact ⟨by rw [hRn.out]; rfl, Kp.of_below HB.out, fun d' hd => by rw [hRn.out] at hd; cases hd⟩
  · have dy : (y0 != 0) = true := by simp [hy]
    have HYN := Lib.hid hy
    clear hy PRT
    refine wp_region_held_drew (S := (fun W => (∀ o, W.cell? ⟨b, o, none⟩ = (#[.slice a0 d.more.length c0, .slice a1 d.gone.length c1, .slice a2 d.grow.length c2, .slice a3 d.ungrow.length c3, .slice a4 d.shrink.length c4, .slice a5 d.unshrink.length c5] : Array Value)[o]?) ∧ (∀ o, W.cell? ⟨gx, o, none⟩ = (#[.int .i64 xk, .string x1, .string x2, .string xw, .string x3, .string x4, .string x5, .string x6, .string xv] : Array Value)[o]?))) (by kernel_rfl) ⟨(HM.out.blk.below (below_drew (Below.refl _ _))).1, (HX.out.below (below_drew (Below.refl _ _))).1⟩ (fun hHeld => ?_)
    have hd := below_drew (Below.refl w5.heap.size w5)
    have HB := Lib.hid (HB.out.trans (hd.mono HB.out.size))
    have HM := Lib.hid (HM.out.kp hd)
    have HX := Lib.hid (HX.out.below hd)
    obtain ⟨w6, hw6⟩ : ∃ V, V = w5.drew := ⟨_, rfl⟩
    rw [← hw6] at HB HM HX hHeld ⊢
    clear hd hw6
    (refine hyes 0 ?_); (refine hyes 1 ?_); (refine hyes 2 ?_); (try simp only [Act.put, List.setIfInBounds_toArray, List.set])
    (refine hno 3 ?_); (refine hno 4 ?_); (refine hno 5 ?_); (refine hno 6 ?_); (try simp only [Act.put, List.setIfInBounds_toArray, List.set])
    (refine hyes 7 ?_); (refine hyes 8 ?_); (try simp only [Act.put, List.setIfInBounds_toArray, List.set])
    (refine hno 9 ?_); (refine hno 10 ?_); (refine hno 11 ?_); (refine hno 12 ?_); (refine hno 13 ?_); (refine hno 14 ?_); (refine hno 15 ?_); (refine hno 16 ?_); (refine hno 17 ?_); (refine hno 18 ?_); (refine hno 19 ?_); (refine hno 20 ?_); (refine hno 21 ?_); (refine hno 22 ?_); (try simp only [Act.put, List.setIfInBounds_toArray, List.set])
    (refine hyes 23 ?_); (try simp only [Act.put, List.setIfInBounds_toArray, List.set])
    refine wpAnyH_done (by kernel_rfl) ?_ _
    clear hHeld
    obtain ⟨wA, rfl⟩ : ∃ V, V = w6 := ⟨_, rfl⟩
    have hRn := Lib.hid (show R = none from HRN.out (fun h => HYN.out h.1))
    go_wp2
    refine bodyPost_ret (v := .tuple #[.int .i64 0, .bool false]) (by simp [results, Tryz.results52, go_sem]) rfl ?_
    exact ⟨by rw [hRn.out]; rfl, Kp.of_below HB.out, fun d' hd => by rw [hRn.out] at hd; cases hd⟩
end Go.Proofs.YtomhekohcadijaaGreatDoor
namespace Go.Proofs.YtomhekohcadijaaGreatDoor
open Go.RowKit Go.Shelf

set_option maxRecDepth 100000 in
set_option maxHeartbeats 8000000 in
theorem delta_put1 (s rest : ByteArray) (last : Int) (C b : Nat) (v0 v1 v2 v3 v4 v5 : Value) (d : Dl) (w : World) (hg : Gl w) (h : MkD C b w v0 v1 v2 v3 v4 v5 d) (hs : s.size ≤ 1000000) (hn : d.more.length ≤ 100000) (hk : kindB s = (1, rest)) (hl : last ≤ 1) :
    Calls Tryz.prog 52 #[.pointer (some ⟨b, 0, none⟩), .string s, .int .i64 last] w fun e w' => PutP C b w 1 (if okLnS d.more rest = true then some { d with more := d.more ++ [(parseS rest).1] } else none) e w' := by
  have HG := Lib.hid hg
  have HM := Lib.hid h
  have hrs : rest.size ≤ 1000000 := by have := kindL_size s (bkL marksB 6); rw [show kindL s (bkL marksB 6) = (1, rest) from hk] at this; exact Nat.le_trans this hs
  have KD := Lib.hid (fun W => delta_kind s W (by omega))
  rw [hk] at KD
  obtain ⟨a0, c0, rfl⟩ := own_form h.r0
  obtain ⟨a1, c1, rfl⟩ := own_form h.r1
  obtain ⟨a2, c2, rfl⟩ := own_form h.r2
  obtain ⟨a3, c3, rfl⟩ := own_form h.r3
  obtain ⟨a4, c4, rfl⟩ := own_form h.r4
  obtain ⟨a5, c5, rfl⟩ := own_form h.r5
  obtain ⟨R, hR⟩ : ∃ R, R = (if okLnS d.more rest = true then some { d with more := d.more ++ [(parseS rest).1] } else none) := ⟨_, rfl⟩
  rw [← hR]
  have HR := Lib.hid hR
  have d1 : decide ((1 : Int) < last) = false := decide_eq_false (by omega)
  clear hg h hk hR hs
  go_enter Tryz.func52, Tryz.ntmps52
  go_wp2_with fail
  refine (KD.out _).mono ?_
  rintro e w1 ⟨rfl, hb1⟩
  have HB := Lib.hid hb1
  have HM := Lib.hid (HM.out.kp hb1)
  clear hb1 KD
  go_wp2_with fail
  have SP := Lib.hid (syn_Parse rest w1 (by omega) (HG.out.below HB.out))
  have PRT := Lib.hid (parse_right rest)
  have HRY := Lib.hid (show (parseS rest).2.2 = 0 ∧ printS (parseS rest).1 = rest ∧ behS d.more (parseS rest).1 = true → R = some { d with more := d.more ++ [(parseS rest).1] } from fun h => by rw [HR.out, if_pos (okLnS_iff.2 h)])
  have HRN := Lib.hid (show ¬ ((parseS rest).2.2 = 0 ∧ printS (parseS rest).1 = rest ∧ behS d.more (parseS rest).1 = true) → R = none from fun h => by rw [HR.out, if_neg (fun h' => h (okLnS_iff.1 h'))])
  clear HR
  generalize parseS rest = pq at *
  obtain ⟨⟨xk, ⟨x1, x2⟩, xw, ⟨x3, x4⟩, ⟨x5, x6⟩, xv⟩, at0, y0⟩ := pq
  dsimp only at SP PRT HRY HRN
  refine SP.out.mono ?_
  rintro e w2 ⟨rfl, hb2⟩
  have HB := Lib.hid (HB.out.trans (hb2.mono HB.out.size))
  have HM := Lib.hid (HM.out.kp hb2)
  clear hb2 SP
  obtain ⟨gx, hgx0⟩ : ∃ g, g = w2.heap.size := ⟨_, rfl⟩
  have HX := Lib.hid (Blk.new w2 #[.int .i64 xk, .string x1, .string x2, .string xw, .string x3, .string x4, .string x5, .string x6, .string xv] 80)
  have hba := (Below.refl w2.heap.size w2).alloc (Nat.le_refl _) (.cells #[.int .i64 xk, .string x1, .string x2, .string xw, .string x3, .string x4, .string x5, .string x6, .string xv] 80)
  have HMo := HM
  have hgx := Lib.hid (show w2.heap.size ≤ gx by rw [hgx0]; exact Nat.le_refl _)
  have HB := Lib.hid (HB.out.trans (hba.mono HB.out.size))
  have HM := Lib.hid (HM.out.kp hba)
  obtain ⟨w3, hw3⟩ : ∃ V, V = w2.alloc (.cells #[.int .i64 xk, .string x1, .string x2, .string xw, .string x3, .string x4, .string x5, .string x6, .string xv] 80) := ⟨_, rfl⟩
  rw [← hw3] at HX HB HM
  rw [← hgx0] at HX
  clear hba
  go_upto_region 6 with fail
  rw [← hw3, ← hgx0]
  clear hw3 hgx0
  refine wp_region_held_drew (S := fun _ => True) (by kernel_rfl) trivial (fun hHeld => ?_)
  have hd := below_drew (Below.refl w3.heap.size w3)
  have HB := Lib.hid (HB.out.trans (hd.mono HB.out.size))
  have HM := Lib.hid (HM.out.kp hd)
  have HX := Lib.hid (HX.out.below hd)
  obtain ⟨w4, hw4⟩ : ∃ V, V = w3.drew := ⟨_, rfl⟩
  rw [← hw4] at HB HM HX ⊢
  clear hd hw4
  (refine hyes 0 ?_); (refine hyes 1 ?_); (refine hyes 2 ?_); (refine hyes 3 ?_); (refine hyes 4 ?_); (refine hyes 5 ?_); (refine hyes 7 ?_); (try simp only [Act.put, List.setIfInBounds_toArray, List.set])
  (refine held_call 6 rfl (by kernel_rfl) (fun K hK => ?_); go_simp)
  obtain ⟨w5, hw5⟩ : ∃ V, V = w4.alloc (.cells #[.pointer (some ⟨b, 1, none⟩), .pointer (some ⟨b, 0, none⟩)] 144) := ⟨_, rfl⟩
  obtain ⟨bn, hbn⟩ : ∃ b, b = w4.heap.size := ⟨_, rfl⟩
  rw [← hw5, ← hbn]
  have hd : Below w4.heap.size w4 w5 := by rw [hw5]; exact (Below.refl _ _).alloc (Nat.le_refl _) _
  have hq : w5.cell? ⟨bn, 1, none⟩ = some (.pointer (some ⟨b, 0, none⟩)) := by
    rw [hw5, hbn]; exact (Blk.new w4 #[.pointer (some ⟨b, 1, none⟩), .pointer (some ⟨b, 0, none⟩)] 144).1 1
  have HB := Lib.hid (HB.out.trans (hd.mono HB.out.size))
  have HM := Lib.hid (HM.out.kp hd)
  have HX := Lib.hid (HX.out.below hd)
  clear hd hw5 hbn
  (refine hK.out _ _ trivial (fun hHeld => ?_); clear hK K; (try simp only [Act.put, List.setIfInBounds_toArray, List.set]))
  (refine hnow 8 ?_); (refine hnow 9 ?_); (refine hnow 10 ?_); (try simp only [Act.put, List.setIfInBounds_toArray, List.set])
  refine wpAnyH_done (by kernel_rfl) ?_ _
  clear hq hHeld
  obtain ⟨cm, fm, zm⟩ := HM.out.blk
  go_upto_region 8 with fail
  clear cm fm zm
  by_cases hy : y0 = 0
  · subst hy
    have hxr := PRT.out rfl
    have PR := Lib.hid (fun W => syn_Print ⟨xk, ⟨x1, x2⟩, xw, ⟨x3, x4⟩, ⟨x5, x6⟩, xv⟩ W (st_le_mono (rightS_le hxr) (by decide)))
    have dy : ((0 : Int) != 0) = false := rfl
    by_cases hp : printS ⟨xk, ⟨x1, x2⟩, xw, ⟨x3, x4⟩, ⟨x5, x6⟩, xv⟩ = rest
    · have dp : ((printS ⟨xk, ⟨x1, x2⟩, xw, ⟨x3, x4⟩, ⟨x5, x6⟩, xv⟩).toList != rest.toList) = false := by rw [hp]; simp
      have dq : ((printS ⟨xk, ⟨x1, x2⟩, xw, ⟨x3, x4⟩, ⟨x5, x6⟩, xv⟩).toList == rest.toList) = true := by rw [hp]; simp
      have HP := Lib.hid hp
      clear hp hxr PRT
      generalize printS ⟨xk, ⟨x1, x2⟩, xw, ⟨x3, x4⟩, ⟨x5, x6⟩, xv⟩ = pt at PR dp dq HP HRY HRN
      by_cases hn0 : 0 < d.more.length
      · have dn : decide ((0 : Int) < (d.more.length : Int)) = true := decide_eq_true (by omega)
        have dn2 : decide (0 < d.more.length) = true := decide_eq_true hn0
        obtain ⟨gl, ol, cl, he, hc1, hm1, hbl, hxl⟩ := (Sl.of_own HM.out.r0).pos hn0
        simp only [Value.slice.injEq, true_and] at he
        obtain ⟨rfl, rfl⟩ := he
        obtain ⟨p0, p1, p2, p3, p4, p5, p6, p7, p8⟩ := st_cell hxl (d.more.length - 1) (by omega)
        obtain ⟨m, hm⟩ : ∃ m, m = d.more.length - 1 := ⟨_, rfl⟩
        have hwm : IntKind.i64.wrap ((d.more.length : Int) - 1) = (m : Int) := by rw [show (d.more.length : Int) - 1 = (m : Int) by omega]; exact Go.IntWalk.i64_in _ (by omega)
        have hml : m < d.more.length := by omega
        have BE := Lib.hid (beh_oneS (x := ⟨xk, ⟨x1, x2⟩, xw, ⟨x3, x4⟩, ⟨x5, x6⟩, xv⟩) hn0)
        clear hxl
        simp only [← hm] at p0 p1 p2 p3 p4 p5 p6 p7 p8 BE
        have OR := Lib.hid (fun W => syn_OrderB d.more[m] ⟨xk, ⟨x1, x2⟩, xw, ⟨x3, x4⟩, ⟨x5, x6⟩, xv⟩ W)
        have hek : d.more[m] = ⟨d.more[m].k, ⟨d.more[m].h.o, d.more[m].h.n⟩, d.more[m].who, ⟨d.more[m].a.o, d.more[m].a.n⟩, ⟨d.more[m].b.o, d.more[m].b.n⟩, d.more[m].via⟩ := rfl
        clear hek
        generalize d.more[m] = z at *
        clear hm
        obtain ⟨zk, ⟨z1, z2⟩, zw, ⟨z3, z4⟩, ⟨z5, z6⟩, zv⟩ := z
        generalize cmpSt ⟨zk, ⟨z1, z2⟩, zw, ⟨z3, z4⟩, ⟨z5, z6⟩, zv⟩ ⟨xk, ⟨x1, x2⟩, xw, ⟨x3, x4⟩, ⟨x5, x6⟩, xv⟩ = cc at OR BE
        have HY9 := Lib.hid (show (∀ j (hj : j < 9), w5.cell? ⟨gl, ol + m * 9 + j, none⟩ = some ((#[.int .i64 zk, .string z1, .string z2, .string zw, .string z3, .string z4, .string z5, .string z6, .string zv] : Array Value)[j]'(by simpa using hj))) from fun j hj => by
          match j, hj with
          | 0, _ => exact p0
          | 1, _ => exact p1
          | 2, _ => exact p2
          | 3, _ => exact p3
          | 4, _ => exact p4
          | 5, _ => exact p5
          | 6, _ => exact p6
          | 7, _ => exact p7
          | 8, _ => exact p8)
        refine wp_region_held_drew (S := fun W => (∀ o, W.cell? ⟨b, o, none⟩ = (#[.slice (some ⟨gl, ol, none⟩) d.more.length c0, .slice a1 d.gone.length c1, .slice a2 d.grow.length c2, .slice a3 d.ungrow.length c3, .slice a4 d.shrink.length c4, .slice a5 d.unshrink.length c5] : Array Value)[o]?) ∧ (∀ o, W.cell? ⟨gx, o, none⟩ = (#[.int .i64 xk, .string x1, .string x2, .string xw, .string x3, .string x4, .string x5, .string x6, .string xv] : Array Value)[o]?) ∧ W.cell? ⟨gl, ol + m * 9, none⟩ = some (.int .i64 zk) ∧ W.cell? ⟨gl, ol + m * 9 + 1, none⟩ = some (.string z1) ∧ W.cell? ⟨gl, ol + m * 9 + 2, none⟩ = some (.string z2) ∧ W.cell? ⟨gl, ol + m * 9 + 3, none⟩ = some (.string zw) ∧ W.cell? ⟨gl, ol + m * 9 + 4, none⟩ = some (.string z3) ∧ W.cell? ⟨gl, ol + m * 9 + 5, none⟩ = some (.string z4) ∧ W.cell? ⟨gl, ol + m * 9 + 6, none⟩ = some (.string z5) ∧ W.cell? ⟨gl, ol + m * 9 + 7, none⟩ = some (.string z6) ∧ W.cell? ⟨gl, ol + m * 9 + 8, none⟩ = some (.string zv)) (by kernel_rfl) ⟨(HM.out.blk.below (below_drew (Below.refl _ _))).1, (HX.out.below (below_drew (Below.refl _ _))).1, p0, p1, p2, p3, p4, p5, p6, p7, p8⟩ (fun hHeld => ?_)
        clear p0 p1 p2 p3 p4 p5 p6 p7 p8
        have hd := below_drew (Below.refl w5.heap.size w5)
        have HB := Lib.hid (HB.out.trans (hd.mono HB.out.size))
        have HM := Lib.hid (HM.out.kp hd)
        have HX := Lib.hid (HX.out.below hd)
        have HY9 := Lib.hid (fun j hj => (hd.cell (p := ⟨gl, ol + m * 9 + j, none⟩) hbl).trans (HY9.out j hj))
        obtain ⟨w6, hw6⟩ : ∃ V, V = w5.drew := ⟨_, rfl⟩
        have hbl6 : gl < w6.heap.size := by rw [hw6]; exact Nat.lt_of_lt_of_le hbl hd.size
        rw [← hw6] at HB HM HX HY9 hHeld ⊢
        clear hd hw6 hbl
        (refine hyes 0 ?_); (refine hyes 1 ?_); (refine hyes 2 ?_); (refine hyes 3 ?_); (refine hyes 5 ?_); (try simp only [Act.put, List.setIfInBounds_toArray, List.set])
        (refine held_call 4 rfl (by kernel_rfl) (fun K hK => ?_); go_simp)
        go_at_call 82; refine (PR.out _).mono ?_; rintro e w7 ⟨rfl, hb7⟩
        have HB := Lib.hid (HB.out.trans (hb7.mono HB.out.size))
        have HM := Lib.hid (HM.out.kp hb7)
        have HX := Lib.hid (HX.out.below hb7)
        have HY9 := Lib.hid (fun j hj => (hb7.cell (p := ⟨gl, ol + m * 9 + j, none⟩) hbl6).trans (HY9.out j hj))
        have hbl7 : gl < w7.heap.size := Nat.lt_of_lt_of_le hbl6 hb7.size
        clear hb7 PR hbl6
        (refine hK.out _ _ ⟨HM.out.blk.1, HX.out.1, HY9.out 0 (by decide), HY9.out 1 (by decide), HY9.out 2 (by decide), HY9.out 3 (by decide), HY9.out 4 (by decide), HY9.out 5 (by decide), HY9.out 6 (by decide), HY9.out 7 (by decide), HY9.out 8 (by decide)⟩ (fun hHeld => ?_); clear hK K; (try simp only [Act.put, List.setIfInBounds_toArray, List.set]))
        (refine hyes 6 ?_); (refine hyes 7 ?_); (refine hyes 8 ?_); (refine hyes 9 ?_); (refine hyes 10 ?_); (refine hyes 11 ?_); (refine hyes 12 ?_); (refine hyes 13 ?_); (refine hyes 14 ?_); (refine hyes 15 ?_); (refine hyes 16 ?_); (refine hyes 17 ?_); (refine hyes 18 ?_); (refine hyes 19 ?_); (try simp only [Act.put, List.setIfInBounds_toArray, List.set])
        (refine held_call 20 rfl (by kernel_rfl) (fun K hK => ?_); go_simp)
        go_at_call 107; refine (OR.out _).mono ?_; rintro e w8 ⟨rfl, hb8⟩
        have HB := Lib.hid (HB.out.trans (hb8.mono HB.out.size))
        have HM := Lib.hid (HM.out.kp hb8)
        have HX := Lib.hid (HX.out.below hb8)
        have HY9 := Lib.hid (fun j hj => (hb8.cell (p := ⟨gl, ol + m * 9 + j, none⟩) hbl7).trans (HY9.out j hj))
        clear hb8 OR hbl7
        (refine hK.out _ _ ⟨HM.out.blk.1, HX.out.1, HY9.out 0 (by decide), HY9.out 1 (by decide), HY9.out 2 (by decide), HY9.out 3 (by decide), HY9.out 4 (by decide), HY9.out 5 (by decide), HY9.out 6 (by decide), HY9.out 7 (by decide), HY9.out 8 (by decide)⟩ (fun hHeld => ?_); clear hK K; (try simp only [Act.put, List.setIfInBounds_toArray, List.set]))
        clear HY9
        by_cases hcc : cc < 0
        · have dc : decide ((0 : Int) ≤ cc) = false := decide_eq_false (by omega)
          (refine hyes 21 ?_); (refine hyes 22 ?_); (refine hyes 23 ?_); (try simp only [Act.put, List.setIfInBounds_toArray, List.set])
          refine wpAnyH_done (by kernel_rfl) ?_ _
          clear hHeld
          obtain ⟨wA, rfl⟩ : ∃ V, V = w8 := ⟨_, rfl⟩
          have hRs := Lib.hid (show R = some { d with more := d.more ++ [(⟨xk, ⟨x1, x2⟩, xw, ⟨x3, x4⟩, ⟨x5, x6⟩, xv⟩ : St)] } from HRY.out ⟨rfl, HP.out, BE.out.trans (decide_eq_true hcc)⟩)
          clear HRY HRN
          have hC := HM.out.hC
          have hbC := HM.out.hb
          have hzx := HX.out.2.2
          obtain ⟨cm, fm, zm⟩ := HM.out.blk
          obtain ⟨cx, fx, zx⟩ := HX.out
          go_upto_region 10 with fail
          clear cm fm zm cx fx zx
          refine wp_region_last (S := fun W => (∀ o, W.cell? ⟨b, o, none⟩ = (#[.slice (some ⟨gl, ol, none⟩) d.more.length c0, .slice a1 d.gone.length c1, .slice a2 d.grow.length c2, .slice a3 d.ungrow.length c3, .slice a4 d.shrink.length c4, .slice a5 d.unshrink.length c5] : Array Value)[o]?) ∧ (∀ o, W.cell? ⟨gx, o, none⟩ = (#[.int .i64 xk, .string x1, .string x2, .string xw, .string x3, .string x4, .string x5, .string x6, .string xv] : Array Value)[o]?)) 8 (by kernel_rfl) ⟨(HM.out.blk.below (below_drew (Below.refl _ _))).1, (HX.out.below (below_drew (Below.refl _ _))).1⟩ (fun hHeld => ?_)
          have hd := below_drew (Below.refl wA.heap.size wA)
          have HM := Lib.hid (HM.out.kp hd)
          have HB := Lib.hid (HB.out.trans (hd.mono HB.out.size))
          have HX := Lib.hid (HX.out.below hd)
          obtain ⟨W4, hW4⟩ : ∃ V, V = wA.drew := ⟨_, rfl⟩
          rw [← hW4] at HM HB HX hHeld ⊢
          clear hd hW4
          (refine lyes 0 ?_); (refine lyes 1 ?_); (refine lyes 2 ?_); (refine lyes 3 ?_); (refine lyes 4 ?_); (try simp only [Act.put, List.setIfInBounds_toArray, List.set])
          (refine last_call 5 rfl (by kernel_rfl) (fun K hK => ?_); go_simp)
          obtain ⟨W5, hW5⟩ : ∃ V, V = W4.alloc (.cells #[.int .i64 xk, .string x1, .string x2, .string xw, .string x3, .string x4, .string x5, .string x6, .string xv] 80) := ⟨_, rfl⟩
          obtain ⟨bn, hbn⟩ : ∃ b, b = W4.heap.size := ⟨_, rfl⟩
          rw [← hW5, ← hbn]
          have hbq : Below W4.heap.size W4 W5 := by rw [hW5]; exact (Below.refl _ _).alloc (Nat.le_refl _) _
          have HN1 := Lib.hid (show Sl W5 9 (.slice (some ⟨bn, 0, none⟩) 1 1) 1 ([.int .i64 xk, .string x1, .string x2, .string xw, .string x3, .string x4, .string x5, .string x6, .string xv]) by rw [hW5]; exact Sl.new W4 [.int .i64 xk, .string x1, .string x2, .string xw, .string x3, .string x4, .string x5, .string x6, .string xv] 80 9 1 bn hbn rfl (by simp [maxLen]))
          have HM5 := Lib.hid (HM.out.kp hbq)
          have HB5 := Lib.hid (HB.out.trans (hbq.mono HB.out.size))
          have HX5 := Lib.hid (HX.out.below hbq)
          clear hbq hW5 hbn HM HB HX
          (refine hK.out _ _ ⟨HM5.out.blk.1, HX5.out.1⟩ (fun hHeld => ?_); clear hK K; (try simp only [Act.put, List.setIfInBounds_toArray, List.set]))
          obtain ⟨inf, hin, hs0, hs1, hs2⟩ := info_parts st_info
          have HIN := Lib.hid hin
          clear hin
          refine last_call 6 rfl (by kernel_rfl) (fun K hK => ?_)
          refine step_rowE rfl _ _ 22 rfl C 80 inf _ 9 136 Tryz.underlying22 HIN.out hs0 hs1 hs2 (by decide) rfl (by decide) _ d.more.length _ rfl HM5.out.r0 _ 1 _ rfl HN1.out.a (st_one ⟨xk, ⟨x1, x2⟩, xw, ⟨x3, x4⟩, ⟨x5, x6⟩, xv⟩) (by omega) HM5.out.hC ?_
          intro a9 c9 wc hown9 hg9 hlie
          have hneb : some b ≠ (Value.slice (some ⟨gl, ol, none⟩) d.more.length c0).ownBlock := fun e => by have := (own_type HM5.out.r0 e.symm).1; omega
          have HKG := Lib.hid (Kp.of_grown (X := fun k => some k = (Value.slice (some ⟨gl, ol, none⟩) d.more.length c0).ownBlock) hg9 (fun _ h => h))
          have HBG := Lib.hid (HKG.out.blk HM5.out.blk hneb)
          have hneq : some gx ≠ (Value.slice (some ⟨gl, ol, none⟩) d.more.length c0).ownBlock := fun e => by
            obtain ⟨_, cs, h2⟩ := own_type HMo.out.r0 e.symm
            have := (Array.getElem?_eq_some_iff.1 h2).1
            have := hgx.out
            omega
          have HQG := Lib.hid (HKG.out.blk HX5.out hneq)
          have HLIE := Lib.hid hlie
          have e1 : (d.more ++ [(⟨xk, ⟨x1, x2⟩, xw, ⟨x3, x4⟩, ⟨x5, x6⟩, xv⟩ : St)]).length = d.more.length + 1 := by simp
          have HO9 := Lib.hid (show wc.ownsRow C 80 9 (.slice a9 (d.more.length + 1) c9) (d.more ++ [(⟨xk, ⟨x1, x2⟩, xw, ⟨x3, x4⟩, ⟨x5, x6⟩, xv⟩ : St)]).length ((d.more ++ [(⟨xk, ⟨x1, x2⟩, xw, ⟨x3, x4⟩, ⟨x5, x6⟩, xv⟩ : St)]).flatMap St.cells) by
            rw [e1, List.flatMap_append, List.flatMap_singleton]; exact hown9)
          clear hg9 hown9 hlie HN1 HIN hs0 hs1 hs2 hneb hneq e1
          (refine hK.out _ _ ⟨HBG.out.1, HQG.out.1⟩ (fun hHeld => ?_); clear hK K; (try simp only [Act.put, List.setIfInBounds_toArray, List.set]))
          (refine lyes 7 ?_); (try simp only [Act.put, List.setIfInBounds_toArray, List.set])
          obtain ⟨cg, fg, zg⟩ := HBG.out
          (refine last_end 8 rfl (by kernel_rfl) (by kernel_rfl) (fun K hK => ?_); go_simp)
          clear cg fg zg
          have HMP := Lib.hid (HM5.out.put0 HKG.out HO9.out HLIE.out)
          have HKP := Lib.hid (((Kp.of_below (X := fun k => k = b ∨ C ≤ k) HB5.out).trans HKG.out (fun g hg e => .inr (own_type HMo.out.r0 e.symm).1)).trans (Kp.set (X := fun k => k = b) (o := 0) (v := .slice a9 (d.more.length + 1) c9) rfl) (fun g _ e => .inl e))
          obtain ⟨wd, hwd⟩ : ∃ V, V = wc.setCell ⟨b, 0, none⟩ (.slice a9 (d.more.length + 1) c9) := ⟨_, rfl⟩
          rw [← hwd] at HMP HKP ⊢
          clear hwd HBG HQG HKG HO9 HM5 HB5 HX5 HLIE
          refine hK.out _ _ ?_
          clear hK K
          go_wp2
          refine bodyPost_ret (v := .tuple #[.int .i64 1, .bool true]) (by simp [results, Tryz.results52, go_sem]) rfl ?_
          exact ⟨by rw [hRs.out]; rfl, HKP.out, fun d' hd => by rw [hRs.out] at hd; cases hd; exact ⟨_, _, _, _, _, _, HMP.out⟩⟩
        · have dc : decide ((0 : Int) ≤ cc) = true := decide_eq_true (by omega)
          (refine hyes 21 ?_); (refine hyes 22 ?_); (refine hyes 23 ?_); (try simp only [Act.put, List.setIfInBounds_toArray, List.set])
          refine wpAnyH_done (by kernel_rfl) ?_ _
          clear hHeld
          obtain ⟨wA, rfl⟩ : ∃ V, V = w8 := ⟨_, rfl⟩
          have hRn := Lib.hid (show R = none from HRN.out (fun h => by rw [BE.out] at h; exact hcc (of_decide_eq_true h.2.2)))
          go_wp2
          refine bodyPost_ret (v := .tuple #[.int .i64 1, .bool false]) (by simp [results, Tryz.results52, go_sem]) rfl ?_
          exact ⟨by rw [hRn.out]; rfl, Kp.of_below HB.out, fun d' hd => by rw [hRn.out] at hd; cases hd⟩
      · have dn : decide ((0 : Int) < (d.more.length : Int)) = false := decide_eq_false (by omega)
        have dn2 : decide (0 < d.more.length) = false := decide_eq_false hn0
        have BE := Lib.hid (beh_zeroS (x := ⟨xk, ⟨x1, x2⟩, xw, ⟨x3, x4⟩, ⟨x5, x6⟩, xv⟩) hn0)
        clear hn0
        refine wp_region_held_drew (S := (fun W => (∀ o, W.cell? ⟨b, o, none⟩ = (#[.slice a0 d.more.length c0, .slice a1 d.gone.length c1, .slice a2 d.grow.length c2, .slice a3 d.ungrow.length c3, .slice a4 d.shrink.length c4, .slice a5 d.unshrink.length c5] : Array Value)[o]?) ∧ (∀ o, W.cell? ⟨gx, o, none⟩ = (#[.int .i64 xk, .string x1, .string x2, .string xw, .string x3, .string x4, .string x5, .string x6, .string xv] : Array Value)[o]?))) (by kernel_rfl) ⟨(HM.out.blk.below (below_drew (Below.refl _ _))).1, (HX.out.below (below_drew (Below.refl _ _))).1⟩ (fun hHeld => ?_)
        have hd := below_drew (Below.refl w5.heap.size w5)
        have HB := Lib.hid (HB.out.trans (hd.mono HB.out.size))
        have HM := Lib.hid (HM.out.kp hd)
        have HX := Lib.hid (HX.out.below hd)
        obtain ⟨w6, hw6⟩ : ∃ V, V = w5.drew := ⟨_, rfl⟩
        rw [← hw6] at HB HM HX hHeld ⊢
        clear hd hw6
        (refine hyes 0 ?_); (refine hyes 1 ?_); (refine hyes 2 ?_); (refine hyes 3 ?_); (refine hyes 5 ?_); (try simp only [Act.put, List.setIfInBounds_toArray, List.set])
        (refine held_call 4 rfl (by kernel_rfl) (fun K hK => ?_); go_simp)
        go_at_call 82; refine (PR.out _).mono ?_; rintro e w7 ⟨rfl, hb7⟩
        have HB := Lib.hid (HB.out.trans (hb7.mono HB.out.size))
        have HM := Lib.hid (HM.out.kp hb7)
        have HX := Lib.hid (HX.out.below hb7)
        clear hb7 PR
        (refine hK.out _ _ ⟨HM.out.blk.1, HX.out.1⟩ (fun hHeld => ?_); clear hK K; (try simp only [Act.put, List.setIfInBounds_toArray, List.set]))
        (refine hyes 6 ?_); (refine hyes 7 ?_); (refine hyes 8 ?_); (refine hyes 9 ?_); (refine hyes 10 ?_); (refine hyes 11 ?_); (try simp only [Act.put, List.setIfInBounds_toArray, List.set])
        (refine hno 12 ?_); (refine hno 13 ?_); (refine hno 14 ?_); (refine hno 15 ?_); (refine hno 16 ?_); (refine hno 17 ?_); (refine hno 18 ?_); (refine hno 19 ?_); (refine hno 20 ?_); (refine hno 21 ?_); (try simp only [Act.put, List.setIfInBounds_toArray, List.set])
        (refine hyes 22 ?_); (refine hyes 23 ?_); (try simp only [Act.put, List.setIfInBounds_toArray, List.set])
        refine wpAnyH_done (by kernel_rfl) ?_ _
        clear hHeld
        obtain ⟨wA, rfl⟩ : ∃ V, V = w7 := ⟨_, rfl⟩
        have hRs := Lib.hid (show R = some { d with more := d.more ++ [(⟨xk, ⟨x1, x2⟩, xw, ⟨x3, x4⟩, ⟨x5, x6⟩, xv⟩ : St)] } from HRY.out ⟨rfl, HP.out, BE.out⟩)
        clear HRY HRN
        have hC := HM.out.hC
        have hbC := HM.out.hb
        have hzx := HX.out.2.2
        obtain ⟨cm, fm, zm⟩ := HM.out.blk
        obtain ⟨cx, fx, zx⟩ := HX.out
        go_upto_region 10 with fail
        clear cm fm zm cx fx zx
        refine wp_region_last (S := fun W => (∀ o, W.cell? ⟨b, o, none⟩ = (#[.slice a0 d.more.length c0, .slice a1 d.gone.length c1, .slice a2 d.grow.length c2, .slice a3 d.ungrow.length c3, .slice a4 d.shrink.length c4, .slice a5 d.unshrink.length c5] : Array Value)[o]?) ∧ (∀ o, W.cell? ⟨gx, o, none⟩ = (#[.int .i64 xk, .string x1, .string x2, .string xw, .string x3, .string x4, .string x5, .string x6, .string xv] : Array Value)[o]?)) 8 (by kernel_rfl) ⟨(HM.out.blk.below (below_drew (Below.refl _ _))).1, (HX.out.below (below_drew (Below.refl _ _))).1⟩ (fun hHeld => ?_)
        have hd := below_drew (Below.refl wA.heap.size wA)
        have HM := Lib.hid (HM.out.kp hd)
        have HB := Lib.hid (HB.out.trans (hd.mono HB.out.size))
        have HX := Lib.hid (HX.out.below hd)
        obtain ⟨W4, hW4⟩ : ∃ V, V = wA.drew := ⟨_, rfl⟩
        rw [← hW4] at HM HB HX hHeld ⊢
        clear hd hW4
        (refine lyes 0 ?_); (refine lyes 1 ?_); (refine lyes 2 ?_); (refine lyes 3 ?_); (refine lyes 4 ?_); (try simp only [Act.put, List.setIfInBounds_toArray, List.set])
        (refine last_call 5 rfl (by kernel_rfl) (fun K hK => ?_); go_simp)
        obtain ⟨W5, hW5⟩ : ∃ V, V = W4.alloc (.cells #[.int .i64 xk, .string x1, .string x2, .string xw, .string x3, .string x4, .string x5, .string x6, .string xv] 80) := ⟨_, rfl⟩
        obtain ⟨bn, hbn⟩ : ∃ b, b = W4.heap.size := ⟨_, rfl⟩
        rw [← hW5, ← hbn]
        have hbq : Below W4.heap.size W4 W5 := by rw [hW5]; exact (Below.refl _ _).alloc (Nat.le_refl _) _
        have HN1 := Lib.hid (show Sl W5 9 (.slice (some ⟨bn, 0, none⟩) 1 1) 1 ([.int .i64 xk, .string x1, .string x2, .string xw, .string x3, .string x4, .string x5, .string x6, .string xv]) by rw [hW5]; exact Sl.new W4 [.int .i64 xk, .string x1, .string x2, .string xw, .string x3, .string x4, .string x5, .string x6, .string xv] 80 9 1 bn hbn rfl (by simp [maxLen]))
        have HM5 := Lib.hid (HM.out.kp hbq)
        have HB5 := Lib.hid (HB.out.trans (hbq.mono HB.out.size))
        have HX5 := Lib.hid (HX.out.below hbq)
        clear hbq hW5 hbn HM HB HX
        (refine hK.out _ _ ⟨HM5.out.blk.1, HX5.out.1⟩ (fun hHeld => ?_); clear hK K; (try simp only [Act.put, List.setIfInBounds_toArray, List.set]))
        obtain ⟨inf, hin, hs0, hs1, hs2⟩ := info_parts st_info
        have HIN := Lib.hid hin
        clear hin
        refine last_call 6 rfl (by kernel_rfl) (fun K hK => ?_)
        refine step_rowE rfl _ _ 22 rfl C 80 inf _ 9 136 Tryz.underlying22 HIN.out hs0 hs1 hs2 (by decide) rfl (by decide) _ d.more.length _ rfl HM5.out.r0 _ 1 _ rfl HN1.out.a (st_one ⟨xk, ⟨x1, x2⟩, xw, ⟨x3, x4⟩, ⟨x5, x6⟩, xv⟩) (by omega) HM5.out.hC ?_
        intro a9 c9 wc hown9 hg9 hlie
        have hneb : some b ≠ (Value.slice a0 d.more.length c0).ownBlock := fun e => by have := (own_type HM5.out.r0 e.symm).1; omega
        have HKG := Lib.hid (Kp.of_grown (X := fun k => some k = (Value.slice a0 d.more.length c0).ownBlock) hg9 (fun _ h => h))
        have HBG := Lib.hid (HKG.out.blk HM5.out.blk hneb)
        have hneq : some gx ≠ (Value.slice a0 d.more.length c0).ownBlock := fun e => by
          obtain ⟨_, cs, h2⟩ := own_type HMo.out.r0 e.symm
          have := (Array.getElem?_eq_some_iff.1 h2).1
          have := hgx.out
          omega
        have HQG := Lib.hid (HKG.out.blk HX5.out hneq)
        have HLIE := Lib.hid hlie
        have e1 : (d.more ++ [(⟨xk, ⟨x1, x2⟩, xw, ⟨x3, x4⟩, ⟨x5, x6⟩, xv⟩ : St)]).length = d.more.length + 1 := by simp
        have HO9 := Lib.hid (show wc.ownsRow C 80 9 (.slice a9 (d.more.length + 1) c9) (d.more ++ [(⟨xk, ⟨x1, x2⟩, xw, ⟨x3, x4⟩, ⟨x5, x6⟩, xv⟩ : St)]).length ((d.more ++ [(⟨xk, ⟨x1, x2⟩, xw, ⟨x3, x4⟩, ⟨x5, x6⟩, xv⟩ : St)]).flatMap St.cells) by
          rw [e1, List.flatMap_append, List.flatMap_singleton]; exact hown9)
        clear hg9 hown9 hlie HN1 HIN hs0 hs1 hs2 hneb hneq e1
        (refine hK.out _ _ ⟨HBG.out.1, HQG.out.1⟩ (fun hHeld => ?_); clear hK K; (try simp only [Act.put, List.setIfInBounds_toArray, List.set]))
        (refine lyes 7 ?_); (try simp only [Act.put, List.setIfInBounds_toArray, List.set])
        obtain ⟨cg, fg, zg⟩ := HBG.out
        (refine last_end 8 rfl (by kernel_rfl) (by kernel_rfl) (fun K hK => ?_); go_simp)
        clear cg fg zg
        have HMP := Lib.hid (HM5.out.put0 HKG.out HO9.out HLIE.out)
        have HKP := Lib.hid (((Kp.of_below (X := fun k => k = b ∨ C ≤ k) HB5.out).trans HKG.out (fun g hg e => .inr (own_type HMo.out.r0 e.symm).1)).trans (Kp.set (X := fun k => k = b) (o := 0) (v := .slice a9 (d.more.length + 1) c9) rfl) (fun g _ e => .inl e))
        obtain ⟨wd, hwd⟩ : ∃ V, V = wc.setCell ⟨b, 0, none⟩ (.slice a9 (d.more.length + 1) c9) := ⟨_, rfl⟩
        rw [← hwd] at HMP HKP ⊢
        clear hwd HBG HQG HKG HO9 HM5 HB5 HX5 HLIE
        refine hK.out _ _ ?_
        clear hK K
        go_wp2
        refine bodyPost_ret (v := .tuple #[.int .i64 1, .bool true]) (by simp [results, Tryz.results52, go_sem]) rfl ?_
        exact ⟨by rw [hRs.out]; rfl, HKP.out, fun d' hd => by rw [hRs.out] at hd; cases hd; exact ⟨_, _, _, _, _, _, HMP.out⟩⟩
    · have dp : ((printS ⟨xk, ⟨x1, x2⟩, xw, ⟨x3, x4⟩, ⟨x5, x6⟩, xv⟩).toList != rest.toList) = true := by
        rw [bne_iff_ne]
        intro e
        exact hp (bl_inj.1 (by rw [← toList_bl, ← toList_bl]; exact e))
      have dq : ((printS ⟨xk, ⟨x1, x2⟩, xw, ⟨x3, x4⟩, ⟨x5, x6⟩, xv⟩).toList == rest.toList) = false := by
        rw [beq_eq_false_iff_ne]
        intro e
        exact hp (bl_inj.1 (by rw [← toList_bl, ← toList_bl]; exact e))
      have HP := Lib.hid hp
      clear hp hxr PRT
      generalize printS ⟨xk, ⟨x1, x2⟩, xw, ⟨x3, x4⟩, ⟨x5, x6⟩, xv⟩ = pt at PR dp dq HP HRY HRN
      refine wp_region_held_drew (S := (fun W => (∀ o, W.cell? ⟨b, o, none⟩ = (#[.slice a0 d.more.length c0, .slice a1 d.gone.length c1, .slice a2 d.grow.length c2, .slice a3 d.ungrow.length c3, .slice a4 d.shrink.length c4, .slice a5 d.unshrink.length c5] : Array Value)[o]?) ∧ (∀ o, W.cell? ⟨gx, o, none⟩ = (#[.int .i64 xk, .string x1, .string x2, .string xw, .string x3, .string x4, .string x5, .string x6, .string xv] : Array Value)[o]?))) (by kernel_rfl) ⟨(HM.out.blk.below (below_drew (Below.refl _ _))).1, (HX.out.below (below_drew (Below.refl _ _))).1⟩ (fun hHeld => ?_)
      have hd := below_drew (Below.refl w5.heap.size w5)
      have HB := Lib.hid (HB.out.trans (hd.mono HB.out.size))
      have HM := Lib.hid (HM.out.kp hd)
      have HX := Lib.hid (HX.out.below hd)
      obtain ⟨w6, hw6⟩ : ∃ V, V = w5.drew := ⟨_, rfl⟩
      rw [← hw6] at HB HM HX hHeld ⊢
      clear hd hw6
      (refine hyes 0 ?_); (refine hyes 1 ?_); (refine hyes 2 ?_); (refine hyes 3 ?_); (refine hyes 5 ?_); (try simp only [Act.put, List.setIfInBounds_toArray, List.set])
      (refine held_call 4 rfl (by kernel_rfl) (fun K hK => ?_); go_simp)
      go_at_call 82; refine (PR.out _).mono ?_; rintro e w7 ⟨rfl, hb7⟩
      have HB := Lib.hid (HB.out.trans (hb7.mono HB.out.size))
      have HM := Lib.hid (HM.out.kp hb7)
      have HX := Lib.hid (HX.out.below hb7)
      clear hb7 PR
      (refine hK.out _ _ ⟨HM.out.blk.1, HX.out.1⟩ (fun hHeld => ?_); clear hK K; (try simp only [Act.put, List.setIfInBounds_toArray, List.set]))
      (refine hyes 6 ?_); (refine hyes 7 ?_); (refine hyes 8 ?_); (try simp only [Act.put, List.setIfInBounds_toArray, List.set])
      (refine hno 9 ?_); (refine hno 10 ?_); (refine hno 11 ?_); (refine hno 12 ?_); (refine hno 13 ?_); (refine hno 14 ?_); (refine hno 15 ?_); (refine hno 16 ?_); (refine hno 17 ?_); (refine hno 18 ?_); (refine hno 19 ?_); (refine hno 20 ?_); (refine hno 21 ?_); (refine hno 22 ?_); (try simp only [Act.put, List.setIfInBounds_toArray, List.set])
      (refine hyes 23 ?_); (try simp only [Act.put, List.setIfInBounds_toArray, List.set])
      refine wpAnyH_done (by kernel_rfl) ?_ _
      clear hHeld
      obtain ⟨wA, rfl⟩ : ∃ V, V = w7 := ⟨_, rfl⟩
      have hRn := Lib.hid (show R = none from HRN.out (fun h => HP.out h.2.1))
      go_wp2
      refine bodyPost_ret (v := .tuple #[.int .i64 1, .bool false]) (by simp [results, Tryz.results52, go_sem]) rfl ?_
      exact ⟨by rw [hRn.out]; rfl, Kp.of_below HB.out, fun d' hd => by rw [hRn.out] at hd; cases hd⟩
  · have dy : (y0 != 0) = true := by simp [hy]
    have HYN := Lib.hid hy
    clear hy PRT
    refine wp_region_held_drew (S := (fun W => (∀ o, W.cell? ⟨b, o, none⟩ = (#[.slice a0 d.more.length c0, .slice a1 d.gone.length c1, .slice a2 d.grow.length c2, .slice a3 d.ungrow.length c3, .slice a4 d.shrink.length c4, .slice a5 d.unshrink.length c5] : Array Value)[o]?) ∧ (∀ o, W.cell? ⟨gx, o, none⟩ = (#[.int .i64 xk, .string x1, .string x2, .string xw, .string x3, .string x4, .string x5, .string x6, .string xv] : Array Value)[o]?))) (by kernel_rfl) ⟨(HM.out.blk.below (below_drew (Below.refl _ _))).1, (HX.out.below (below_drew (Below.refl _ _))).1⟩ (fun hHeld => ?_)
    have hd := below_drew (Below.refl w5.heap.size w5)
    have HB := Lib.hid (HB.out.trans (hd.mono HB.out.size))
    have HM := Lib.hid (HM.out.kp hd)
    have HX := Lib.hid (HX.out.below hd)
    obtain ⟨w6, hw6⟩ : ∃ V, V = w5.drew := ⟨_, rfl⟩
    rw [← hw6] at HB HM HX hHeld ⊢
    clear hd hw6
    (refine hyes 0 ?_); (refine hyes 1 ?_); (refine hyes 2 ?_); (try simp only [Act.put, List.setIfInBounds_toArray, List.set])
    (refine hno 3 ?_); (refine hno 4 ?_); (refine hno 5 ?_); (refine hno 6 ?_); (try simp only [Act.put, List.setIfInBounds_toArray, List.set])
    (refine hyes 7 ?_); (refine hyes 8 ?_); (try simp only [Act.put, List.setIfInBounds_toArray, List.set])
    (refine hno 9 ?_); (refine hno 10 ?_); (refine hno 11 ?_); (refine hno 12 ?_); (refine hno 13 ?_); (refine hno 14 ?_); (refine hno 15 ?_); (refine hno 16 ?_); (refine hno 17 ?_); (refine hno 18 ?_); (refine hno 19 ?_); (refine hno 20 ?_); (refine hno 21 ?_); (refine hno 22 ?_); (try simp only [Act.put, List.setIfInBounds_toArray, List.set])
    (refine hyes 23 ?_); (try simp only [Act.put, List.setIfInBounds_toArray, List.set])
    refine wpAnyH_done (by kernel_rfl) ?_ _
    clear hHeld
    obtain ⟨wA, rfl⟩ : ∃ V, V = w6 := ⟨_, rfl⟩
    have hRn := Lib.hid (show R = none from HRN.out (fun h => HYN.out h.1))
    go_wp2
    refine bodyPost_ret (v := .tuple #[.int .i64 1, .bool false]) (by simp [results, Tryz.results52, go_sem]) rfl ?_
    exact ⟨by rw [hRn.out]; rfl, Kp.of_below HB.out, fun d' hd => by rw [hRn.out] at hd; cases hd⟩
end Go.Proofs.YtomhekohcadijaaGreatDoor
