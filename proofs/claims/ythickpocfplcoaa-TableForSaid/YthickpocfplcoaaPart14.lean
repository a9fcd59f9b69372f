/- slices.IndexFunc and slices.DeleteFunc at rows of roles. crupperref10.Of. The statement StateRows: the walk of the law. The statement StateParts: the walk of the law. How two policies differ, in plain Lean. Package delta: without, with, Back, Empty, Same. Whether two differences are the same (printed by gen_dlsame.py). Whether two rows of texts, two queries, two policies are the same: of the same ones. TableFor: the walk. Roles and statements among a law's arguments: opened to data, and read again in a later world. Rows of statements among a law's arguments: opened. Policies among a law's arguments: opened. -/
import Derived.Test.YthickpocfplcoaaPart13
import Derived.Test.YthickpocfplcoaaPart5
import Derived.Test.YthickpocfplcoaaPart6
import Derived.Test.YthickpocfplcoaaPart10
import Derived.Test.YthickpocfplcoaaPart8
import Derived.Test.YthickpocfplcoaaPart11
import Derived.Test.YthickpocfplcoaaPart12
import Derived.ProofKit
import Derived.OpenShut
import Derived.ChangeMaps5
import Derived.Deep.Strs
import Derived.Test.YthickpocfplcoaaPart3
import Derived.Deep.Slices
namespace Go.Proofs.Ythickpocfplcoaa
open Go.RowKit Go.Shelf

/-- The place of the first of which p is so; -1: there is none. -/
def IdxP (l : List Rl) (p : Rl → Bool) (i : Int) : Prop :=
  (i = -1 ∧ ∀ x ∈ l, p x = false) ∨ ∃ k : Nat, ∃ hk : k < l.length, i = k ∧ p l[k] = true ∧ ∀ j (hj : j < l.length), j < k → p l[j] = false

/-- The first i cells of a row that DeleteFunc works on are those of its first j that stay; the rest is as it was. -/
structure HalfF (w : World) (b o : Nat) (l : List Rl) (np : Rl → Bool) (j i : Nat) : Prop where
  len : ((l.take j).filter np).length = i
  low : ∀ k (hk : k < ((l.take j).filter np).length), Two w b (o + k * 2) ((l.take j).filter np)[k]
  high : ∀ k (hk : k < l.length), j ≤ k → Two w b (o + k * 2) l[k]
  all : ∀ k, k < l.length → ∃ s0, Two w b (o + k * 2) s0
theorem HalfF.move {w w' : World} {b o j i : Nat} {l : List Rl} {np : Rl → Bool} (h : HalfF w b o l np j i) (hw : ∀ i, w'.cell? ⟨b, i, none⟩ = w.cell? ⟨b, i, none⟩) : HalfF w' b o l np j i :=
  ⟨h.len, fun k hk => (h.low k hk).drop1 (fun _ _ _ => hw _), fun k hk hj => (h.high k hk hj).drop1 (fun _ _ _ => hw _), fun k hk => (h.all k hk).elim fun s0 h0 => ⟨s0, h0.drop1 (fun _ _ _ => hw _)⟩⟩
theorem HalfF.skip {w : World} {b o j i : Nat} {l : List Rl} {np : Rl → Bool} (h : HalfF w b o l np j i) (hj : j < l.length) (e : np l[j] = false) : HalfF w b o l np (j + 1) i := by
  have hd := filter_noR hj e
  exact ⟨by rw [hd]; exact h.len, fun k hk => by simp only [hd]; exact h.low k (by rw [← hd]; exact hk), fun k hk hjk => h.high k hk (by omega), h.all⟩
theorem HalfF.put {w : World} {b o j i : Nat} {l : List Rl} {np : Rl → Bool} (h : HalfF w b o l np j i) (hj : j < l.length) (hij : i ≤ j) (e : np l[j] = true) : HalfF (W2 w b (o + i * 2) l[j]) b o l np (j + 1) (i + 1) := by
  have hd := filter_yesR hj e
  refine ⟨by rw [hd, List.length_append, h.len]; rfl, fun k hk => ?_, fun k hk hjk => ?_, fun k hk => ?_⟩
  · rw [hd, List.length_append, h.len] at hk
    simp only [List.length_cons, List.length_nil] at hk
    by_cases hik : k < i
    · have e1 : ((l.take (j + 1)).filter np)[k]'(by rw [hd, List.length_append, h.len]; simp; omega) = ((l.take j).filter np)[k]'(by rw [h.len]; exact hik) := by
        simp only [hd]; rw [List.getElem_append_left]
      rw [e1]
      exact (h.low k (by rw [h.len]; exact hik)).drop1 (fun _ _ _ => w2_far _ _ _ _ _ (by omega))
    · obtain rfl : k = i := by omega
      have e1 : ((l.take (j + 1)).filter np)[k]'(by rw [hd, List.length_append, h.len]; simp) = l[j] := by
        simp only [hd]; rw [List.getElem_append_right (by rw [h.len]; exact Nat.le_refl _)]; simp [h.len]
      rw [e1]
      obtain ⟨s0, h0⟩ := h.all k (by omega)
      exact w2_new _ _ h0
  · exact (h.high k hk (by omega)).drop1 (fun _ _ _ => w2_far _ _ _ _ _ (by omega))
  · obtain ⟨s0, h0⟩ := h.all k hk
    by_cases hik : k = i
    · subst hik; exact ⟨_, w2_new _ _ h0⟩
    · exact ⟨s0, h0.drop1 (fun _ _ _ => w2_far _ _ _ _ _ (by omega))⟩
theorem HalfF.start {w : World} {b o k : Nat} {l : List Rl} {np : Rl → Bool} (hx : ∀ j u, (l.flatMap Rl.cells)[j]? = some u → w.cell? ⟨b, o + j, none⟩ = some u) (hk : k < l.length) (h0 : np l[k] = false) (h1 : ∀ j (hj : j < l.length), j < k → np l[j] = true) : HalfF w b o l np (k + 1) k := by
  have hd : (l.take (k + 1)).filter np = l.take k := by
    rw [filter_noR hk h0, List.filter_eq_self]
    intro x hx
    obtain ⟨j, hj, rfl⟩ := List.getElem_of_mem hx
    rw [List.getElem_take]
    rw [List.length_take] at hj
    exact h1 j (by omega) (by omega)
  refine ⟨by rw [hd, List.length_take]; omega, fun i hi => ?_, fun i hi _ => rl_cell (w := w) hx i hi, fun i hi => ⟨_, rl_cell (w := w) hx i hi⟩⟩
  have hi' : i < l.length := by rw [hd, List.length_take] at hi; omega
  have e : ((l.take (k + 1)).filter np)[i] = l[i] := by simp only [hd, List.getElem_take]
  rw [e]
  exact rl_cell (w := w) hx i hi'
theorem HalfF.done {w : World} {b o j i : Nat} {l : List Rl} {np : Rl → Bool} (h : HalfF w b o l np j i) (hj : j = l.length) : (l.filter np).length = i ∧ ∀ k (hk : k < (l.filter np).length), Two w b (o + k * 2) (l.filter np)[k] := by
  subst hj
  obtain ⟨h1, h2, _, _⟩ := h
  simp only [List.take_of_length_le (Nat.le_refl _)] at h1 h2
  exact ⟨h1, h2⟩
theorem HalfF.some {w : World} {b o j i : Nat} {l : List Rl} {np : Rl → Bool} (h : HalfF w b o l np j i) (hi : i ≤ l.length) : ∀ k, k < (l.length - i) * 2 → (w.cell? ⟨b, o + i * 2 + k, none⟩).isSome = true := by
  intro k hk
  obtain ⟨s0, h0⟩ := h.all (i + k / 2) (by omega)
  have := two_someR h0 (k % 2) (Nat.mod_lt _ (by decide))
  rwa [show o + (i + k / 2) * 2 + k % 2 = o + i * 2 + k by omega] at this
end Go.Proofs.Ythickpocfplcoaa
namespace Go.Proofs.Ythickpocfplcoaa
open Go.RowKit Go.Shelf

end Go.Proofs.Ythickpocfplcoaa
namespace Go.Proofs.Ythickpocfplcoaa
open Go.RowKit Go.Shelf

def rightK (l : List St) (k : Nat) : Bool := decide (l = ord l) && (l.take k).all rightS
theorem rightK_step (l : List St) (k : Nat) (h : k < l.length) : rightK l (k + 1) = (rightK l k && rightS l[k]) := by
  unfold rightK
  rw [List.take_succ_eq_append_getElem h, List.all_append, Bool.and_assoc]
  simp
theorem rightK_zero (l : List St) : rightK l 0 = decide (l = ord l) := by simp [rightK]
theorem rightK_end (l : List St) : rightK l l.length = isS l := by
  unfold rightK
  rw [List.take_length, Bool.eq_iff_iff, isS_iff, Bool.and_eq_true, decide_eq_true_iff, List.all_eq_true]
  constructor
  · rintro ⟨h1, h2⟩
    exact ⟨h2, by rw [h1]; exact ord_asc l⟩
  · rintro ⟨h1, h2⟩
    exact ⟨(asc_ord h2).symm, h1⟩
end Go.Proofs.Ythickpocfplcoaa
namespace Go.Proofs.Ythickpocfplcoaa
open Go.RowKit Go.Shelf

def minusS (l m : List St) : List St := ord (l.filter fun x => !hasS m x)
def unionS (l m : List St) : List St := ord (l ++ m)
theorem minus_mem (l m : List St) (x : St) : x ∈ minusS l m ↔ x ∈ l ∧ ¬ x ∈ m := by
  unfold minusS
  rw [ord_mem, List.mem_filter, Bool.not_eq_true', ← Bool.not_eq_true, hasS_mem]
theorem union_mem (l m : List St) (x : St) : x ∈ unionS l m ↔ x ∈ l ∨ x ∈ m := by
  unfold unionS; rw [ord_mem, List.mem_append]
theorem minus_asc (l m : List St) : Asc (minusS l m) := ord_asc _
theorem union_asc (l m : List St) : Asc (unionS l m) := ord_asc _
theorem minus_len (l m : List St) : (minusS l m).length ≤ l.length := Nat.le_trans (ord_len _) (List.length_filter_le _ _)
theorem union_len (l m : List St) : (unionS l m).length ≤ l.length + m.length := by have := ord_len (l ++ m); rwa [List.length_append] at this
theorem parts1 (l m : List St) : unionS (minusS l (minusS l m)) (minusS l m) = unionS l [] := by
  refine asc_unique _ _ (union_asc _ _) (union_asc _ _) fun x => ?_
  simp only [union_mem, minus_mem, List.not_mem_nil, or_false]
  by_cases h1 : x ∈ l <;> by_cases h2 : x ∈ m <;> simp [h1, h2]
theorem parts2 (l m : List St) : minusS m (minusS m l) = minusS l (minusS l m) := by
  refine asc_unique _ _ (minus_asc _ _) (minus_asc _ _) fun x => ?_
  simp only [minus_mem]
  by_cases h1 : x ∈ l <;> by_cases h2 : x ∈ m <;> simp [h1, h2]
theorem parts3 (l m : List St) : unionS (minusS l (minusS l m)) (minusS m l) = unionS m [] := by
  refine asc_unique _ _ (union_asc _ _) (union_asc _ _) fun x => ?_
  simp only [union_mem, minus_mem, List.not_mem_nil, or_false]
  by_cases h1 : x ∈ l <;> by_cases h2 : x ∈ m <;> simp [h1, h2]
theorem parts4 (l : List St) : minusS l l = [] := by
  refine asc_unique _ _ (minus_asc _ _) List.Pairwise.nil fun x => ?_
  simp only [minus_mem, List.not_mem_nil]
  simp
theorem parts5 {l m : List St} {x : St} (h : x ∈ minusS l (minusS l m)) : hasS l x = true ∧ hasS m x = true := by
  rw [hasS_mem, hasS_mem]
  simp only [minus_mem] at h
  by_cases h2 : x ∈ m
  · exact ⟨h.1, h2⟩
  · exact absurd ⟨h.1, h2⟩ h.2

end Go.Proofs.Ythickpocfplcoaa
namespace Go.Proofs.Ythickpocfplcoaa
open Go.RowKit Go.Shelf

/-- How two policies differ. -/
structure Dl where
  more : List St
  gone : List St
  grow : List Rl
  ungrow : List Rl
  shrink : List Rl
  unshrink : List Rl
/-- Roles that aren't among others, in order; roles and others, in order. -/
def outR (a b : List Rl) : List Rl := (ordR a).filter fun x => !hasR b x
def withR (a b : List Rl) : List Rl := ordR (a ++ b)
def Dl.of (l1 : List St) (g1 h1 : List Rl) (l2 : List St) (g2 h2 : List Rl) : Dl := ⟨minusS l2 l1, minusS l1 l2, outR g2 g1, outR g1 g2, outR h2 h1, outR h1 h2⟩
def Dl.back (d : Dl) : Dl := ⟨d.gone, d.more, d.ungrow, d.grow, d.unshrink, d.shrink⟩
def Dl.sames (d : Dl) (l : List St) : List St := unionS (minusS l d.gone) d.more
def Dl.grows (d : Dl) (g : List Rl) : List Rl := withR (outR g d.ungrow) d.grow
def Dl.shrinks (d : Dl) (h : List Rl) : List Rl := withR (outR h d.unshrink) d.shrink
theorem out_memR (a b : List Rl) (x : Rl) : x ∈ outR a b ↔ x ∈ a ∧ ¬ x ∈ b := by
  unfold outR
  rw [List.mem_filter, ord_memR, Bool.not_eq_true', ← Bool.not_eq_true, hasR_mem]
theorem out_ascR (a b : List Rl) : AscR (outR a b) := (ord_ascR a).filter _
theorem with_memR (a b : List Rl) (x : Rl) : x ∈ withR a b ↔ x ∈ a ∨ x ∈ b := by
  unfold withR
  rw [ord_memR, List.mem_append]
theorem with_ascR (a b : List Rl) : AscR (withR a b) := ord_ascR _
theorem out_lenR (a b : List Rl) : (outR a b).length ≤ a.length := Nat.le_trans (List.length_filter_le _ _) (ord_lenR a)
theorem with_lenR (a b : List Rl) : (withR a b).length ≤ a.length + b.length := by have := ord_lenR (a ++ b); rwa [List.length_append] at this
/-- Each policy is what the other one is, with how they differ. -/
theorem out_with {a b : List Rl} : withR (outR a (outR a b)) (outR b a) = ordR b := by
  refine asc_uniqueR _ _ (with_ascR _ _) (ord_ascR _) fun x => ?_
  rw [with_memR, out_memR, out_memR, out_memR, ord_memR]
  by_cases h1 : x ∈ a <;> by_cases h2 : x ∈ b <;> simp [h1, h2]
theorem out_self (a : List Rl) : outR a a = [] := by
  refine List.eq_nil_iff_forall_not_mem.2 fun x hx => ?_
  have := (out_memR a a x).1 hx
  exact this.2 this.1
theorem minus_union (a b : List St) : unionS (minusS a (minusS a b)) (minusS b a) = ord b := by
  refine asc_unique _ _ (union_asc _ _) (ord_asc _) fun x => ?_
  rw [union_mem, minus_mem, minus_mem, minus_mem, ord_mem]
  by_cases h1 : x ∈ a <;> by_cases h2 : x ∈ b <;> simp [h1, h2]
theorem Dl.of_self (l : List St) (g h : List Rl) : Dl.of l g h l g h = ⟨[], [], [], [], [], []⟩ := by
  unfold Dl.of; rw [parts4, out_self, out_self]
theorem Dl.apply_of (l1 : List St) (g1 h1 : List Rl) (l2 : List St) (g2 h2 : List Rl) :
    (Dl.of l1 g1 h1 l2 g2 h2).sames l1 = ord l2 ∧ (Dl.of l1 g1 h1 l2 g2 h2).grows g1 = ordR g2 ∧ (Dl.of l1 g1 h1 l2 g2 h2).shrinks h1 = ordR h2 := ⟨minus_union _ _, out_with, out_with⟩
theorem Dl.of_back (l1 : List St) (g1 h1 : List Rl) (l2 : List St) (g2 h2 : List Rl) : (Dl.of l1 g1 h1 l2 g2 h2).back = Dl.of l2 g2 h2 l1 g1 h1 := rfl
/-- The marks of lines; a difference's lines. -/
def mk0 : ByteArray := ⟨#[45, 32]⟩
def mk1 : ByteArray := ⟨#[43, 32]⟩
def mk2 : ByteArray := ⟨#[45, 32, 103, 114, 111, 119, 32]⟩
def mk3 : ByteArray := ⟨#[43, 32, 103, 114, 111, 119, 32]⟩
def mk4 : ByteArray := ⟨#[45, 32, 115, 104, 114, 105, 110, 107, 32]⟩
def mk5 : ByteArray := ⟨#[43, 32, 115, 104, 114, 105, 110, 107, 32]⟩
def lnS (m : ByteArray) (l : List St) : List ByteArray := l.map fun s => m ++ printS s
def lnR (m : ByteArray) (l : List Rl) : List ByteArray := l.map fun r => m ++ roleT r
def Dl.lines (d : Dl) : List ByteArray := lnS mk0 d.gone ++ lnS mk1 d.more ++ lnR mk2 d.ungrow ++ lnR mk3 d.grow ++ lnR mk4 d.unshrink ++ lnR mk5 d.shrink
/-- The six slices of a difference in a world. -/
structure DlAt (w : World) (v0 v1 v2 v3 v4 v5 : Value) (d : Dl) : Prop where
  a0 : SlA w 9 v0 d.more.length (d.more.flatMap St.cells)
  a1 : SlA w 9 v1 d.gone.length (d.gone.flatMap St.cells)
  a2 : SlA w 2 v2 d.grow.length (d.grow.flatMap Rl.cells)
  a3 : SlA w 2 v3 d.ungrow.length (d.ungrow.flatMap Rl.cells)
  a4 : SlA w 2 v4 d.shrink.length (d.shrink.flatMap Rl.cells)
  a5 : SlA w 2 v5 d.unshrink.length (d.unshrink.flatMap Rl.cells)
theorem DlAt.below {w w' : World} {v0 v1 v2 v3 v4 v5 : Value} {d : Dl} (h : DlAt w v0 v1 v2 v3 v4 v5 d) (hb : Below w.heap.size w w') : DlAt w' v0 v1 v2 v3 v4 v5 d :=
  ⟨h.a0.below hb, h.a1.below hb, h.a2.below hb, h.a3.below hb, h.a4.below hb, h.a5.below hb⟩
theorem DlAt.back {w : World} {v0 v1 v2 v3 v4 v5 : Value} {d : Dl} (h : DlAt w v0 v1 v2 v3 v4 v5 d) : DlAt w v1 v0 v3 v2 v5 v4 d.back := ⟨h.a1, h.a0, h.a3, h.a2, h.a5, h.a4⟩
/-- A difference's value. -/
abbrev dv (v0 v1 v2 v3 v4 v5 : Value) : Value := .agg #[v0, v1, v2, v3, v4, v5]
/-- A value is a difference in a world. -/
def DlV (w : World) (v : Value) (d : Dl) : Prop := ∃ v0 v1 v2 v3 v4 v5, v = dv v0 v1 v2 v3 v4 v5 ∧ DlAt w v0 v1 v2 v3 v4 v5 d
theorem DlV.below {w w' : World} {v : Value} {d : Dl} (h : DlV w v d) (hb : Below w.heap.size w w') : DlV w' v d := by
  obtain ⟨v0, v1, v2, v3, v4, v5, rfl, h⟩ := h
  exact ⟨v0, v1, v2, v3, v4, v5, rfl, h.below hb⟩
/-- Each row of a difference is short, and so are its texts. -/
structure Dl.le (d : Dl) (n m : Nat) : Prop where
  n0 : d.more.length ≤ n
  n1 : d.gone.length ≤ n
  n2 : d.grow.length ≤ n
  n3 : d.ungrow.length ≤ n
  n4 : d.shrink.length ≤ n
  n5 : d.unshrink.length ≤ n
  t0 : allLe d.more m
  t1 : allLe d.gone m
  t2 : ∀ x ∈ d.grow, x.le m
  t3 : ∀ x ∈ d.ungrow, x.le m
  t4 : ∀ x ∈ d.shrink, x.le m
  t5 : ∀ x ∈ d.unshrink, x.le m
end Go.Proofs.Ythickpocfplcoaa
namespace Go.Proofs.Ythickpocfplcoaa
open Go.RowKit Go.Shelf

theorem below_of_grown {w a b : World} {g : Nat} (h : Below w.heap.size w a) (hg : w.heap.size ≤ g) (hr : a.grownBy b (some g)) : Below w.heap.size w b :=
  h.grown hr h.size (by rintro k ⟨⟩; exact hg)
/-- A difference has no rows. -/
def Dl.none (d : Dl) : Bool := decide (d.more.length + d.gone.length + d.grow.length + d.ungrow.length + d.shrink.length + d.unshrink.length = 0)
def Dl.tight (d : Dl) : Bool := decide (d.more.length + d.gone.length + d.ungrow.length + d.unshrink.length = 0)
/-- The same differences. -/
def Dl.eqv (a b : Dl) : Bool := decide (a.more = b.more) && decide (a.gone = b.gone) && (decide (a.grow = b.grow) && decide (a.ungrow = b.ungrow)) && decide (a.shrink = b.shrink) && decide (a.unshrink = b.unshrink)
theorem Dl.eqv_self (a : Dl) : a.eqv a = true := by unfold Dl.eqv; simp
end Go.Proofs.Ythickpocfplcoaa
namespace Go.Proofs.Ythickpocfplcoaa
open Go.RowKit Go.Shelf

theorem TwoAt.new (w : World) (A B : Array Value) (t u : TypeId) : TwoAt w A B ((w.alloc (.cells A t)).alloc (.cells B u)) :=
  ⟨(Blk.new w A t).alloc _, by have := Blk.new (w.alloc (.cells A t)) B u; simpa using this, ((Below.refl _ _).alloc (Nat.le_refl _) _).alloc (by simp) _⟩
end Go.Proofs.Ythickpocfplcoaa
namespace Go.Proofs.Ythickpocfplcoaa
open Go.RowKit Go.Shelf

set_option maxRecDepth 100000 in
set_option maxHeartbeats 1000000 in
theorem ref1_SameT (va vb : Value) (l : List ByteArray) (w : World) (ha : SlA w 1 va l.length (strs l)) (hb : SlA w 1 vb l.length (strs l)) :
    Calls Try.prog 29 #[va, vb] w fun e w' => e = .returned (.bool true) ∧ ∃ n, w' = w.drewN n := by
  have hmax := ha.max
  have hne : ((l.length : Int) != (l.length : Int)) = false := by simp
  by_cases h0 : 0 < l.length
  · obtain ⟨b1, o1, c1, rfl, hc1, hm1, _, hx1⟩ := ha.pos h0
    obtain ⟨b2, o2, c2, rfl, hc2, hm2, _, hx2⟩ := hb.pos h0
    have HX1 := Lib.hid hx1
    have HX2 := Lib.hid hx2
    clear ha hb hx1 hx2
    go_enter Try.func29, Try.ntmps29
    go_wp2
    go_loopw [13] (fun i wr => ∃ k n : Nat, k ≤ l.length ∧ i = .int .i64 k ∧ wr = w.drewN n) (fun i _ => l.length - (intOf i).toNat)
    case atStart => exact ⟨0, 0, by omega, rfl, rfl⟩
    case round =>
      obtain ⟨k, n, hk, rfl, rfl⟩ := hrel
      by_cases hlt : k < l.length
      · have p0 := HX1.out k _ (strs_get hlt)
        have q0 := HX2.out k _ (strs_get hlt)
        go_wp2_with fail
        go_quiet (fail)
        go_wp2
        exact ⟨⟨k + 1, n + nq, by omega, by go_num, rfl⟩, by simp [intOf]; omega⟩
      · go_wp2
        go_ret
        exact ⟨rfl, n, rfl⟩
  · obtain ⟨a1, c1, rfl⟩ := ha.form
    obtain ⟨a2, c2, rfl⟩ := hb.form
    obtain rfl : l = [] := List.eq_nil_of_length_eq_zero (by omega)
    clear ha hb h0 hmax
    go_enter Try.func29, Try.ntmps29
    go_wp2
    go_loopw [13] (fun i wr => i = .int .i64 0 ∧ wr = w) (fun _ _ => 0)
    case atStart => exact ⟨rfl, rfl⟩
    case round =>
      obtain ⟨rfl, rfl⟩ := hrel
      go_wp2
      go_ret
      exact ⟨rfl, 0, rfl⟩
theorem ref1_SameB (va vb : Value) (l : List ByteArray) (w : World) (ha : SlA w 1 va l.length (strs l)) (hb : SlA w 1 vb l.length (strs l)) :
    Calls Try.prog 29 #[va, vb] w fun e w' => e = .returned (.bool true) ∧ Below w.heap.size w w' :=
  (ref1_SameT va vb l w ha hb).mono fun e w' ⟨he, n, hn⟩ => ⟨he, by rw [hn]; exact below_of_drewN n⟩
end Go.Proofs.Ythickpocfplcoaa
namespace Go.Proofs.Ythickpocfplcoaa
open Go.RowKit Go.Shelf

theorem flat_leF {α β : Type} (f : α → List β) (n : Nat) : ∀ (l : List α), (∀ x ∈ l, (f x).length ≤ n) → (l.flatMap f).length ≤ n * l.length
  | [], _ => by simp
  | a :: r, h => by
    have h1 := flat_leF f n r (fun x hx => h x (List.mem_cons_of_mem _ hx))
    have h2 := h a (List.mem_cons_self ..)
    rw [List.flatMap_cons, List.length_append, List.length_cons, Nat.mul_succ]
    omega
theorem allPrins_len {l : List St} {g h : List Rl} {qs : List Qv} {F : Qv → List ByteArray} {w : World} (hl : l.length ≤ 30) (hg : g.length ≤ 30) (hh : h.length ≤ 30) (hq : qs.length ≤ 30) (hF : WhoF w qs F) : (allPrins l g h qs F).length ≤ 2000 := by
  have h1 := flat_leF rolesS 3 l (fun x _ => rolesS_len x)
  have h2 := flat_leF rolesQ 2 qs (fun x _ => by unfold rolesQ; split <;> simp)
  have h3 := flat_leF whoS 1 l (fun x _ => by unfold whoS; split <;> simp)
  have h4 := flat_leF F 40 qs (fun x hx => (hF x hx).2)
  unfold allPrins allRoles
  simp only [List.length_append, List.length_map]
  omega
set_option maxRecDepth 100000 in
set_option maxHeartbeats 16000000 in
theorem law6_TableFor (v0 v1 v2 v3 vm : Value) (l : List St) (g h : List Rl) (qs : List Qv) (more : List ByteArray) (w : World) (hp : PolAt w v0 v1 v2 v3 l g h qs) (hm : SlA w 1 vm more.length (strs more)) (hms : ∀ x ∈ more, x.size ≤ 9223372036854775807) :
    Calls Try.prog 5 #[pv v0 v1 v2 v3, vm] w fun e w' => e = .returned (.bool true) ∧ Below w.heap.size w w' := by
  have HP := Lib.hid hp
  have HM := Lib.hid hm
  have L5 := Lib.hid (fun W (hb : Below w.heap.size w W) => law5_LightR v0 v1 v2 v3 l g h qs W (hp.below hb))
  have L1 := Lib.hid (fun W (hb : Below w.heap.size w W) => law1_Light vm more W (hm.below hb) hms)
  have LV := Lib.hid (fun W => law6_lives W)
  obtain ⟨a0, c0, rfl⟩ := hp.rs.form
  obtain ⟨a1, c1, rfl⟩ := hp.rg.form
  obtain ⟨a2, c2, rfl⟩ := hp.rh.form
  obtain ⟨a3, c3, rfl⟩ := hp.rq.form
  obtain ⟨am, cm, rfl⟩ := hm.form
  obtain ⟨w0, hw0⟩ : ∃ V, V = w.alloc (.cells #[.slice a0 l.length c0, .slice a1 g.length c1, .slice a2 h.length c2, .slice a3 qs.length c3] 55) := ⟨_, rfl⟩
  have HT := Lib.hid (show OneAt w #[.slice a0 l.length c0, .slice a1 g.length c1, .slice a2 h.length c2, .slice a3 qs.length c3] w0 by rw [hw0]; exact ⟨Blk.new w _ _, (Below.refl _ _).alloc (Nat.le_refl _) _⟩)
  clear hp hm hms
  go_enter Try.func5, Try.ntmps5
  go_wp2_with fail
  rw [← hw0]
  clear hw0
  refine (L5.out _ HT.out.low).mono ?_
  rintro e w1 ⟨⟨x1, rfl, hx1⟩, hb⟩
  cases x1 with
  | false =>
    have HT := Lib.hid (HT.out.later hb)
    clear hx1 hb
    go_wp2_with fail
    refine (LV.out _).mono ?_
    rintro e wq2 ⟨rfl, hb⟩
    have HT := Lib.hid (HT.out.later hb)
    clear hb
    go_wp2
    go_ret
    exact ⟨rfl, HT.out.low⟩
  | true =>
  obtain ⟨⟨hl, hg, hh, hq, hls, hq40⟩, _⟩ := hx1 rfl
  obtain ⟨F, hF⟩ := who_ex (fun q hqm => okN_back (HP.out.lq q hqm) HT.out.low (hq40 q hqm))
  have HT := Lib.hid (HT.out.later hb)
  clear hx1 hb hq40 L5
  go_wp2_with fail
  refine (L1.out _ HT.out.low).mono ?_
  rintro e wq2 ⟨⟨x1, rfl, hx1⟩, rfl⟩
  cases x1 with
  | false =>
    clear hx1
    go_wp2_with fail
    refine (LV.out _).mono ?_
    rintro e wq2 ⟨rfl, hb⟩
    have HT := Lib.hid (HT.out.later hb)
    clear hb
    go_wp2
    go_ret
    exact ⟨rfl, HT.out.low⟩
  | true =>
  have hml := hx1 rfl
  clear hx1 L1
  have TF := Lib.hid (fun W (hb : Below w.heap.size w W) => table_For (.slice a0 l.length c0) (.slice a1 g.length c1) (.slice a2 h.length c2) (.slice a3 qs.length c3) (.slice am more.length cm) l g h qs more W (HP.out.below hb) (by omega) (by omega) (by omega) (by omega) F (hF.below hb) (HM.out.below hb) (by omega))
  have RP := Lib.hid (fun W (hb : Below w.heap.size w W) => ref5_PrinsL (.slice a0 l.length c0) (.slice a1 g.length c1) (.slice a2 h.length c2) (.slice a3 qs.length c3) l g h qs W (HP.out.below hb) (by omega) (by omega) (by omega) (by omega) F (hF.below hb))
  have RN := Lib.hid (fun W (hb : Below w.heap.size w W) => ref5_NamesL (.slice a0 l.length c0) (.slice a1 g.length c1) (.slice a2 h.length c2) (.slice a3 qs.length c3) l g h qs W (HP.out.below hb) (by omega) (by omega) (by omega) (by omega))
  have HPL := Lib.hid (Nat.le_trans (new_len (allPrins l g h qs F)) (allPrins_len hl hg hh hq hF))
  have HNI := Lib.hid (new_idem (allNames l g h qs))
  rw [HNI.out] at TF
  clear HNI
  have hLS := Lib.hid hls
  clear hF hls
  obtain ⟨ca, fa, za⟩ := HT.out.a
  go_wp2_with fail
  refine (TF.out _ HT.out.low).mono ?_
  rintro e w2 ⟨t, ba, bb, rfl, ht, hb⟩
  have HTB := Lib.hid ht
  have HT := Lib.hid (HT.out.later hb)
  clear ht hb TF ca fa za
  obtain ⟨ca, fa, za⟩ := HT.out.a
  have HT2 := Lib.hid (HT.out.later ((Below.refl _ _).alloc (Nat.le_refl _) (.cells #[] 9)))
  have hown : (w2.alloc (.cells #[] 9)).ownsRow w2.heap.size 9 1 (.slice (some ⟨w2.heap.size, 0, none⟩) 0 0) 0 [] := World.ownsRow_made w2 #[] 0 (Nat.le_refl _) (Nat.zero_le _) (by simp)
  have HOW := Lib.hid hown
  clear hown
  go_wp2_with fail
  refine (RP.out _ HT2.out.low).mono ?_
  rintro e w3 ⟨vp, rfl, ⟨hvp, hpn⟩, hb⟩
  have HOW := Lib.hid (own_below HOW.out hb)
  have HB0 := Lib.hid (show Below w2.heap.size w2 w3 from ((Below.refl _ _).alloc (Nat.le_refl _) _).trans (hb.mono (by simp)))
  clear hb RP HT2 ca fa za
  have hpl := HPL.out
  clear HPL
  generalize newB (allPrins l g h qs F) = ps at *
  obtain ⟨ap, cp, rfl⟩ := hvp.form
  have HVP := Lib.hid hvp
  clear hvp hpn
  go_wp2_with (at_builtin; refine halt_ ?_)
  unfold Halt_
  refine app_row Try.underlying22 str_info rfl (by decide) (by decide) rfl _ _ rfl w2.heap.size rfl HOW.out rfl HVP.out (strs_one _) (by omega) HB0.out.size ?_
  intro a4 c4 w4 ho4 hg4
  have hb4 := below_own HB0.out HOW.out hg4 HB0.out.size (Nat.le_refl _)
  simp only [Nat.zero_add, List.nil_append] at ho4 ⊢
  have HT4 := Lib.hid (HT.out.later hb4)
  have HB4 := Lib.hid hb4
  have HO4 := Lib.hid ho4
  clear hb4 ho4 hg4 HOW HB0 HVP
  go_wp2_with (at_builtin; refine halt_ ?_)
  unfold Halt_
  refine app_row Try.underlying22 str_info rfl (by decide) (by decide) rfl _ _ rfl w2.heap.size rfl HO4.out rfl (HM.out.below HT4.out.low) (strs_one _) (by omega) HB4.out.size ?_
  intro a5 c5 w5 ho5 hg5
  obtain ⟨ho6, hb6⟩ := push_txts HB4.out HO4.out ho5 hg5
  have NA := Lib.hid (ref1_NewB (.slice a5 (ps.length + more.length) c5) (ps ++ more) w5 (by have := (Sl.of_own ho6).a; rw [List.length_append]; exact this) (by rw [List.length_append]; omega))
  have HT := Lib.hid (HT.out.later hb6)
  have HTB := Lib.hid (HTB.out.below hb6)
  clear hb6 ho5 ho6 hg5 HO4 HB4 HT4
  go_wp2_with fail
  refine NA.out.mono ?_
  rintro e w6 ⟨va, rfl, hra, hb⟩
  have HTB := Lib.hid (HTB.out.below hb)
  have HT := Lib.hid (HT.out.later hb)
  have HRA := Lib.hid hra
  obtain ⟨ao, ac, rfl⟩ := hra.form
  clear hb hra NA
  have na := HTB.out.na
  have nb := HTB.out.nb
  generalize newB (ps ++ more) = a at *
  obtain ⟨ca, fa, za⟩ := HT.out.a
  go_wp2_with fail
  refine (RN.out _ HT.out.low).mono ?_
  rintro e w7 ⟨vb, rfl, ⟨hrb, _⟩, hb⟩
  have HTB := Lib.hid (HTB.out.below hb)
  have HT := Lib.hid (HT.out.later hb)
  have HRA := Lib.hid (HRA.out.below hb)
  have HRB := Lib.hid hrb
  obtain ⟨bo, bc, rfl⟩ := hrb.form
  clear hb hrb RN ca fa za
  generalize newB (allNames l g h qs) = b at *
  obtain ⟨ca, fa, za⟩ := HT.out.a
  obtain ⟨wA, hwA⟩ : ∃ wA, wA = w7 := ⟨_, rfl⟩
  subst hwA
  have HTA := Lib.hid HT.out
  have HTBA := Lib.hid HTB.out
  have RR := Lib.hid (fun va vb W ha hb k (hk : k < l.length) => ref6_Rule va vb a b l[k] W ha hb na nb ((hLS.out _ (List.getElem_mem hk)).mono (by decide)))
  go_wp2_with fail
  clear ca fa za
  go_loopw [8, 37] (fun vo i wr => ∃ (k : Nat) (rs : List Ru), k ≤ l.length ∧ i = .int .i64 k ∧ Hid (rs.length ≤ k) ∧ Hid (Below wA.heap.size wA wr) ∧ Hid (wr.ownsRow wA.heap.size 34 6 vo rs.length (rs.flatMap Ru.cells)) ∧ Hid (rs = (l.take k).flatMap (ruleS a b))) (fun _ i _ => l.length - (intOf i).toNat)
  case atStart => exact ⟨0, [], by omega, rfl, Lib.hid (by simp), Lib.hid (Below.refl _ _), Lib.hid (World.ownsRow_nil _ _ _ _), Lib.hid (by simp)⟩
  case round =>
    obtain ⟨k, rs, hk, rfl, HC, HB, HO, HE⟩ := hrel
    obtain ⟨oo, oc, rfl⟩ := own_form HO.out
    have hrs := HC.out
    by_cases hlt : k < l.length
    · obtain ⟨b1, o1, e1, he1, hc1, hm1', hb1, hx1⟩ := HP.out.rs.pos (by omega)
      simp only [Value.slice.injEq, true_and] at he1
      obtain ⟨rfl, rfl⟩ := he1
      have hlow := HTA.out.low.trans (HB.out.mono HTA.out.low.size)
      obtain ⟨p0, p1, p2, p3, p4, p5, p6, p7, p8⟩ := st_cell (w := wr) (fun j u hu => (hlow.cell (p := ⟨b1, o1 + j, none⟩) hb1).trans (hx1 j u hu)) k hlt
      have hbr : b1 < wr.heap.size := Nat.lt_of_lt_of_le hb1 hlow.size
      have HF := Lib.hid (flat_snocF (ruleS a b) hlt)
      have RRk := Lib.hid (fun va vb W ha hb => RR.out va vb W ha hb k hlt)
      have HSx := Lib.hid (show ruleS a b l[k] = if (ruleN a b l[k]).2 = true then [(ruleN a b l[k]).1] else [] from rfl)
      clear hx1 hlow
      generalize ruleN a b l[k] = rr at RRk HSx
      obtain ⟨⟨k0, k1, k2, k3, k4, k5⟩, ok⟩ := rr
      rw [HSx.out] at HF
      clear HSx
      generalize l[k] = x at *
      obtain ⟨xk, ⟨x1, x2⟩, xw, ⟨x3, x4⟩, ⟨x5, x6⟩, xv⟩ := x
      have HB1 := Lib.hid (HB.out.alloc HB.out.size (.cells #[.int .i64 xk, .string x1, .string x2, .string xw, .string x3, .string x4, .string x5, .string x6, .string xv] 26))
      have HO1 := Lib.hid (HO.out.alloc (.cells #[.int .i64 xk, .string x1, .string x2, .string xw, .string x3, .string x4, .string x5, .string x6, .string xv] 26))
      go_wp2_with fail
      refine (RRk.out _ _ _ (HRA.out.below HB1.out) (HRB.out.below HB1.out)).mono ?_
      rintro e w2' ⟨rfl, hb⟩
      have HO2 := Lib.hid (own_below HO1.out hb)
      have HB2 := Lib.hid (HB1.out.trans (hb.mono HB1.out.size))
      clear hb RRk HO1 HB1 HB HO
      cases ok with
      | true =>
        have hsz := HB2.out.size
        go_wp2_with (at_builtin; refine halt_ ?_)
        unfold Halt_
        refine app_own Try.underlying59 ru_info rfl (by decide) (by decide) rfl _ _ rfl wA.heap.size rfl ((HO2.out.alloc _).alloc _) [.int .i64 k0, .int .i64 k1, .int .i64 k2, .int .i64 k3, .int .i64 k4, .int .i64 k5] rfl (heap_new2 _ _ _) rfl (ru1 _ _ _ _ _ _) ?_ ?_ ?_
        · omega
        · simp; omega
        intro a' cap' w3 hown' hgrow
        obtain ⟨q1, q2⟩ := push_ru ((HB2.out.alloc HB2.out.size _).alloc (by simp; omega) _) (by simp; omega) ((HO2.out.alloc _).alloc _) hown' hgrow
        have HO3 := Lib.hid q1
        have HB3 := Lib.hid q2
        clear hown' hgrow q1 q2 hsz
        go_wp2_with fail
        exact ⟨⟨k + 1, rs ++ [⟨k0, k1, k2, k3, k4, k5⟩], by omega, by go_num, Lib.hid (by rw [List.length_append]; exact Nat.succ_le_succ hrs), HB3, HO3, Lib.hid (by rw [HF.out, HE.out]; rfl)⟩, by simp [intOf]; omega⟩
      | false =>
        have HO3 := Lib.hid (HO2.out.alloc (.cells #[.int .i64 k0, .int .i64 k1, .int .i64 k2, .int .i64 k3, .int .i64 k4, .int .i64 k5] 34))
        have HB3 := Lib.hid (HB2.out.alloc HB2.out.size (.cells #[.int .i64 k0, .int .i64 k1, .int .i64 k2, .int .i64 k3, .int .i64 k4, .int .i64 k5] 34))
        go_wp2_with fail
        exact ⟨⟨k + 1, rs, by omega, by go_num, Lib.hid (by omega), HB3, HO3, Lib.hid (by rw [HF.out, HE.out]; simp)⟩, by simp [intOf]; omega⟩
    · have HRS := Lib.hid (show rs = rulesN a b l by rw [HE.out, List.take_of_length_le (show l.length ≤ k by omega)]; rfl)
      have HT := Lib.hid (HTA.out.later HB.out)
      have HTB := Lib.hid (HTBA.out.below HB.out)
      have HRA := Lib.hid (HRA.out.below HB.out)
      have HRB := Lib.hid (HRB.out.below HB.out)
      have HW := Lib.hid (Sl.of_own HO.out).a
      have PR := Lib.hid (fun W (h : TblAt W t ba bb a b) => table_Prins h)
      have LK := Lib.hid (fun W (h : TblAt W t ba bb a b) => table_Links h)
      have AL := Lib.hid (fun (q : Nat) (c : List ByteArray) W (h : TabAt W q c) hc => tab_All q c W h hc)
      clear HC hrs hk HE HO HTA HTBA HB RR
      go_wp2_with fail
      refine (PR.out _ HTB.out).mono ?_
      rintro e wq ⟨rfl, rfl⟩
      go_wp2_with fail
      refine (AL.out _ _ _ HTB.out.ta (by omega)).mono ?_
      rintro e w8 ⟨v8, rfl, ho, hb⟩
      have SA := Lib.hid (ref1_SameB v8 _ a w8 (Sl.of_own ho).a (HRA.out.below hb))
      have HT := Lib.hid (HT.out.later hb)
      have HTB := Lib.hid (HTB.out.below hb)
      have HRB := Lib.hid (HRB.out.below hb)
      have HW := Lib.hid (HW.out.below hb)
      obtain ⟨o8, c8, rfl⟩ := own_form ho
      clear ho hb
      go_wp2_with fail
      refine SA.out.mono ?_
      rintro e w9 ⟨rfl, hb⟩
      have HT := Lib.hid (HT.out.later hb)
      have HTB := Lib.hid (HTB.out.below hb)
      have HRB := Lib.hid (HRB.out.below hb)
      have HW := Lib.hid (HW.out.below hb)
      clear hb SA
      go_wp2_with fail
      refine (LK.out _ HTB.out).mono ?_
      rintro e wq ⟨rfl, rfl⟩
      go_wp2_with fail
      refine (AL.out _ _ _ HTB.out.tb (by omega)).mono ?_
      rintro e w10 ⟨v10, rfl, ho, hb⟩
      have SA := Lib.hid (ref1_SameB v10 _ b w10 (Sl.of_own ho).a (HRB.out.below hb))
      have HT := Lib.hid (HT.out.later hb)
      have HTB := Lib.hid (HTB.out.below hb)
      have HW := Lib.hid (HW.out.below hb)
      obtain ⟨o10, c10, rfl⟩ := own_form ho
      clear ho hb
      go_wp2_with fail
      refine SA.out.mono ?_
      rintro e w11 ⟨rfl, hb⟩
      have HT := Lib.hid (HT.out.later hb)
      have HTB := Lib.hid (HTB.out.below hb)
      have HW := Lib.hid (HW.out.below hb)
      clear hb SA
      have RU := Lib.hid (table_Rules (.slice a0 l.length c0) l w11 HTB.out (HP.out.rs.below HT.out.low) (fun x hx => (hLS.out x hx).mono (by decide)) (by omega))
      obtain ⟨ca, fa, za⟩ := HT.out.a
      go_wp2_with fail
      refine RU.out.mono ?_
      rintro e w12 ⟨v12, rfl, ho, hb⟩
      have SA := Lib.hid (ref6_SameT v12 _ (rulesN a b l) w12 (Sl.of_own ho).a (by rw [← HRS.out]; exact HW.out.below hb))
      have HT := Lib.hid (HT.out.later hb)
      obtain ⟨o12, c12, rfl⟩ := own_form ho
      clear ho hb ca fa za RU
      go_wp2_with fail
      refine SA.out.mono ?_
      rintro e w13 ⟨rfl, hb⟩
      have HT := Lib.hid (HT.out.later hb)
      clear hb SA
      go_wp2_with fail
      refine (LV.out _).mono ?_
      rintro e w14 ⟨rfl, hb⟩
      have HT := Lib.hid (HT.out.later hb)
      clear hb LV
      go_wp2
      go_ret
      exact ⟨rfl, HT.out.low⟩
end Go.Proofs.Ythickpocfplcoaa
namespace Go.Proofs.Ythickpocfplcoaa
open Go.ChangeShapes Go.WideShapes Go.ChangeAt Go.RowKit

section
variable {H : Type} {enc : TypeId × Value → H} {w : World} {base fuel n : Nat} {sp : Nat → Bool} {held : Bool} {cs : List Value} {x : DataW H × List MemPlace} {v : Value} {d : DataW H} {ps : List MemPlace}
def dStr (H : Type) (s : ByteArray) : DataW H := .lit (.string s.data.toList)
def dRl (H : Type) (r : Rl) : DataW H := .agg [dStr H r.o, dStr H r.n]
def dSt (H : Type) (s : St) : DataW H := .agg [.lit (.int .i64 s.k), dRl H s.h, dStr H s.who, dRl H s.a, dRl H s.b, dStr H s.via]
/-- A statement whose parts are such as a world may hold. -/
def St.fits (s : St) : Prop := s.le maxLen ∧ (Lit.int IntKind.i64 s.k).wf = true

theorem two_of (h : cs.length = 2) : ∃ a b, cs = [a, b] := by
  match cs, h with
  | [a, b], _ => exact ⟨a, b, rfl⟩
theorem trod_role (h : DataW.trod enc Try.prog w base sp held fuel 24 cs = some x) : ∃ r : Rl, cs = r.cells ∧ x = (dRl H r, []) ∧ r.le maxLen := by
  obtain ⟨xs, n, _, rfl, hl, hlen, hf⟩ := DataW.trod_struct Try.underlying24 h
  have hc : Try.prog.cellsOf 24 = 2 := by kernel_rfl
  have hs : Try.prog.cellsOf 9 = 1 := by kernel_rfl
  rw [hc] at hl
  obtain ⟨a, b, rfl⟩ := two_of hl
  have f0 : DataW.trod enc Try.prog w base sp held n 9 [a] = xs[0]? := by simpa [hs] using hf 0 _ rfl
  have f1 : DataW.trod enc Try.prog w base sp held n 9 [b] = xs[1]? := by simpa [hs] using hf 1 _ rfl
  match xs, hlen with
  | [y0, y1], _ =>
    simp only [List.getElem?_cons_zero, List.getElem?_cons_succ] at f0 f1
    obtain ⟨s0, e0, g0, l0⟩ := DataW.trod_string Try.underlying9 f0
    obtain ⟨s1, e1, g1, l1⟩ := DataW.trod_string Try.underlying9 f1
    simp only [List.cons.injEq, and_true] at e0 e1
    subst e0 e1 g0 g1
    exact ⟨⟨s0, s1⟩, rfl, rfl, l0, l1⟩
theorem trod_role_mk (m : Nat) (r : Rl) (h : r.le maxLen) : DataW.trod enc Try.prog w base sp held (m + 2) 24 r.cells = some (dRl H r, []) := by
  have hs : Try.prog.cellsOf 9 = 1 := by kernel_rfl
  have hu : ∀ s : ByteArray, s.size ≤ maxLen → DataW.trod enc Try.prog w base sp held (m + 1) 9 [.string s] = some (dStr H s, []) := fun s hs => by
    simp [DataW.trod, Try.underlying9, hs, dStr]
  refine trod_struct2_mk (n := m + 1) (y0 := (dStr H r.o, [])) (y1 := (dStr H r.n, [])) Try.underlying24 (by kernel_rfl) ?_ ?_
  · rw [hs]; exact hu _ h.1
  · rw [hs]; exact hu _ h.2

theorem nine_of (h : cs.length = 9) : ∃ a b c d e f g i j, cs = [a, b, c, d, e, f, g, i, j] := by
  match cs, h with
  | [a, b, c, d, e, f, g, i, j], _ => exact ⟨a, b, c, d, e, f, g, i, j, rfl⟩
theorem trod_stmt (h : DataW.trod enc Try.prog w base sp held fuel 26 cs = some x) : ∃ s : St, cs = s.cells ∧ x = (dSt H s, []) ∧ s.fits := by
  obtain ⟨xs, n, _, rfl, hl, hlen, hf⟩ := DataW.trod_struct Try.underlying26 h
  have hc : Try.prog.cellsOf 26 = 9 := by kernel_rfl
  have hr : Try.prog.cellsOf 24 = 2 := by kernel_rfl
  have hi : Try.prog.cellsOf 3 = 1 := by kernel_rfl
  have hs : Try.prog.cellsOf 9 = 1 := by kernel_rfl
  rw [hc] at hl
  obtain ⟨c0, c1, c2, c3, c4, c5, c6, c7, c8, rfl⟩ := nine_of hl
  have f0 : DataW.trod enc Try.prog w base sp held n 3 [c0] = xs[0]? := by simpa [hi] using hf 0 _ rfl
  have f1 : DataW.trod enc Try.prog w base sp held n 24 [c1, c2] = xs[1]? := by simpa [hr] using hf 1 _ rfl
  have f2 : DataW.trod enc Try.prog w base sp held n 9 [c3] = xs[2]? := by simpa [hs] using hf 2 _ rfl
  have f3 : DataW.trod enc Try.prog w base sp held n 24 [c4, c5] = xs[3]? := by simpa [hr] using hf 3 _ rfl
  have f4 : DataW.trod enc Try.prog w base sp held n 24 [c6, c7] = xs[4]? := by simpa [hr] using hf 4 _ rfl
  have f5 : DataW.trod enc Try.prog w base sp held n 9 [c8] = xs[5]? := by simpa [hs] using hf 5 _ rfl
  match xs, hlen with
  | [y0, y1, y2, y3, y4, y5], _ =>
    simp only [List.getElem?_cons_zero, List.getElem?_cons_succ] at f0 f1 f2 f3 f4 f5
    obtain ⟨k, e0, g0, l0⟩ := DataW.trod_int Try.underlying3 f0
    obtain ⟨r1, e1, g1, l1⟩ := trod_role f1
    obtain ⟨s2, e2, g2, l2⟩ := DataW.trod_string Try.underlying9 f2
    obtain ⟨r3, e3, g3, l3⟩ := trod_role f3
    obtain ⟨r4, e4, g4, l4⟩ := trod_role f4
    obtain ⟨s5, e5, g5, l5⟩ := DataW.trod_string Try.underlying9 f5
    simp only [Rl.cells, List.cons.injEq, and_true] at e0 e1 e2 e3 e4 e5
    obtain ⟨rfl, rfl⟩ := e1
    obtain ⟨rfl, rfl⟩ := e3
    obtain ⟨rfl, rfl⟩ := e4
    subst e0 e2 e5 g0 g1 g2 g3 g4 g5
    exact ⟨⟨k, r1, s2, r3, r4, s5⟩, rfl, rfl, ⟨l1, l2, l3, l4, l5⟩, l0⟩
set_option maxRecDepth 100000 in
theorem open_stmt {r : Reach} {b0 : Nat} (hval : Value.okWide Try.prog w r b0 26 v) (hd : DataW.Trod enc Try.prog w base sp held 26 v d ps) :
    ∃ s : St, v = sv s ∧ d = dSt H s ∧ ps = [] ∧ s.fits := by
  obtain ⟨cs, rfl, _⟩ := okWide_struct Try.underlying26 hval
  obtain ⟨fuel, hf⟩ := hd
  obtain ⟨s, h, hx, hs⟩ := trod_stmt hf
  refine ⟨s, ?_, congrArg Prod.fst hx, congrArg Prod.snd hx, hs⟩
  obtain ⟨l⟩ := cs
  simp [Value.cells] at h
  rw [h]; rfl
theorem shut_stmt (s : St) (h : s.fits) : DataW.Trod enc Try.prog w base sp held 26 (sv s) (dSt H s) [] := by
  obtain ⟨⟨h1, h2, h3, h4, h5⟩, hk⟩ := h
  have hr : Try.prog.cellsOf 24 = 2 := by kernel_rfl
  have hi : Try.prog.cellsOf 3 = 1 := by kernel_rfl
  have hs : Try.prog.cellsOf 9 = 1 := by kernel_rfl
  have hu : ∀ s : ByteArray, s.size ≤ maxLen → DataW.trod enc Try.prog w base sp held 2 9 [.string s] = some (dStr H s, []) := fun s hs => by
    simp [DataW.trod, Try.underlying9, hs, dStr]
  have hn : DataW.trod enc Try.prog w base sp held 2 3 [.int .i64 s.k] = some (.lit (.int .i64 s.k), []) := trod_int_mk 1 Try.underlying3 hk
  refine ⟨3, ?_⟩
  have := trod_struct_mk (enc := enc) (w := w) (base := base) (spare := sp) (held := held) (n := 2) (cs := s.cells)
    (xs := [(.lit (.int .i64 s.k), []), (dRl H s.h, []), (dStr H s.who, []), (dRl H s.a, []), (dRl H s.b, []), (dStr H s.via, [])]) Try.underlying26 (by kernel_rfl) (by
      simp only [List.mapM_cons, List.mapM_nil, hr, hi, hs]
      have e1 := trod_role_mk (enc := enc) (w := w) (base := base) (sp := sp) (held := held) 0 s.h h1
      have e3 := trod_role_mk (enc := enc) (w := w) (base := base) (sp := sp) (held := held) 0 s.a h3
      have e4 := trod_role_mk (enc := enc) (w := w) (base := base) (sp := sp) (held := held) 0 s.b h4
      simp only [Rl.cells] at e1 e3 e4
      simp [St.cells, hn, hu _ h2, hu _ h5, e1, e3, e4])
  show DataW.trod enc Try.prog w base sp held 3 26 s.cells = some (dSt H s, [])
  simpa [dSt] using this
end
end Go.Proofs.Ythickpocfplcoaa
namespace Go.Proofs.Ythickpocfplcoaa
open Go.ChangeShapes Go.WideShapes Go.ChangeAt Go.RowKit Go.Deep

theorem laid_out : laidOutB Try.prog = true := by kernel_rfl
set_option maxRecDepth 100000 in
theorem open_sts {H : Type} {enc : TypeId × Value → H} {w : World} {base b0 : Nat} {held : Bool} {r : Reach} {v : Value} {d : DataW H} {ps : List MemPlace} (hval : Value.okWide Try.prog w r b0 51 v)
    (hd : DataW.Trod enc Try.prog w base (fun _ => true) held 51 v d ps) : ∃ l : List St, SlA w 9 v l.length (l.flatMap St.cells) ∧ ∀ s ∈ l, s.fits := by
  obtain ⟨a0, len, cap, rfl⟩ := okWide_slice Try.underlying51 hval
  obtain ⟨fuel, hf⟩ := hd
  have hc : Try.prog.cellsOf 26 = 9 := by kernel_rfl
  rcases open_slice Try.underlying51 hf with ⟨hcs, _⟩ | ⟨a, len', cap', m, n, D, Pl, hcs, _, hl, hm, hmm, _, hx⟩
  · simp [Value.cells] at hcs
    obtain ⟨rfl, rfl, rfl⟩ := hcs
    exact ⟨[], (Sl.nil _ _).a, fun s hs => by cases hs⟩
  · simp [Value.cells] at hcs
    obtain ⟨rfl, rfl, rfl⟩ := hcs
    simp only [if_true] at hmm
    subst hmm
    rw [hc] at hx
    have hex : ∀ i, i < m → ∃ s : St, w.cells? base (a.add (i * 9)) 9 = some s.cells ∧ s.fits := by
      intro i hi
      obtain ⟨cs', h1, h2⟩ := hx i hi
      obtain ⟨s, rfl, _, hs⟩ := trod_stmt h2
      exact ⟨s, h1, hs⟩
    obtain ⟨S, hS⟩ := choose_lt hex
    obtain ⟨b, off, spot⟩ := a
    by_cases h0 : 0 < len
    · have c0 := (World.cells?_some (hS 0 (by omega)).1).2.2 0 (by omega)
      have hspot : spot = none := by simpa [Addr.add] using World.cell?_spot (c0.trans rfl)
      subst hspot
      have hlen : ((List.range len).map S).length = len := by simp
      have hcell : ∀ j u, (((List.range len).map S).flatMap St.cells)[j]? = some u → w.cell? ⟨b, off + j, none⟩ = some u := by
        intro j u hu
        have hj : j < len * 9 := by
          have := (List.getElem?_eq_some_iff.1 hu).1
          rwa [flat_len St.cells 9 St.cells_len, hlen] at this
        have hf9 : j % 9 < 9 := Nat.mod_lt _ (by decide)
        have hi : j / 9 < len := by omega
        have e : j = j / 9 * 9 + j % 9 := by omega
        rw [e, flat_get St.cells 9 St.cells_len _ (j / 9) (j % 9) hf9 (S (j / 9)) (by simp [hi])] at hu
        have h1 := (World.cells?_some (hS (j / 9) (by omega)).1).2.2 (j % 9) hf9
        rw [add_add, add_plain, ← e] at h1
        exact h1.trans hu
      refine ⟨(List.range len).map S, .inl ?_, fun s hs => ?_⟩
      · rw [hlen]
        refine ⟨by rw [flat_len St.cells 9 St.cells_len, hlen], by omega, .inr ⟨b, off, m, rfl, hl, hm, ?_, hcell⟩⟩
        have h2 := hcell 0 (.int .i64 (S 0).k) (by
          have := flat_get St.cells 9 St.cells_len ((List.range len).map S) 0 0 (by omega) (S 0) (by simp [h0])
          have e : (0 : Nat) * 9 + 0 = 0 := rfl
          rw [e] at this
          exact this.trans rfl)
        exact World.block_lt_of_cell? _ _ h2
      · obtain ⟨i, hi, rfl⟩ := List.mem_map.1 hs
        exact (hS i (by have := List.mem_range.1 hi; omega)).2
    · have hl0 : len = 0 := by omega
      subst hl0
      exact ⟨[], .inr ⟨⟨_, _, rfl⟩, rfl, rfl⟩, fun s hs => by cases hs⟩
end Go.Proofs.Ythickpocfplcoaa
namespace Go.Proofs.Ythickpocfplcoaa
open Go.ChangeShapes Go.WideShapes Go.ChangeAt Go.RowKit Go.Deep

section
variable {H : Type} {enc : TypeId × Value → H} {w : World} {base : Nat} {held : Bool}
/-- A row whose elements are read as some data. -/
theorem open_rowOf {α : Type} [Inhabited α] (cells : α → List Value) (k : Nat) (hk : 0 < k) (hlen : ∀ x, (cells x).length = k) {t e : TypeId} (ht : Try.prog.underlying t = some (.slice e)) (hc : Try.prog.cellsOf e = k) (p : α → Prop)
    (each : ∀ n cs y, DataW.trod enc Try.prog w base (fun _ => true) held n e cs = some y → ∃ x : α, cs = cells x ∧ p x) {fuel : Nat} {c : Value} {y : DataW H × List MemPlace}
    (hf : DataW.trod enc Try.prog w base (fun _ => true) held fuel t [c] = some y) : ∃ l : List α, SlA w k c l.length (l.flatMap cells) ∧ ∀ x ∈ l, p x := by
  rcases open_slice ht hf with ⟨hcs, _⟩ | ⟨a, len, cap, m, n, D, Pl, hcs, _, hl, hm, hmm, _, hx⟩
  · simp only [List.cons.injEq, and_true] at hcs
    subst hcs
    exact ⟨[], (Sl.nil _ _).a, fun s hs => by cases hs⟩
  · simp only [List.cons.injEq, and_true] at hcs
    subst hcs
    simp only [if_true] at hmm
    subst hmm
    rw [hc] at hx
    have hex : ∀ i, i < m → ∃ s : α, w.cells? base (a.add (i * k)) k = some (cells s) ∧ p s := by
      intro i hi
      obtain ⟨cs', h1, h2⟩ := hx i hi
      obtain ⟨s, rfl, hs⟩ := each _ _ _ h2
      exact ⟨s, h1, hs⟩
    obtain ⟨S, hS⟩ := choose_lt hex
    obtain ⟨b, off, spot⟩ := a
    by_cases h0 : 0 < len
    · have hk0 : 0 < (cells (S 0)).length := by rw [hlen]; exact hk
      have c0 := (World.cells?_some (hS 0 (by omega)).1).2.2 0 hk
      rw [List.getElem?_eq_getElem hk0] at c0
      have hspot : spot = none := by simpa [Addr.add] using World.cell?_spot c0
      subst hspot
      have hlenl : ((List.range len).map S).length = len := by simp
      have hcell : ∀ j u, (((List.range len).map S).flatMap cells)[j]? = some u → w.cell? ⟨b, off + j, none⟩ = some u := by
        intro j u hu
        have hj : j < len * k := by
          have := (List.getElem?_eq_some_iff.1 hu).1
          rwa [flat_len cells k hlen, hlenl] at this
        have hf9 : j % k < k := Nat.mod_lt _ hk
        have hi : j / k < len := Nat.div_lt_of_lt_mul (by rwa [Nat.mul_comm])
        have e : j = j / k * k + j % k := by rw [Nat.mul_comm]; exact (Nat.div_add_mod j k).symm
        rw [e, flat_get cells k hlen _ (j / k) (j % k) hf9 (S (j / k)) (by simp [hi])] at hu
        have h1 := (World.cells?_some (hS (j / k) (by omega)).1).2.2 (j % k) hf9
        rw [add_add, add_plain, ← e] at h1
        exact h1.trans hu
      refine ⟨(List.range len).map S, .inl ?_, fun s hs => ?_⟩
      · rw [hlenl]
        refine ⟨by rw [flat_len cells k hlen, hlenl], by omega, .inr ⟨b, off, m, rfl, hl, hm, ?_, hcell⟩⟩
        rw [add_add, add_plain] at c0
        exact World.block_lt_of_cell? _ _ c0
      · obtain ⟨i, hi, rfl⟩ := List.mem_map.1 hs
        exact (hS i (by have := List.mem_range.1 hi; omega)).2
    · have hl0 : len = 0 := by omega
      subst hl0
      exact ⟨[], .inr ⟨⟨_, _, rfl⟩, rfl, rfl⟩, fun s hs => by cases hs⟩

theorem maxLen_eq : maxLen = 9223372036854775807 := by decide
theorem le_max {s : St} (h : s.fits) : s.le 9223372036854775807 := by have := h.1; rwa [maxLen_eq] at this
theorem rle_max {r : Rl} (h : r.le maxLen) : r.le 9223372036854775807 := by rwa [maxLen_eq] at h
instance : Inhabited Rl := ⟨noR⟩
theorem open_stsC {fuel : Nat} {c : Value} {y : DataW H × List MemPlace} (hf : DataW.trod enc Try.prog w base (fun _ => true) held fuel 51 [c] = some y) :
    ∃ l : List St, SlA w 9 c l.length (l.flatMap St.cells) ∧ allLe l 9223372036854775807 :=
  open_rowOf St.cells 9 (by decide) St.cells_len Try.underlying51 (by kernel_rfl) (fun s => s.le 9223372036854775807)
    (fun _ _ _ h => by obtain ⟨s, e, _, hs⟩ := trod_stmt h; exact ⟨s, e, le_max hs⟩) hf
theorem open_rls {fuel : Nat} {c : Value} {y : DataW H × List MemPlace} (hf : DataW.trod enc Try.prog w base (fun _ => true) held fuel 52 [c] = some y) :
    ∃ l : List Rl, SlA w 2 c l.length (l.flatMap Rl.cells) ∧ ∀ x ∈ l, x.le 9223372036854775807 :=
  open_rowOf Rl.cells 2 (by decide) Rl.cells_len Try.underlying52 (by kernel_rfl) (fun s => s.le 9223372036854775807)
    (fun _ _ _ h => by obtain ⟨s, e, _, hs⟩ := trod_role h; exact ⟨s, e, rle_max hs⟩) hf
theorem strs_flat (l : List ByteArray) : (l.flatMap fun s => [Value.string s]) = strs l := by
  induction l with
  | nil => rfl
  | cons a r ih => rw [List.flatMap_cons, ih]; rfl
theorem open_strsC {fuel : Nat} {c : Value} {y : DataW H × List MemPlace} (hf : DataW.trod enc Try.prog w base (fun _ => true) held fuel 22 [c] = some y) :
    ∃ l : List ByteArray, SlA w 1 c l.length (strs l) ∧ ∀ x ∈ l, x.size ≤ 9223372036854775807 := by
  obtain ⟨l, h1, h2⟩ := open_rowOf (fun s : ByteArray => [Value.string s]) 1 (by decide) (fun _ => rfl) Try.underlying22 (by kernel_rfl) (fun s => s.size ≤ 9223372036854775807)
    (fun _ cs _ h => by obtain ⟨s, e, _, hs⟩ := DataW.trod_string Try.underlying9 h; exact ⟨s, e, by rwa [maxLen_eq] at hs⟩) hf
  exact ⟨l, by rwa [strs_flat] at h1, h2⟩

theorem six_of {cs : List Value} (h : cs.length = 6) : ∃ a b c d e f, cs = [a, b, c, d, e, f] := by
  match cs, h with
  | [a, b, c, d, e, f], _ => exact ⟨a, b, c, d, e, f, rfl⟩
theorem trod_query {fuel : Nat} {cs : List Value} {x : DataW H × List MemPlace} (h : DataW.trod enc Try.prog w base (fun _ => true) held fuel 80 cs = some x) : ∃ q : Qv, cs = q.cells ∧ q.ok w := by
  obtain ⟨xs, n, _, rfl, hl, hlen, hf⟩ := DataW.trod_struct Try.underlying80 h
  have hc : Try.prog.cellsOf 80 = 6 := by kernel_rfl
  have hr : Try.prog.cellsOf 24 = 2 := by kernel_rfl
  have hi : Try.prog.cellsOf 3 = 1 := by kernel_rfl
  have hs : Try.prog.cellsOf 22 = 1 := by kernel_rfl
  rw [hc] at hl
  obtain ⟨c0, c1, c2, c3, c4, c5, rfl⟩ := six_of hl
  have f0 : DataW.trod enc Try.prog w base (fun _ => true) held n 3 [c0] = xs[0]? := by simpa [hi] using hf 0 _ rfl
  have f1 : DataW.trod enc Try.prog w base (fun _ => true) held n 24 [c1, c2] = xs[1]? := by simpa [hr] using hf 1 _ rfl
  have f2 : DataW.trod enc Try.prog w base (fun _ => true) held n 24 [c3, c4] = xs[2]? := by simpa [hr] using hf 2 _ rfl
  have f3 : DataW.trod enc Try.prog w base (fun _ => true) held n 22 [c5] = xs[3]? := by simpa [hs] using hf 3 _ rfl
  match xs, hlen with
  | [y0, y1, y2, y3], _ =>
    simp only [List.getElem?_cons_zero, List.getElem?_cons_succ] at f0 f1 f2 f3
    obtain ⟨k, e0, _, _⟩ := DataW.trod_int Try.underlying3 f0
    obtain ⟨r1, e1, _, l1⟩ := trod_role f1
    obtain ⟨r2, e2, _, l2⟩ := trod_role f2
    obtain ⟨ss, s3, l3⟩ := open_strsC f3
    simp only [Rl.cells, List.cons.injEq, and_true] at e0 e1 e2
    obtain ⟨rfl, rfl⟩ := e1
    obtain ⟨rfl, rfl⟩ := e2
    subst e0
    exact ⟨⟨k, r1, r2, c5⟩, rfl, rle_max l1, rle_max l2, ss, s3, l3⟩
theorem open_qs {fuel : Nat} {c : Value} {y : DataW H × List MemPlace} (hf : DataW.trod enc Try.prog w base (fun _ => true) held fuel 53 [c] = some y) :
    ∃ l : List Qv, SlA w 6 c l.length (l.flatMap Qv.cells) ∧ ∀ x ∈ l, x.ok w :=
  open_rowOf Qv.cells 6 (by decide) Qv.cells_len Try.underlying53 (by kernel_rfl) (fun q => q.ok w) (fun _ _ _ h => trod_query h) hf
theorem four_of {cs : List Value} (h : cs.length = 4) : ∃ a b c d, cs = [a, b, c, d] := by
  match cs, h with
  | [a, b, c, d], _ => exact ⟨a, b, c, d, rfl⟩
set_option maxRecDepth 100000 in
theorem open_pol {r : Reach} {b0 : Nat} {v : Value} {d : DataW H} {ps : List MemPlace} (hval : Value.okWide Try.prog w r b0 55 v) (hd : DataW.Trod enc Try.prog w base (fun _ => true) held 55 v d ps) :
    ∃ v0 v1 v2 v3 l g h qs, v = pv v0 v1 v2 v3 ∧ PolAt w v0 v1 v2 v3 l g h qs := by
  obtain ⟨cs, rfl, _⟩ := okWide_struct Try.underlying55 hval
  obtain ⟨fuel, hf⟩ := hd
  obtain ⟨xs, n, _, _, hl, hlen, hf'⟩ := DataW.trod_struct Try.underlying55 hf
  have hc : Try.prog.cellsOf 55 = 4 := by kernel_rfl
  have h0 : Try.prog.cellsOf 51 = 1 := by kernel_rfl
  have h1 : Try.prog.cellsOf 52 = 1 := by kernel_rfl
  have h2 : Try.prog.cellsOf 53 = 1 := by kernel_rfl
  rw [hc] at hl
  obtain ⟨c0, c1, c2, c3, hcs⟩ := four_of hl
  rw [hcs] at hf'
  have f0 : DataW.trod enc Try.prog w base (fun _ => true) held n 51 [c0] = xs[0]? := by simpa [h0] using hf' 0 _ rfl
  have f1 : DataW.trod enc Try.prog w base (fun _ => true) held n 52 [c1] = xs[1]? := by simpa [h1] using hf' 1 _ rfl
  have f2 : DataW.trod enc Try.prog w base (fun _ => true) held n 52 [c2] = xs[2]? := by simpa [h1] using hf' 2 _ rfl
  have f3 : DataW.trod enc Try.prog w base (fun _ => true) held n 53 [c3] = xs[3]? := by simpa [h2] using hf' 3 _ rfl
  match xs, hlen with
  | [y0, y1, y2, y3], _ =>
    simp only [List.getElem?_cons_zero, List.getElem?_cons_succ] at f0 f1 f2 f3
    obtain ⟨l, s0, l0⟩ := open_stsC f0
    obtain ⟨g, s1, l1⟩ := open_rls f1
    obtain ⟨h, s2, l2⟩ := open_rls f2
    obtain ⟨qs, s3, l3⟩ := open_qs f3
    refine ⟨c0, c1, c2, c3, l, g, h, qs, ?_, ⟨s0, s1, s2, s3, l0, l1, l2, l3⟩⟩
    obtain ⟨cl⟩ := cs
    simp only [Value.cells] at hcs
    have : cl = [c0, c1, c2, c3] := by simpa using hcs
    rw [this]
end
end Go.Proofs.Ythickpocfplcoaa
