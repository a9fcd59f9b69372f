/- Plain laws of the order of statements: it is a total one, and two rows in strict order that hold the same are the same. -/
import Derived.Test.YtmpanikeeeoikaaSynOrd
import Derived.Test.YtmpanikeeeoikaaCmpLaw
namespace Go.Proofs.Ytmpanikeeeoikaa

/-- A comparison by a number's sign: what is asked of it. -/
structure WCmp {α : Type} (c : α → α → Int) : Prop where
  neg : ∀ x y, c y x = - c x y
  le : ∀ x y z, c x y ≤ 0 → c y z ≤ 0 → c x z ≤ 0 ∧ (c x z = 0 → c x y = 0 ∧ c y z = 0)
theorem WCmp.on {α β : Type} {c : α → α → Int} (h : WCmp c) (f : β → α) : WCmp (fun x y => c (f x) (f y)) := ⟨fun _ _ => h.neg _ _, fun _ _ _ => h.le _ _ _⟩
theorem WCmp.or {α : Type} {c d : α → α → Int} (h : WCmp c) (h' : WCmp d) : WCmp (fun x y => orI (c x y) (d x y)) := by
  refine ⟨fun x y => ?_, fun x y z => ?_⟩
  · have := h.neg x y; have := h'.neg x y
    unfold orI; split <;> split <;> omega
  · intro h1 h2
    have a1 : c x y ≤ 0 := by unfold orI at h1; split at h1 <;> omega
    have a2 : c y z ≤ 0 := by unfold orI at h2; split at h2 <;> omega
    obtain ⟨b1, b2⟩ := h.le x y z a1 a2
    by_cases h0 : c x z = 0
    · obtain ⟨e1, e2⟩ := b2 h0
      rw [orI_yes e1] at h1 ⊢
      rw [orI_yes e2] at h2 ⊢
      rw [orI_yes h0]
      exact h'.le x y z h1 h2
    · rw [orI_no h0]
      exact ⟨b1, fun e => absurd e h0⟩
theorem wcmp_int : WCmp cmpI := by
  refine ⟨fun x y => ?_, fun x y z => ?_⟩
  · unfold cmpI; split <;> split <;> (try split) <;> omega
  · unfold cmpI
    intro h1 h2
    split at h1 <;> split at h2 <;> (try split at h1) <;> (try split at h2) <;> (constructor <;> (try split) <;> (try split) <;> omega)
theorem cb_lt {a b : UInt8} (xs ys : List UInt8) (h : a.toNat < b.toNat) : Lib.compareBytes (a :: xs) (b :: ys) = -1 := by
  simp only [Lib.compareBytes]; rw [if_pos (UInt8.lt_iff_toNat_lt.2 h)]
theorem cb_gt {a b : UInt8} (xs ys : List UInt8) (h : b.toNat < a.toNat) : Lib.compareBytes (a :: xs) (b :: ys) = 1 := by
  simp only [Lib.compareBytes]; rw [if_neg (fun h' => by have := UInt8.lt_iff_toNat_lt.1 h'; omega), if_pos (UInt8.lt_iff_toNat_lt.2 h)]
theorem cb_eq (a : UInt8) (xs ys : List UInt8) : Lib.compareBytes (a :: xs) (a :: ys) = Lib.compareBytes xs ys := by
  simp only [Lib.compareBytes]; rw [if_neg (UInt8.lt_irrefl a), if_neg (UInt8.lt_irrefl a)]
theorem cmpB_le : ∀ (a b c : List UInt8), Lib.compareBytes a b ≤ 0 → Lib.compareBytes b c ≤ 0 → Lib.compareBytes a c ≤ 0 ∧ (Lib.compareBytes a c = 0 → Lib.compareBytes a b = 0 ∧ Lib.compareBytes b c = 0)
  | [], [], c, _, h2 => ⟨h2, fun h => ⟨rfl, h⟩⟩
  | [], y :: ys, [], h1, h2 => by simp [Lib.compareBytes] at h2
  | [], y :: ys, z :: zs, h1, h2 => by simp [Lib.compareBytes]
  | x :: xs, [], c, h1, h2 => by simp [Lib.compareBytes] at h1
  | x :: xs, y :: ys, [], h1, h2 => by simp [Lib.compareBytes] at h2
  | x :: xs, y :: ys, z :: zs, h1, h2 => by
    have ih := cmpB_le xs ys zs
    rcases Nat.lt_trichotomy x.toNat y.toNat with a1 | a1 | a1
    · rcases Nat.lt_trichotomy y.toNat z.toNat with b1 | b1 | b1
      · rw [cb_lt xs zs (Nat.lt_trans a1 b1)]; exact ⟨by omega, fun h => by omega⟩
      · rw [cb_lt xs zs (by omega)]; exact ⟨by omega, fun h => by omega⟩
      · rw [cb_gt ys zs b1] at h2; omega
    · obtain rfl := UInt8.toNat_inj.1 a1
      rcases Nat.lt_trichotomy x.toNat z.toNat with b1 | b1 | b1
      · rw [cb_lt xs zs b1]; exact ⟨by omega, fun h => by omega⟩
      · obtain rfl := UInt8.toNat_inj.1 b1
        rw [cb_eq] at h1 h2
        rw [cb_eq, cb_eq, cb_eq]
        exact ih h1 h2
      · rw [cb_gt ys zs b1] at h2; omega
    · rw [cb_gt xs ys a1] at h1; omega
theorem wcmp_str : WCmp cmpS := ⟨cmpS_neg, fun _ _ _ => cmpB_le _ _ _⟩
theorem wcmp_rl : WCmp cmpR := (wcmp_str.on Rl.o).or (wcmp_str.on Rl.n)
theorem orL_one (x : Int) : orL [x] = x := by
  by_cases h : x = 0
  · rw [orL_yes h, h]; rfl
  · rw [orL_no h]
theorem orL_cons (x : Int) (r : List Int) : orL (x :: r) = orI x (orL r) := rfl
theorem orL_last (x : Int) : orI x (orL []) = x := orL_one x
theorem cmpSt_def (x y : St) : cmpSt x y = orI (cmpR x.h y.h) (orI (cmpI x.k y.k) (orI (cmpS x.who y.who) (orI (cmpR x.a y.a) (orI (cmpR x.b y.b) (cmpS x.via y.via))))) := by
  simp only [cmpSt, orL_cons, orL_last]
theorem wcmp_st : WCmp cmpSt := by
  have h := (wcmp_rl.on St.h).or ((wcmp_int.on St.k).or ((wcmp_str.on St.who).or ((wcmp_rl.on St.a).or ((wcmp_rl.on St.b).or (wcmp_str.on St.via)))))
  have e : cmpSt = fun x y => orI (cmpR x.h y.h) (orI (cmpI x.k y.k) (orI (cmpS x.who y.who) (orI (cmpR x.a y.a) (orI (cmpR x.b y.b) (cmpS x.via y.via))))) := by
    funext x y
    exact cmpSt_def x y
  rw [e]; exact h
theorem orI_zero {x y : Int} : orI x y = 0 ↔ x = 0 ∧ y = 0 := by
  unfold orI; split <;> omega
theorem cmpI_zero (x y : Int) : cmpI x y = 0 ↔ x = y := by unfold cmpI; split <;> (try split) <;> omega
theorem cmpR_zero (x y : Rl) : cmpR x y = 0 ↔ x = y := by
  obtain ⟨a, b⟩ := x; obtain ⟨c, d⟩ := y
  simp only [cmpR, orI_zero, cmpS_zero, Rl.mk.injEq]
theorem cmpSt_zero (x y : St) : cmpSt x y = 0 ↔ x = y := by
  obtain ⟨k, h, who, a, b, via⟩ := x; obtain ⟨k', h', who', a', b', via'⟩ := y
  simp only [cmpSt_def, orI_zero, cmpR_zero, cmpS_zero, cmpI_zero, St.mk.injEq]
  constructor
  · rintro ⟨a, b, c, d, e, f⟩; exact ⟨b, a, c, d, e, f⟩
  · rintro ⟨a, b, c, d, e, f⟩; exact ⟨b, a, c, d, e, f⟩
def sgn (x : Int) : Prop := x = -1 ∨ x = 0 ∨ x = 1
theorem sgn_or {x y : Int} (h : sgn x) (h' : sgn y) : sgn (orI x y) := by unfold orI; split <;> assumption
theorem sgn_bytes : ∀ (a b : List UInt8), sgn (Lib.compareBytes a b)
  | [], [] => .inr (.inl rfl)
  | [], _ :: _ => .inl rfl
  | _ :: _, [] => .inr (.inr rfl)
  | a :: xs, b :: ys => by
    simp only [Lib.compareBytes]
    split
    · exact .inl rfl
    · split
      · exact .inr (.inr rfl)
      · exact sgn_bytes xs ys
theorem sgn_rl (x y : Rl) : sgn (cmpR x y) := sgn_or (sgn_bytes _ _) (sgn_bytes _ _)
theorem sgn_int (x y : Int) : sgn (cmpI x y) := by unfold cmpI sgn; split <;> (try split) <;> omega
theorem sgn_st (x y : St) : sgn (cmpSt x y) := by
  rw [cmpSt_def]
  exact sgn_or (sgn_rl _ _) (sgn_or (sgn_int _ _) (sgn_or (sgn_bytes _ _) (sgn_or (sgn_rl _ _) (sgn_or (sgn_rl _ _) (sgn_bytes _ _)))))
theorem lt_trans' {x y z : St} (h : cmpSt x y < 0) (h' : cmpSt y z < 0) : cmpSt x z < 0 := by
  obtain ⟨a, b⟩ := wcmp_st.le x y z (by omega) (by omega)
  have : ¬ cmpSt x z = 0 := fun e => by have := (b e).1; omega
  omega
theorem lt_irrefl' (x : St) : ¬ cmpSt x x < 0 := by have := (cmpSt_zero x x).2 rfl; omega

/-- A row in strict order. -/
def Asc (l : List St) : Prop := l.Pairwise fun x y => cmpSt x y < 0
theorem asc_unique : ∀ (l m : List St), Asc l → Asc m → (∀ x, x ∈ l ↔ x ∈ m) → l = m
  | [], [], _, _, _ => rfl
  | [], y :: m, _, _, h => absurd ((h y).2 (by simp)) (by simp)
  | x :: l, [], _, _, h => absurd ((h x).1 (by simp)) (by simp)
  | x :: l, y :: m, hl, hm, h => by
    have hl' := List.pairwise_cons.1 hl
    have hm' := List.pairwise_cons.1 hm
    have e : x = y := by
      rcases List.mem_cons.1 ((h x).1 (by simp)) with e | e
      · exact e
      · rcases List.mem_cons.1 ((h y).2 (by simp)) with e' | e'
        · exact e'.symm
        · exact absurd (lt_trans' (hm'.1 x e) (hl'.1 y e')) (lt_irrefl' y)
    subst e
    refine congrArg (x :: ·) (asc_unique l m hl'.2 hm'.2 fun z => ?_)
    constructor
    · intro hz
      rcases List.mem_cons.1 ((h z).1 (by simp [hz])) with e | e
      · subst e; exact absurd (hl'.1 z hz) (lt_irrefl' z)
      · exact e
    · intro hz
      rcases List.mem_cons.1 ((h z).2 (by simp [hz])) with e | e
      · subst e; exact absurd (hm'.1 z hz) (lt_irrefl' z)
      · exact e

/-- A row in order without those that stand twice. -/
def dedup : List St → List St
  | [] => []
  | [x] => [x]
  | x :: y :: r => if x = y then dedup (y :: r) else x :: dedup (y :: r)
theorem dedup_mem : ∀ (l : List St) (z : St), z ∈ dedup l ↔ z ∈ l
  | [], z => by simp [dedup]
  | [x], z => by simp [dedup]
  | x :: y :: r, z => by
    have ih := dedup_mem (y :: r) z
    unfold dedup
    by_cases e : x = y
    · rw [if_pos e, ih, e]; simp
    · rw [if_neg e, List.mem_cons, ih, List.mem_cons (b := x)]
theorem dedup_asc : ∀ (l : List St), (l.Pairwise fun x y => cmpSt x y ≤ 0) → Asc (dedup l)
  | [], _ => List.Pairwise.nil
  | [x], _ => by simp [dedup, Asc]
  | x :: y :: r, h => by
    have h' := List.pairwise_cons.1 h
    have ih := dedup_asc (y :: r) h'.2
    unfold dedup
    by_cases e : x = y
    · rw [if_pos e]; exact ih
    · rw [if_neg e]
      refine List.pairwise_cons.2 ⟨fun z hz => ?_, ih⟩
      have hxy : cmpSt x y < 0 := by
        have := h'.1 y (by simp)
        have h0 : ¬ cmpSt x y = 0 := fun e' => e ((cmpSt_zero x y).1 e')
        omega
      have hz' := (dedup_mem (y :: r) z).1 hz
      rcases List.mem_cons.1 hz' with rfl | hz'
      · exact hxy
      · have hyz := (List.pairwise_cons.1 h'.2).1 z hz'
        obtain ⟨a, b⟩ := wcmp_st.le x y z (by omega) hyz
        have : ¬ cmpSt x z = 0 := fun e => by have := (b e).1; omega
        omega
end Go.Proofs.Ytmpanikeeeoikaa
