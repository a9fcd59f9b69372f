/- Faults' texts: report.Fault, number, ReadFault; crupperref01.Dec of any number, crupperref28.Fault (printed by gen_repfault.py). -/
import Derived.Test.YtomhekohcadijaaGreatDoorPartRF29
import Derived.Test.YtomhekohcadijaaGreatDoorPartRF16
import Derived.Test.YtomhekohcadijaaGreatDoorPartRF27
import Derived.Laws.IdiomStrings
namespace Go.Proofs.YtomhekohcadijaaGreatDoor
open Go.RowKit Go.Shelf

def faultB (y l c : Int) : ByteArray := if y ≤ 0 ∨ l < 0 ∨ c < 0 then emp else toBA (faultT y.toNat l.toNat c.toNat)
theorem fault_parts {y l c : Int} (h0 : ¬ y ≤ 0) (h1 : ¬ l < 0) (h2 : ¬ c < 0) :
    faultB y l c = (⟨#[101, 114, 114, 111, 114, 32]⟩ : ByteArray) ++ toBA (decL y.toNat) ++ ⟨#[32, 97, 116, 32]⟩ ++ toBA (decL l.toNat) ++ ⟨#[58]⟩ ++ toBA (decL c.toNat) := by
  unfold faultB
  rw [if_neg (by omega)]
  refine bl_inj.1 ?_
  simp only [bl_append]
  show faultT _ _ _ = _
  unfold faultT
  rw [show bl (toBA (decL y.toNat)) = decL y.toNat from rfl, show bl (toBA (decL l.toNat)) = decL l.toNat from rfl, show bl (toBA (decL c.toNat)) = decL c.toNat from rfl]
  simp [bl]
def DecRelB (N : Nat) (w : World) (vn vs i : Value) (wr : World) : Prop :=
  ∃ (n k : Nat) (s : List UInt8), vn = .int .i64 n ∧ i = .int .i64 k ∧ vs = .string (toBA s) ∧ s.length = k ∧ decL N = decL n ++ s ∧ n * 10 ^ k ≤ 9223372036854775807 ∧ (1 ≤ n ∨ k = 0) ∧ Below w.heap.size w wr
theorem dec_fewB {n k : Nat} (h : n * 10 ^ k ≤ 9223372036854775807) (h1 : 1 ≤ n ∨ k = 0) : k ≤ 18 := by
  rcases h1 with h1 | h1
  · by_cases hk : k ≤ 18
    · exact hk
    · exfalso
      have h2 : 10 ^ 19 ≤ 10 ^ k := Nat.pow_le_pow_right (by omega) (by omega)
      have h3 : 1 * 10 ^ k ≤ n * 10 ^ k := Nat.mul_le_mul_right _ h1
      omega
  · omega
theorem dec_nextB {n k : Nat} (h : n * 10 ^ k ≤ 9223372036854775807) : n / 10 * 10 ^ (k + 1) ≤ 9223372036854775807 := by
  have e : n / 10 * 10 ^ (k + 1) = n / 10 * 10 * 10 ^ k := by rw [Nat.pow_succ, Nat.mul_comm (10 ^ k) 10, Nat.mul_assoc]
  have h2 : n / 10 * 10 * 10 ^ k ≤ n * 10 ^ k := Nat.mul_le_mul_right _ (Nat.div_mul_le_self n 10)
  omega
theorem toBA_len (s : List UInt8) : (toBA s).size = s.length := by unfold toBA; simp [ByteArray.size]
set_option maxRecDepth 100000 in
set_option maxHeartbeats 4000000 in
theorem ref1_DecB (N : Nat) (hN : N ≤ 9223372036854775807) (w : World) : Calls Tryz.prog 85 #[.int .i64 N] w fun e w' => e = .returned (.string (toBA (decL N))) ∧ Below w.heap.size w w' := by
  go_enter Tryz.func85, Tryz.ntmps85
  go_wp2_with fail
  go_loopw [0, 3, 4] (fun vn vs i wr => DecRelB N w vn vs i wr) (fun _ _ i _ => 20 - (intOf i).toNat)
  case atStart => exact ⟨N, 0, [], rfl, rfl, rfl, rfl, by simp, by omega, .inr rfl, Below.refl _ _⟩
  case round =>
    obtain ⟨n, k, s, rfl, rfl, rfl, hsl, hd, hp, h1, hb⟩ := hrel
    have hk := dec_fewB hp h1
    have hn : n ≤ 9223372036854775807 := Nat.le_trans (Nat.le_mul_of_pos_right n (Nat.pow_pos (by omega))) hp
    have HB := Lib.hid hb
    have hct : (UInt8.ofNat (48 + n % 10)).toNat = 48 + n % 10 := by rw [UInt8.toNat_ofNat']; omega
    have HD := Lib.hid (show n < 10 → decL N = [UInt8.ofNat (48 + n % 10)] ++ s from fun h => by rw [hd, decL_small h, Nat.mod_eq_of_lt h])
    have HD2 := Lib.hid (show ¬ n < 10 → decL N = decL (n / 10) ++ ([UInt8.ofNat (48 + n % 10)] ++ s) from fun h => by rw [hd, decL_big h, decL_small (n := n % 10) (by omega), List.append_assoc])
    have HP := Lib.hid (dec_nextB hp)
    generalize UInt8.ofNat (48 + n % 10) = c at *
    have HE := Lib.hid (show ByteArray.mk #[c] ++ toBA s = toBA ([c] ++ s) by rw [toBA_cat]; rfl)
    have z1 : (toBA s).size ≤ 4294967 := by rw [toBA_len]; omega
    have z2 : (ByteArray.mk #[c]).size ≤ 4294967 := by show 1 ≤ 4294967; omega
    have hci : (48 : Int) + (n : Int) % 10 = (c.toNat : Int) := by omega
    have kc := run_convert_bytes_back (P := Tryz.prog) (wr.alloc (.cells #[.int .u8 (48 + (n : Int) % 10)] 5)) 111 9 5 ⟨wr.heap.size, 0, none⟩ 1 [c] Tryz.underlying111 Tryz.underlying5 Tryz.underlying9 (fun j hj => by
      have h0 : j = 0 := by simpa using hj
      subst h0
      rw [hci]
      exact cells_new wr [.int .u8 (c.toNat : Int)] 5 wr.heap.size rfl 0 _ rfl)
    simp only [List.length_singleton] at kc
    have HS := Lib.hid hsl
    clear hd hp hb h1 hct hci hsl
    by_cases hn10 : n < 10
    · have hq : ((n : Int) / 10 == 0) = true := by rw [beq_iff_eq]; omega
      have HR := Lib.hid (HD.out hn10)
      clear HD2 HD
      go_wp2_with fail
      go_ret
      exact ⟨by rw [HR.out, ← HE.out]; rfl, HB.out.alloc HB.out.size _⟩
    · have hq : ((n : Int) / 10 == 0) = false := by rw [beq_eq_false_iff_ne]; omega
      have HR := Lib.hid (HD2.out hn10)
      clear HD2 HD
      go_wp2_with fail
      exact ⟨⟨n / 10, k + 1, [c] ++ s, by rfl, by go_num, by rw [← HE.out], by rw [List.length_append, HS.out, List.length_singleton, Nat.add_comm], HR.out, HP.out, .inl (by omega), HB.out.alloc HB.out.size _⟩, by simp [intOf]; omega⟩
set_option maxRecDepth 100000 in
set_option maxHeartbeats 4000000 in
theorem rep_Fault (y l c : Int) (w : World) (hy : y ≤ 9223372036854775807) (hl : l ≤ 9223372036854775807) (hc : c ≤ 9223372036854775807) :
    Calls Tryz.prog 39 #[.agg #[.int .i64 y, .int .i64 l, .int .i64 c]] w fun e w' => e = .returned (.string (faultB y l c)) ∧ Below w.heap.size w w' := by
  have HW := Lib.hid ((Below.refl w.heap.size w).alloc (Nat.le_refl _) (.cells #[.int .i64 y, .int .i64 l, .int .i64 c] 48))
  by_cases h0 : y ≤ 0
  · have d : decide (y ≤ 0) = true := by rw [decide_eq_true_iff]; omega
    have R := Lib.hid (show faultB y l c = emp from if_pos (.inl h0))
    clear h0
    go_enter Tryz.func39, Tryz.ntmps39
    go_wp2
    go_ret
    exact ⟨ret_s R.out.symm, HW.out⟩
  have d : decide (y ≤ 0) = false := by rw [decide_eq_false_iff_not]; omega
  by_cases h1 : l < 0
  · have d1 : decide (l < 0) = true := decide_eq_true h1
    have R := Lib.hid (show faultB y l c = emp from if_pos (.inr (.inl h1)))
    clear h0 h1
    go_enter Tryz.func39, Tryz.ntmps39
    go_wp2
    go_ret
    exact ⟨ret_s R.out.symm, HW.out⟩
  have d1 : decide (l < 0) = false := decide_eq_false h1
  by_cases h2 : c < 0
  · have d2 : decide (c < 0) = true := decide_eq_true h2
    have R := Lib.hid (show faultB y l c = emp from if_pos (.inr (.inr h2)))
    clear h0 h1 h2
    go_enter Tryz.func39, Tryz.ntmps39
    go_wp2
    go_ret
    exact ⟨ret_s R.out.symm, HW.out⟩
  have d2 : decide (c < 0) = false := decide_eq_false h2
  have ey : ((y.toNat : Nat) : Int) = y := by omega
  have el : ((l.toNat : Nat) : Int) = l := by omega
  have ec : ((c.toNat : Nat) : Int) = c := by omega
  have R := Lib.hid (show faultB y l c = (⟨#[101, 114, 114, 111, 114, 32]⟩ : ByteArray) ++ toBA (decL y.toNat) ++ ⟨#[32, 97, 116, 32]⟩ ++ toBA (decL l.toNat) ++ ⟨#[58]⟩ ++ toBA (decL c.toNat) from fault_parts h0 h1 h2)
  have C1 := Lib.hid (fun W => rep_dec y.toNat (by omega) W)
  have C2 := Lib.hid (fun W => rep_dec l.toNat (by omega) W)
  have C3 := Lib.hid (fun W => rep_dec c.toNat (by omega) W)
  rw [ey] at C1
  rw [el] at C2
  rw [ec] at C3
  have z1 : (toBA (decL y.toNat)).size ≤ 4294967 := toBA_small (Nat.le_trans (dec_short (by omega)) (by decide))
  have z2 : (toBA (decL l.toNat)).size ≤ 4294967 := toBA_small (Nat.le_trans (dec_short (by omega)) (by decide))
  have z3 : (toBA (decL c.toNat)).size ≤ 4294967 := toBA_small (Nat.le_trans (dec_short (by omega)) (by decide))
  clear ey el ec
  generalize faultB y l c = res at *
  generalize toBA (decL y.toNat) = x1 at *
  generalize toBA (decL l.toNat) = x2 at *
  generalize toBA (decL c.toNat) = x3 at *
  have l1 : ¬ 9223372036854775807 < 6 + x1.size := by omega
  have l2 : ¬ 9223372036854775807 < 6 + x1.size + 4 := by omega
  have l3 : ¬ 9223372036854775807 < 6 + x1.size + 4 + x2.size := by omega
  have l4 : ¬ 9223372036854775807 < 6 + x1.size + 4 + x2.size + 1 := by omega
  have l5 : ¬ 9223372036854775807 < 6 + x1.size + 4 + x2.size + 1 + x3.size := by omega
  have HS := Lib.hid (fun (W : World) (hb : Below (w.alloc (.cells #[.int .i64 y, .int .i64 l, .int .i64 c] 48)).heap.size (w.alloc (.cells #[.int .i64 y, .int .i64 l, .int .i64 c] 48)) W) => (keep1 hb).1)
  clear h0 h1 h2 hy hl hc
  go_enter Tryz.func39, Tryz.ntmps39
  go_upto_region 3 with fail
  refine wp_region_held_drew (S := (fun W => ∀ o, W.cell? ⟨w.heap.size, o, none⟩ = (#[.int .i64 y, .int .i64 l, .int .i64 c] : Array Value)[o]?)) (by kernel_rfl) (HS.out _ (below_drew (Below.refl _ _))) (fun hHeld => ?_)
  have HB := Lib.hid (below_drew (Below.refl (w.alloc (.cells #[.int .i64 y, .int .i64 l, .int .i64 c] 48)).heap.size (w.alloc (.cells #[.int .i64 y, .int .i64 l, .int .i64 c] 48))))
  obtain ⟨wk, hwk⟩ : ∃ W, W = (w.alloc (.cells #[.int .i64 y, .int .i64 l, .int .i64 c] 48)).drew := ⟨_, rfl⟩
  rw [← hwk] at HB hHeld ⊢
  clear hwk
  (refine hyes 0 ?_); (refine hyes 1 ?_); (refine hyes 5 ?_); (refine hyes 6 ?_); (refine hyes 10 ?_); (refine hyes 11 ?_); (try simp only [Act.put, List.setIfInBounds_toArray, List.set])
  (refine held_call 2 rfl (by kernel_rfl) (fun K hK => ?_); go_simp)
  go_at_call 95; refine (C1.out _).mono ?_; rintro e w2 ⟨rfl, hb2⟩; have HB := Lib.hid (HB.out.trans (hb2.mono HB.out.size)); clear hb2
  (refine hK.out _ _ (HS.out _ HB.out) (fun hHeld => ?_); clear hK K; (try simp only [Act.put, List.setIfInBounds_toArray, List.set]))
  (refine hyes 3 ?_); (refine hyes 4 ?_); (try simp only [Act.put, List.setIfInBounds_toArray, List.set])
  (refine held_call 7 rfl (by kernel_rfl) (fun K hK => ?_); go_simp)
  go_at_call 95; refine (C2.out _).mono ?_; rintro e w3 ⟨rfl, hb2⟩; have HB := Lib.hid (HB.out.trans (hb2.mono HB.out.size)); clear hb2
  (refine hK.out _ _ (HS.out _ HB.out) (fun hHeld => ?_); clear hK K; (try simp only [Act.put, List.setIfInBounds_toArray, List.set]))
  (refine hyes 8 ?_); (refine hyes 9 ?_); (try simp only [Act.put, List.setIfInBounds_toArray, List.set])
  (refine held_call 12 rfl (by kernel_rfl) (fun K hK => ?_); go_simp)
  go_at_call 95; refine (C3.out _).mono ?_; rintro e w4 ⟨rfl, hb2⟩; have HB := Lib.hid (HB.out.trans (hb2.mono HB.out.size)); clear hb2
  (refine hK.out _ _ (HS.out _ HB.out) (fun hHeld => ?_); clear hK K; (try simp only [Act.put, List.setIfInBounds_toArray, List.set]))
  (refine hyes 13 ?_); (refine hyes 14 ?_); (try simp only [Act.put, List.setIfInBounds_toArray, List.set])
  refine wpAnyH_done (by kernel_rfl) ?_ _
  go_wp2
  go_ret
  exact ⟨ret_s R.out.symm, HW.out.trans (HB.out.mono HW.out.size)⟩
set_option maxRecDepth 100000 in
set_option maxHeartbeats 4000000 in
theorem ref28_Fault (y l c : Int) (w : World) (hy : y ≤ 9223372036854775807) (hl : l ≤ 9223372036854775807) (hc : c ≤ 9223372036854775807) :
    Calls Tryz.prog 41 #[.agg #[.int .i64 y, .int .i64 l, .int .i64 c]] w fun e w' => e = .returned (.string (faultB y l c)) ∧ Below w.heap.size w w' := by
  have HW := Lib.hid ((Below.refl w.heap.size w).alloc (Nat.le_refl _) (.cells #[.int .i64 y, .int .i64 l, .int .i64 c] 48))
  by_cases h0 : y ≤ 0
  · have d : decide (y < 1) = true := by rw [decide_eq_true_iff]; omega
    have R := Lib.hid (show faultB y l c = emp from if_pos (.inl h0))
    clear h0
    go_enter Tryz.func41, Tryz.ntmps41
    go_wp2
    go_ret
    exact ⟨ret_s R.out.symm, HW.out⟩
  have d : decide (y < 1) = false := by rw [decide_eq_false_iff_not]; omega
  by_cases h1 : l < 0
  · have d1 : decide (l < 0) = true := decide_eq_true h1
    have R := Lib.hid (show faultB y l c = emp from if_pos (.inr (.inl h1)))
    clear h0 h1
    go_enter Tryz.func41, Tryz.ntmps41
    go_wp2
    go_ret
    exact ⟨ret_s R.out.symm, HW.out⟩
  have d1 : decide (l < 0) = false := decide_eq_false h1
  by_cases h2 : c < 0
  · have d2 : decide (c < 0) = true := decide_eq_true h2
    have R := Lib.hid (show faultB y l c = emp from if_pos (.inr (.inr h2)))
    clear h0 h1 h2
    go_enter Tryz.func41, Tryz.ntmps41
    go_wp2
    go_ret
    exact ⟨ret_s R.out.symm, HW.out⟩
  have d2 : decide (c < 0) = false := decide_eq_false h2
  have ey : ((y.toNat : Nat) : Int) = y := by omega
  have el : ((l.toNat : Nat) : Int) = l := by omega
  have ec : ((c.toNat : Nat) : Int) = c := by omega
  have R := Lib.hid (show faultB y l c = (⟨#[101, 114, 114, 111, 114, 32]⟩ : ByteArray) ++ toBA (decL y.toNat) ++ ⟨#[32, 97, 116, 32]⟩ ++ toBA (decL l.toNat) ++ ⟨#[58]⟩ ++ toBA (decL c.toNat) from fault_parts h0 h1 h2)
  have C1 := Lib.hid (fun W => ref1_DecB y.toNat (by omega) W)
  have C2 := Lib.hid (fun W => ref1_DecB l.toNat (by omega) W)
  have C3 := Lib.hid (fun W => ref1_DecB c.toNat (by omega) W)
  rw [ey] at C1
  rw [el] at C2
  rw [ec] at C3
  have z1 : (toBA (decL y.toNat)).size ≤ 4294967 := toBA_small (Nat.le_trans (dec_short (by omega)) (by decide))
  have z2 : (toBA (decL l.toNat)).size ≤ 4294967 := toBA_small (Nat.le_trans (dec_short (by omega)) (by decide))
  have z3 : (toBA (decL c.toNat)).size ≤ 4294967 := toBA_small (Nat.le_trans (dec_short (by omega)) (by decide))
  clear ey el ec
  generalize faultB y l c = res at *
  generalize toBA (decL y.toNat) = x1 at *
  generalize toBA (decL l.toNat) = x2 at *
  generalize toBA (decL c.toNat) = x3 at *
  have l1 : ¬ 9223372036854775807 < 6 + x1.size := by omega
  have l2 : ¬ 9223372036854775807 < 6 + x1.size + 4 := by omega
  have l3 : ¬ 9223372036854775807 < 6 + x1.size + 4 + x2.size := by omega
  have l4 : ¬ 9223372036854775807 < 6 + x1.size + 4 + x2.size + 1 := by omega
  have l5 : ¬ 9223372036854775807 < 6 + x1.size + 4 + x2.size + 1 + x3.size := by omega
  have HS := Lib.hid (fun (W : World) (hb : Below (w.alloc (.cells #[.int .i64 y, .int .i64 l, .int .i64 c] 48)).heap.size (w.alloc (.cells #[.int .i64 y, .int .i64 l, .int .i64 c] 48)) W) => (keep1 hb).1)
  clear h0 h1 h2 hy hl hc
  go_enter Tryz.func41, Tryz.ntmps41
  go_upto_region 3 with fail
  refine wp_region_held_drew (S := (fun W => ∀ o, W.cell? ⟨w.heap.size, o, none⟩ = (#[.int .i64 y, .int .i64 l, .int .i64 c] : Array Value)[o]?)) (by kernel_rfl) (HS.out _ (below_drew (Below.refl _ _))) (fun hHeld => ?_)
  have HB := Lib.hid (below_drew (Below.refl (w.alloc (.cells #[.int .i64 y, .int .i64 l, .int .i64 c] 48)).heap.size (w.alloc (.cells #[.int .i64 y, .int .i64 l, .int .i64 c] 48))))
  obtain ⟨wk, hwk⟩ : ∃ W, W = (w.alloc (.cells #[.int .i64 y, .int .i64 l, .int .i64 c] 48)).drew := ⟨_, rfl⟩
  rw [← hwk] at HB hHeld ⊢
  clear hwk
  (refine hyes 0 ?_); (refine hyes 1 ?_); (refine hyes 5 ?_); (refine hyes 6 ?_); (refine hyes 10 ?_); (refine hyes 11 ?_); (try simp only [Act.put, List.setIfInBounds_toArray, List.set])
  (refine held_call 2 rfl (by kernel_rfl) (fun K hK => ?_); go_simp)
  go_at_call 85; refine (C1.out _).mono ?_; rintro e w2 ⟨rfl, hb2⟩; have HB := Lib.hid (HB.out.trans (hb2.mono HB.out.size)); clear hb2
  (refine hK.out _ _ (HS.out _ HB.out) (fun hHeld => ?_); clear hK K; (try simp only [Act.put, List.setIfInBounds_toArray, List.set]))
  (refine hyes 3 ?_); (refine hyes 4 ?_); (try simp only [Act.put, List.setIfInBounds_toArray, List.set])
  (refine held_call 7 rfl (by kernel_rfl) (fun K hK => ?_); go_simp)
  go_at_call 85; refine (C2.out _).mono ?_; rintro e w3 ⟨rfl, hb2⟩; have HB := Lib.hid (HB.out.trans (hb2.mono HB.out.size)); clear hb2
  (refine hK.out _ _ (HS.out _ HB.out) (fun hHeld => ?_); clear hK K; (try simp only [Act.put, List.setIfInBounds_toArray, List.set]))
  (refine hyes 8 ?_); (refine hyes 9 ?_); (try simp only [Act.put, List.setIfInBounds_toArray, List.set])
  (refine held_call 12 rfl (by kernel_rfl) (fun K hK => ?_); go_simp)
  go_at_call 85; refine (C3.out _).mono ?_; rintro e w4 ⟨rfl, hb2⟩; have HB := Lib.hid (HB.out.trans (hb2.mono HB.out.size)); clear hb2
  (refine hK.out _ _ (HS.out _ HB.out) (fun hHeld => ?_); clear hK K; (try simp only [Act.put, List.setIfInBounds_toArray, List.set]))
  (refine hyes 13 ?_); (refine hyes 14 ?_); (try simp only [Act.put, List.setIfInBounds_toArray, List.set])
  refine wpAnyH_done (by kernel_rfl) ?_ _
  go_wp2
  go_ret
  exact ⟨ret_s R.out.symm, HW.out.trans (HB.out.mono HW.out.size)⟩

theorem val_snoc (l : List UInt8) (c : UInt8) : valL (l ++ [c]) = valL l * 10 + (c.toNat - 48) := by unfold valL; rw [List.foldl_append]; rfl
theorem val_few : ∀ (l : List UInt8), (∀ c ∈ l, isDig c = true) → valL l < 10 ^ l.length := by
  intro l
  induction hn : l.length generalizing l with
  | zero => intro _; rw [List.eq_nil_of_length_eq_zero hn]; decide
  | succ n ih =>
    intro h
    have hne : l ≠ [] := fun e => by rw [e] at hn; cases hn
    obtain ⟨y, c, rfl⟩ : ∃ y c, l = y ++ [c] := ⟨l.dropLast, l.getLast hne, (List.dropLast_concat_getLast hne).symm⟩
    have hy : y.length = n := by simpa using hn
    have := ih y hy (fun d hd => h d (by simp [hd]))
    have hd := h c (by simp)
    unfold isDig at hd
    rw [Bool.and_eq_true, decide_eq_true_iff, decide_eq_true_iff] at hd
    rw [val_snoc, Nat.pow_succ]
    omega
theorem num_lt (s : List UInt8) : numL s < 1000000000000000000 := by
  unfold numL
  split
  · rename_i h
    have h1 := val_few (s.take 18) (fun c hc => List.all_eq_true.1 h c hc)
    have h2 : 10 ^ (s.take 18).length ≤ 10 ^ 18 := Nat.pow_le_pow_right (by decide) (by rw [List.length_take]; omega)
    exact Nat.lt_of_lt_of_le h1 h2
  · decide
set_option maxRecDepth 100000 in
set_option maxHeartbeats 4000000 in
theorem rep_number (s : ByteArray) (w : World) (hz : s.size ≤ 1000000) :
    Calls Tryz.prog 97 #[.string s] w fun e w' => e = .returned (.int .i64 (numL (bl s))) ∧ w' = w := by
  have TK := Lib.hid (fun k (h : k < s.size) => bl_take s k h)
  have R0 := Lib.hid (fun k (h : k < s.size) (h18 : k < 18) (hd : isDig s[k] = false) => show numL (bl s) = 0 by
    unfold numL
    rw [if_neg]
    rw [List.all_eq_true]
    intro ha
    have hm : s[k] ∈ (bl s).take 18 := by
      have e : ((bl s).take 18)[k]? = some s[k] := by
        rw [List.getElem?_take_of_lt h18, List.getElem?_eq_getElem (by rw [bl_len]; exact h)]; rfl
      exact List.mem_of_getElem? e
    have := ha _ hm
    rw [hd] at this
    cases this)
  have R1 := Lib.hid (fun (k : Nat) (hk : k = min s.size 18) (ha : ∀ c ∈ (bl s).take k, isDig c = true) => show numL (bl s) = valL ((bl s).take k) by
    have e : (bl s).take 18 = (bl s).take k := by
      by_cases h : s.size ≤ 18
      · rw [List.take_of_length_le (by rw [bl_len]; exact h), List.take_of_length_le (by rw [bl_len]; omega)]
      · rw [show k = 18 by omega]
    unfold numL
    rw [e, if_pos (List.all_eq_true.2 ha)])
  obtain ⟨M, hM⟩ : ∃ M, M = min s.size 18 := ⟨_, rfl⟩
  have HM := Lib.hid hM
  have hM1 : M ≤ s.size := by omega
  have hM2 : M ≤ 18 := by omega
  have hMi : min (s.size : Int) 18 = (M : Int) := by omega
  have HA0 := Lib.hid (show ∀ c ∈ (bl s).take 0, isDig c = true from fun c hc => by simp at hc)
  clear hM
  go_enter Tryz.func97, Tryz.ntmps97
  go_wp2_with fail
  go_loop [2, 7] (fun n i => ∃ k : Nat, k ≤ M ∧ i = .int .i64 k ∧ n = .int .i64 (valL ((bl s).take k)) ∧ Hid (∀ c ∈ (bl s).take k, isDig c = true)) (fun _ i => 20 - (intOf i).toNat)
  case atStart => exact ⟨0, Nat.zero_le _, rfl, by simp [valL], HA0⟩
  case round =>
    obtain ⟨k, hk, rfl, rfl, HAll⟩ := hrel
    by_cases hlt : k < M
    · have hks : k < s.size := by omega
      have hv := val_few _ HAll.out
      have hv2 : 10 ^ ((bl s).take k).length ≤ 10 ^ 17 := Nat.pow_le_pow_right (by decide) (by rw [List.length_take]; omega)
      have hv3 : valL ((bl s).take k) < 100000000000000000 := Nat.lt_of_lt_of_le hv hv2
      have HT := Lib.hid (TK.out k hks)
      have R := Lib.hid (R0.out k hks (by omega))
      have HN : Hid (isDig s[k] = true → ∀ c ∈ (bl s).take (k + 1), isDig c = true) := Lib.hid (fun h c hc => by
        rw [HT.out] at hc
        rcases List.mem_append.1 hc with hc | hc
        · exact HAll.out c hc
        · rw [List.mem_singleton.1 hc]; exact h)
      have HV := Lib.hid (show valL ((bl s).take (k + 1)) = valL ((bl s).take k) * 10 + (s[k].toNat - 48) by rw [HT.out, val_snoc])
      have hc8 : s[k].toNat < 256 := s[k].toNat_lt
      have HDG := Lib.hid (show isDig s[k] = (decide (48 ≤ s[k].toNat) && decide (s[k].toNat ≤ 57)) from rfl)
      generalize valL ((bl s).take k) = v at *
      clear hv hv2 HT
      by_cases h1 : s[k].toNat < 48
      · have d1 : decide ((s[k].toNat : Int) < 48) = true := by rw [decide_eq_true_iff]; omega
        have R := Lib.hid (R.out (by rw [HDG.out, decide_eq_false (by omega)]; rfl))
        go_wp2
        go_ret
        exact ⟨ret_int (by rw [R.out]; rfl), rfl⟩
      by_cases h2 : 57 < s[k].toNat
      · have d1 : decide ((s[k].toNat : Int) < 48) = false := by rw [decide_eq_false_iff_not]; omega
        have d2 : decide (57 < (s[k].toNat : Int)) = true := by rw [decide_eq_true_iff]; omega
        have R := Lib.hid (R.out (by rw [HDG.out, decide_eq_false (by omega : ¬ s[k].toNat ≤ 57)]; simp))
        go_wp2
        go_ret
        exact ⟨ret_int (by rw [R.out]; rfl), rfl⟩
      · have d1 : decide ((s[k].toNat : Int) < 48) = false := by rw [decide_eq_false_iff_not]; omega
        have d2 : decide (57 < (s[k].toNat : Int)) = false := by rw [decide_eq_false_iff_not]; omega
        have HN := Lib.hid (HN.out (by rw [HDG.out, decide_eq_true (by omega : 48 ≤ s[k].toNat), decide_eq_true (by omega : s[k].toNat ≤ 57)]; rfl))
        have HV2 := Lib.hid (show (10 * (v : Int) + ((s[k].toNat : Int) - 48)) = ((valL ((bl s).take (k + 1)) : Nat) : Int) by rw [HV.out]; omega)
        have ha : 0 ≤ (s[k].toNat : Int) - 48 := by omega
        have hb : (s[k].toNat : Int) - 48 ≤ 9 := by omega
        go_wp2
        go_round
        case rel => exact ⟨k + 1, by omega, by go_num, by rw [HV2.out], HN⟩
        case measure => simp [intOf]; omega
    · have R := Lib.hid (R1.out k (by have := HM.out; omega) HAll.out)
      go_wp2
      go_ret
      exact ⟨ret_int (by rw [R.out]), rfl⟩

def okF (s : ByteArray) : Bool := decide (¬ s = emp) && decide (faultB (readF (bl s)).1 (readF (bl s)).2.1 (readF (bl s)).2.2 = s)
def faultV (s : ByteArray) : Value := if okF s = true then .tuple #[.agg #[.int .i64 ((readF (bl s)).1 : Int), .int .i64 ((readF (bl s)).2.1 : Int), .int .i64 ((readF (bl s)).2.2 : Int)], .bool true] else .tuple #[.agg #[.int .i64 0, .int .i64 0, .int .i64 0], .bool false]
theorem cut_le (l sep : List UInt8) : (Lib.cut l sep).1.length ≤ l.length ∧ (Lib.cut l sep).2.1.length ≤ l.length := by
  unfold Lib.cut
  split
  · exact ⟨by rw [List.length_take]; omega, by rw [List.length_drop]; omega⟩
  · exact ⟨Nat.le_refl _, Nat.zero_le _⟩
theorem trimP_le (l p : List UInt8) : (Lib.trimPrefix l p).length ≤ l.length := by
  unfold Lib.trimPrefix
  split
  · rw [List.length_drop]; omega
  · exact Nat.le_refl _
theorem cutAny (s t : ByteArray) (w : World) (hs : s.size ≤ 1000000) (hg : Gl w) :
    Calls Tryz.prog 91 #[.string s, .string t] w fun e w' => ∃ (b : Bool), e = .returned (.tuple #[.string ⟨(Lib.cut (bl s) (bl t)).1.toArray⟩, .string ⟨(Lib.cut (bl s) (bl t)).2.1.toArray⟩, .bool b]) ∧ Below w.heap.size w w' := by
  obtain ⟨m, hm⟩ := hg
  have hcon := Tryz.strings_Cut s t m w (by omega) hm
  exact hcon.mono fun e w' ⟨h1, n, h2⟩ => ⟨_, h1, by rw [h2]; exact below_of_drewN n⟩
theorem blk_set3 {w : World} {b : Nat} {y0 y1 y2 : Value} (h : Blk w b #[y0, y1, y2]) (x0 x1 x2 : Value) : Blk (((w.setCell ⟨b, 0, none⟩ x0).setCell ⟨b, 1, none⟩ x1).setCell ⟨b, 2, none⟩ x2) b #[x0, x1, x2] :=
  (((h.put (o := 0) (v := x0) (by simp)).put (o := 1) (v := x1) (by simp)).put (o := 2) (v := x2) (by simp)).congr rfl
set_option maxRecDepth 100000 in
set_option maxHeartbeats 4000000 in
theorem rep_ReadFault (s : ByteArray) (w : World) (hz : s.size ≤ 1000000) (hg : Gl w) :
    Calls Tryz.prog 40 #[.string s] w fun e w' => e = .returned (faultV s) ∧ Below w.heap.size w w' := by
  have HG := Lib.hid hg
  have TP := Lib.hid (fun W => Tryz.strings_TrimPrefix s ⟨#[101, 114, 114, 111, 114, 32]⟩ W)
  have hz1 : (⟨(Lib.trimPrefix (bl s) [101, 114, 114, 111, 114, 32]).toArray⟩ : ByteArray).size ≤ 1000000 := by
    have := trimP_le (bl s) [101, 114, 114, 111, 114, 32]
    rw [bl_len] at this
    show (Lib.trimPrefix (bl s) [101, 114, 114, 111, 114, 32]).toArray.size ≤ _
    rw [List.size_toArray]; omega
  change Hid (∀ W, Calls Tryz.prog _ _ W fun e w' => e = .returned (.string ⟨(Lib.trimPrefix (bl s) [101, 114, 114, 111, 114, 32]).toArray⟩) ∧ w' = W) at TP
  obtain ⟨t0, ht0⟩ : ∃ t, t = (⟨(Lib.trimPrefix (bl s) [101, 114, 114, 111, 114, 32]).toArray⟩ : ByteArray) := ⟨_, rfl⟩
  have hb0 : bl t0 = Lib.trimPrefix (bl s) [101, 114, 114, 111, 114, 32] := by rw [ht0]
  rw [← ht0] at TP hz1
  have C1 := Lib.hid (fun W (h : Gl W) => cutAny t0 ⟨#[32, 97, 116, 32]⟩ W hz1 h)
  obtain ⟨y0, hy0⟩ : ∃ t, t = (⟨(Lib.cut (bl t0) [32, 97, 116, 32]).1.toArray⟩ : ByteArray) := ⟨_, rfl⟩
  obtain ⟨p0, hp0⟩ : ∃ t, t = (⟨(Lib.cut (bl t0) [32, 97, 116, 32]).2.1.toArray⟩ : ByteArray) := ⟨_, rfl⟩
  have hcl := cut_le (bl t0) [32, 97, 116, 32]
  rw [bl_len] at hcl
  have hzy : y0.size ≤ 1000000 := by rw [hy0]; show (Lib.cut (bl t0) [32, 97, 116, 32]).1.toArray.size ≤ _; rw [List.size_toArray]; omega
  have hzp : p0.size ≤ 1000000 := by rw [hp0]; show (Lib.cut (bl t0) [32, 97, 116, 32]).2.1.toArray.size ≤ _; rw [List.size_toArray]; omega
  have hby : bl y0 = (Lib.cut (Lib.trimPrefix (bl s) [101, 114, 114, 111, 114, 32]) [32, 97, 116, 32]).1 := by rw [← hb0, hy0]
  have hbp : bl p0 = (Lib.cut (Lib.trimPrefix (bl s) [101, 114, 114, 111, 114, 32]) [32, 97, 116, 32]).2.1 := by rw [← hb0, hp0]
  change Hid (∀ W, Gl W → Calls Tryz.prog _ _ W fun e w' => ∃ b, e = .returned (.tuple #[.string ⟨(Lib.cut (bl t0) [32, 97, 116, 32]).1.toArray⟩, .string ⟨(Lib.cut (bl t0) [32, 97, 116, 32]).2.1.toArray⟩, .bool b]) ∧ Below W.heap.size W w') at C1
  rw [← hy0, ← hp0] at C1
  have C2 := Lib.hid (fun W (h : Gl W) => cutAny p0 ⟨#[58]⟩ W hzp h)
  obtain ⟨l0, hl0⟩ : ∃ t, t = (⟨(Lib.cut (bl p0) [58]).1.toArray⟩ : ByteArray) := ⟨_, rfl⟩
  obtain ⟨c0, hc0⟩ : ∃ t, t = (⟨(Lib.cut (bl p0) [58]).2.1.toArray⟩ : ByteArray) := ⟨_, rfl⟩
  have hcl2 := cut_le (bl p0) [58]
  rw [bl_len] at hcl2
  have hzl : l0.size ≤ 1000000 := by rw [hl0]; show (Lib.cut (bl p0) [58]).1.toArray.size ≤ _; rw [List.size_toArray]; omega
  have hzc : c0.size ≤ 1000000 := by rw [hc0]; show (Lib.cut (bl p0) [58]).2.1.toArray.size ≤ _; rw [List.size_toArray]; omega
  change Hid (∀ W, Gl W → Calls Tryz.prog _ _ W fun e w' => ∃ b, e = .returned (.tuple #[.string ⟨(Lib.cut (bl p0) [58]).1.toArray⟩, .string ⟨(Lib.cut (bl p0) [58]).2.1.toArray⟩, .bool b]) ∧ Below W.heap.size W w') at C2
  rw [← hl0, ← hc0] at C2
  have N1 := Lib.hid (fun W => rep_number y0 W hzy)
  have N2 := Lib.hid (fun W => rep_number l0 W hzl)
  have N3 := Lib.hid (fun W => rep_number c0 W hzc)
  have RF := Lib.hid (show readF (bl s) = (numL (bl y0), numL (bl l0), numL (bl c0)) by
    unfold readF
    dsimp only
    rw [hby, hl0, hc0]
    show _ = (_, numL (Lib.cut (bl p0) [58]).1, numL (Lib.cut (bl p0) [58]).2.1)
    rw [hbp])
  have q1 := num_lt (bl y0)
  have q2 := num_lt (bl l0)
  have q3 := num_lt (bl c0)
  have FV := Lib.hid (show faultV s = if (decide (¬ s = emp) && decide (faultB (numL (bl y0)) (numL (bl l0)) (numL (bl c0)) = s)) = true then .tuple #[.agg #[.int .i64 (numL (bl y0) : Int), .int .i64 (numL (bl l0) : Int), .int .i64 (numL (bl c0) : Int)], .bool true] else .tuple #[.agg #[.int .i64 0, .int .i64 0, .int .i64 0], .bool false] by
    unfold faultV okF
    rw [RF.out])
  clear hcl hcl2 hby hbp hb0 ht0 hy0 hp0 hl0 hc0 RF hg
  generalize numL (bl y0) = Y at *
  generalize numL (bl l0) = L at *
  generalize numL (bl c0) = C at *
  have FT := Lib.hid (fun W => rep_Fault Y L C W (by omega) (by omega) (by omega))
  generalize faultB Y L C = fb at *
  generalize faultV s = res at *
  go_enter Tryz.func40, Tryz.ntmps40
  go_wp2_with fail
  refine (TP.out _).mono ?_
  rintro e w1 ⟨rfl, rfl⟩
  have HW := Lib.hid ((Below.refl w.heap.size w).alloc (Nat.le_refl _) (.cells #[.int .i64 0, .int .i64 0, .int .i64 0] 48))
  obtain ⟨w1, hw1⟩ : ∃ W, W = w.alloc (.cells #[.int .i64 0, .int .i64 0, .int .i64 0] 48) := ⟨_, rfl⟩
  have HRB := Lib.hid (show Blk w1 w.heap.size #[.int .i64 0, .int .i64 0, .int .i64 0] by rw [hw1]; exact Blk.new _ _ _)
  rw [← hw1] at HW ⊢
  clear hw1
  go_wp2_with fail
  refine (C1.out _ (HG.out.below HW.out)).mono ?_
  rintro e w2 ⟨b2, rfl, hb2⟩
  have HW := Lib.hid (HW.out.trans (hb2.mono HW.out.size))
  have HRB := Lib.hid (HRB.out.below hb2)
  clear hb2 C1 TP
  go_wp2_with fail
  refine (C2.out _ (HG.out.below HW.out)).mono ?_
  rintro e w3 ⟨b3, rfl, hb2⟩
  have HW := Lib.hid (HW.out.trans (hb2.mono HW.out.size))
  have HRB := Lib.hid (HRB.out.below hb2)
  clear hb2 C2
  go_wp2_with fail
  refine (N1.out _).mono ?_
  rintro e w4 ⟨rfl, rfl⟩
  go_wp2_with fail
  refine (N2.out _).mono ?_
  rintro e w5 ⟨rfl, rfl⟩
  go_wp2_with fail
  refine (N3.out _).mono ?_
  rintro e w6 ⟨rfl, rfl⟩
  have hbq : Below w6.heap.size w6 (w6.alloc (.cells #[.int .i64 (Y : Int), .int .i64 (L : Int), .int .i64 (C : Int)] 48)) := (Below.refl _ _).alloc (Nat.le_refl _) _
  have HB6 := Lib.hid hbq
  clear hbq N1 N2 N3
  by_cases hs0 : s = emp
  · have d : s.toList.isEmpty = true := by rw [hs0]; exact (show (ByteArray.toList ⟨#[]⟩).isEmpty = true by kernel_rfl)
    have R := Lib.hid (show res = .tuple #[.agg #[.int .i64 0, .int .i64 0, .int .i64 0], .bool false] by
      rw [FV.out, decide_eq_false (fun h => h hs0 : ¬ ¬ s = emp)]
      rfl)
    have HRB := Lib.hid (HRB.out.below HB6.out)
    have HW := Lib.hid (HW.out.trans (HB6.out.mono HW.out.size))
    obtain ⟨cr, fr, zr⟩ := HRB.out
    clear hs0 FV FT
    go_wp2
    clear cr fr zr
    generalize hW : ((((w6.alloc (.cells #[.int .i64 (Y : Int), .int .i64 (L : Int), .int .i64 (C : Int)] 48)).setCell ⟨w.heap.size, 0, none⟩ (.int .i64 0)).setCell ⟨w.heap.size, 1, none⟩ (.int .i64 0)).setCell ⟨w.heap.size, 2, none⟩ (.int .i64 0)) = W9
    have HW9 : Blk W9 w.heap.size #[.int .i64 0, .int .i64 0, .int .i64 0] := by rw [← hW]; exact blk_set3 HRB.out _ _ _
    have HLW : Below w.heap.size w W9 := by rw [← hW]; exact ((HW.out.setCell (p := ⟨w.heap.size, 0, none⟩) (Nat.le_refl _) _).setCell (p := ⟨w.heap.size, 1, none⟩) (Nat.le_refl _) _).setCell (p := ⟨w.heap.size, 2, none⟩) (Nat.le_refl _) _
    clear hW
    obtain ⟨cw, fw, zw⟩ := HW9
    refine bodyPost_ret (v := .tuple #[.agg #[.int .i64 0, .int .i64 0, .int .i64 0], .bool false]) (by simp [results, Tryz.results40, go_sem, cw]) rfl ?_
    exact ⟨by rw [R.out], HLW⟩
  have d : s.toList.isEmpty = false := by
    cases h : s.toList.isEmpty with
    | false => rfl
    | true =>
      exfalso
      rw [toList_bl, List.isEmpty_iff] at h
      exact hs0 (bl_inj.1 h)
  have HS0 := Lib.hid hs0
  clear hs0
  go_wp2_with fail
  refine (FT.out _).mono ?_
  rintro e w7 ⟨rfl, hb7⟩
  have HB7 := Lib.hid (HB6.out.trans (hb7.mono HB6.out.size))
  have HFB := Lib.hid (keep1 hb7)
  have HRB := Lib.hid (HRB.out.below HB7.out)
  have HW := Lib.hid (HW.out.trans (HB7.out.mono HW.out.size))
  clear hb7 FT HB7
  by_cases ht : fb = s
  · have d2 : (fb.toList == s.toList) = true := by rw [beq_str]; exact decide_eq_true ht
    have R := Lib.hid (show res = .tuple #[.agg #[.int .i64 (Y : Int), .int .i64 (L : Int), .int .i64 (C : Int)], .bool true] by
      rw [FV.out, decide_eq_true HS0.out, decide_eq_true ht]
      rfl)
    obtain ⟨cr, fr, zr⟩ := HRB.out
    obtain ⟨cf, ff, zf⟩ := HFB.out
    clear ht FV
    go_wp2
    clear cr fr zr cf ff zf
    generalize hW : (((w7.setCell ⟨w.heap.size, 0, none⟩ (.int .i64 (Y : Int))).setCell ⟨w.heap.size, 1, none⟩ (.int .i64 (L : Int))).setCell ⟨w.heap.size, 2, none⟩ (.int .i64 (C : Int))) = W9
    have HW9 : Blk W9 w.heap.size #[.int .i64 (Y : Int), .int .i64 (L : Int), .int .i64 (C : Int)] := by rw [← hW]; exact blk_set3 HRB.out _ _ _
    have HLW : Below w.heap.size w W9 := by rw [← hW]; exact ((HW.out.setCell (p := ⟨w.heap.size, 0, none⟩) (Nat.le_refl _) _).setCell (p := ⟨w.heap.size, 1, none⟩) (Nat.le_refl _) _).setCell (p := ⟨w.heap.size, 2, none⟩) (Nat.le_refl _) _
    clear hW
    obtain ⟨cw, fw, zw⟩ := HW9
    refine bodyPost_ret (v := .tuple #[.agg #[.int .i64 (Y : Int), .int .i64 (L : Int), .int .i64 (C : Int)], .bool true]) (by simp [results, Tryz.results40, go_sem, cw]) rfl ?_
    exact ⟨by rw [R.out], HLW⟩
  · have d2 : (fb.toList == s.toList) = false := by rw [beq_str]; exact decide_eq_false ht
    have R := Lib.hid (show res = .tuple #[.agg #[.int .i64 0, .int .i64 0, .int .i64 0], .bool false] by
      rw [FV.out, decide_eq_false ht, Bool.and_false]
      rfl)
    obtain ⟨cr, fr, zr⟩ := HRB.out
    clear ht FV
    go_wp2
    clear cr fr zr
    generalize hW : (((w7.setCell ⟨w.heap.size, 0, none⟩ (.int .i64 0)).setCell ⟨w.heap.size, 1, none⟩ (.int .i64 0)).setCell ⟨w.heap.size, 2, none⟩ (.int .i64 0)) = W9
    have HW9 : Blk W9 w.heap.size #[.int .i64 0, .int .i64 0, .int .i64 0] := by rw [← hW]; exact blk_set3 HRB.out _ _ _
    have HLW : Below w.heap.size w W9 := by rw [← hW]; exact ((HW.out.setCell (p := ⟨w.heap.size, 0, none⟩) (Nat.le_refl _) _).setCell (p := ⟨w.heap.size, 1, none⟩) (Nat.le_refl _) _).setCell (p := ⟨w.heap.size, 2, none⟩) (Nat.le_refl _) _
    clear hW
    obtain ⟨cw, fw, zw⟩ := HW9
    refine bodyPost_ret (v := .tuple #[.agg #[.int .i64 0, .int .i64 0, .int .i64 0], .bool false]) (by simp [results, Tryz.results40, go_sem, cw]) rfl ?_
    exact ⟨by rw [R.out], HLW⟩
end Go.Proofs.YtomhekohcadijaaGreatDoor
