/- query.second, least, Universal, rising, Right (printed by gen_qright.py). -/
import Derived.Test.YtomhekohcadijaaGreatDoorPartRF17
import Derived.Test.YtomhekohcadijaaGreatDoorPartRF16
namespace Go.Proofs.YtomhekohcadijaaGreatDoor
open Go.RowKit Go.Shelf

def secB (k : Int) : Bool := decide (k = 5) || decide (k = 6)
def leastI (k : Int) : Int := if k = 1 ∨ k = 2 then 1 else if k = 3 then 0 else -1
def univB (k : Int) : Bool := decide (k = 1) || decide (k = 3) || decide (k = 5) || decide (k = 6)
theorem query_secondB (k : Int) (w : World) : Calls Tryz.prog 170 #[.int .i64 k] w fun e w' => e = .returned (.bool (secB k)) ∧ w' = w := by
  have R := Lib.hid (show secB k = (decide (k = 5) || decide (k = 6)) from rfl)
  generalize secB k = r at *
  go_enter Tryz.func170, Tryz.ntmps170
  by_cases h5 : k = 5
  · have d5 : (k == 5) = true := by simp [h5]
    have R2 := Lib.hid (show r = true by rw [R.out, decide_eq_true h5]; rfl)
    clear h5
    go_wp2
    go_ret
    exact ⟨ret_b R2.out.symm, rfl⟩
  · have d5 : (k == 5) = false := by simp [h5]
    by_cases h6 : k = 6
    · have d6 : (k == 6) = true := by simp [h6]
      have R2 := Lib.hid (show r = true by rw [R.out, decide_eq_true h6, Bool.or_true])
      clear h5 h6
      go_wp2
      go_ret
      exact ⟨ret_b R2.out.symm, rfl⟩
    · have d6 : (k == 6) = false := by simp [h6]
      have R2 := Lib.hid (show r = false by rw [R.out, decide_eq_false h5, decide_eq_false h6]; rfl)
      clear h5 h6
      go_wp2
      go_ret
      exact ⟨ret_b R2.out.symm, rfl⟩
theorem query_least (k : Int) (w : World) : Calls Tryz.prog 171 #[.int .i64 k] w fun e w' => e = .returned (.int .i64 (leastI k)) ∧ w' = w := by
  have R := Lib.hid (show leastI k = if k = 1 ∨ k = 2 then 1 else if k = 3 then 0 else -1 from rfl)
  generalize leastI k = r at *
  go_enter Tryz.func171, Tryz.ntmps171
  by_cases h1 : k = 1
  · have d1 : (k == 1) = true := by simp [h1]
    have R2 := Lib.hid (show r = 1 by rw [R.out, if_pos (.inl h1)])
    clear h1
    go_wp2
    go_ret
    exact ⟨ret_int R2.out.symm, rfl⟩
  have d1 : (k == 1) = false := by simp [h1]
  by_cases h2 : k = 2
  · have d2 : (k == 2) = true := by simp [h2]
    have R2 := Lib.hid (show r = 1 by rw [R.out, if_pos (.inr h2)])
    clear h1 h2
    go_wp2
    go_ret
    exact ⟨ret_int R2.out.symm, rfl⟩
  have d2 : (k == 2) = false := by simp [h2]
  by_cases h3 : k = 3
  · have d3 : (k == 3) = true := by simp [h3]
    have R2 := Lib.hid (show r = 0 by rw [R.out, if_neg (by omega), if_pos h3])
    clear h1 h2 h3
    go_wp2
    go_ret
    exact ⟨ret_int R2.out.symm, rfl⟩
  · have d3 : (k == 3) = false := by simp [h3]
    have R2 := Lib.hid (show r = -1 by rw [R.out, if_neg (by omega), if_neg h3])
    clear h1 h2 h3
    go_wp2
    go_ret
    exact ⟨ret_int R2.out.symm, rfl⟩
theorem query_Universal (k : Int) (w : World) : Calls Tryz.prog 233 #[.int .i64 k] w fun e w' => e = .returned (.bool (univB k)) ∧ w' = w := by
  have R := Lib.hid (show univB k = (decide (k = 1) || decide (k = 3) || decide (k = 5) || decide (k = 6)) from rfl)
  generalize univB k = r at *
  go_enter Tryz.func233, Tryz.ntmps233
  by_cases h1 : k = 1
  · have d1 : (k == 1) = true := by simp [h1]
    have R2 := Lib.hid (show r = true by rw [R.out, decide_eq_true h1]; rfl)
    clear h1
    go_wp2
    go_ret
    exact ⟨ret_b R2.out.symm, rfl⟩
  have d1 : (k == 1) = false := by simp [h1]
  by_cases h3 : k = 3
  · have d3 : (k == 3) = true := by simp [h3]
    have R2 := Lib.hid (show r = true by rw [R.out, decide_eq_true h3, Bool.or_true]; rfl)
    clear h1 h3
    go_wp2
    go_ret
    exact ⟨ret_b R2.out.symm, rfl⟩
  have d3 : (k == 3) = false := by simp [h3]
  by_cases h5 : k = 5
  · have d5 : (k == 5) = true := by simp [h5]
    have R2 := Lib.hid (show r = true by rw [R.out, decide_eq_true h5, Bool.or_true]; rfl)
    clear h1 h3 h5
    go_wp2
    go_ret
    exact ⟨ret_b R2.out.symm, rfl⟩
  have d5 : (k == 5) = false := by simp [h5]
  by_cases h6 : k = 6
  · have d6 : (k == 6) = true := by simp [h6]
    have R2 := Lib.hid (show r = true by rw [R.out, decide_eq_true h6, Bool.or_true])
    clear h1 h3 h5 h6
    go_wp2
    go_ret
    exact ⟨ret_b R2.out.symm, rfl⟩
  · have d6 : (k == 6) = false := by simp [h6]
    have R2 := Lib.hid (show r = false by rw [R.out, decide_eq_false h1, decide_eq_false h3, decide_eq_false h5, decide_eq_false h6]; rfl)
    clear h1 h3 h5 h6
    go_wp2
    go_ret
    exact ⟨ret_b R2.out.symm, rfl⟩
theorem less_rev {a b : ByteArray} (h : Op.bytesLess a.toList b.toList = true) : Op.bytesLess b.toList a.toList = false ∧ (b.toList == a.toList) = false := by
  rw [← str_less, decide_eq_true_iff] at h
  have h2 := cmpS_neg a b
  refine ⟨by rw [← str_less, decide_eq_false_iff_not]; omega, ?_⟩
  rw [beq_str, decide_eq_false_iff_not]
  intro e
  have := (cmpS_zero b a).2 e
  omega
theorem less_not {a b : ByteArray} (h : Op.bytesLess a.toList b.toList = false) : Op.bytesLess b.toList a.toList = true ∨ (b.toList == a.toList) = true := by
  rw [← str_less, decide_eq_false_iff_not] at h
  have h2 := cmpS_neg a b
  by_cases e : b = a
  · exact .inr (by rw [beq_str, e]; exact decide_eq_true rfl)
  · have : ¬ cmpS b a = 0 := fun h' => e ((cmpS_zero b a).1 h')
    exact .inl (by rw [← str_less, decide_eq_true_iff]; omega)
set_option maxRecDepth 100000 in
set_option maxHeartbeats 2000000 in
theorem query_rising (v : Value) (us : List ByteArray) (w : World) (hu : SlA w 1 v us.length (strs us)) (hz : ∀ s ∈ us, s.size ≤ 9223372036854775807) : Calls Tryz.prog 169 #[v] w fun e w' => e = .returned (.bool (rises us)) ∧ Below w.heap.size w w' := by
  have HU := Lib.hid hu
  have HUZ := Lib.hid hz
  have hmax := hu.max
  obtain ⟨wo, wc, rfl⟩ := hu.form
  clear hu hz
  have RY := Lib.hid (fun k (hk : ¬ k < us.length) h => rises_yes (us := us) (k := k) hk h)
  have RN := Lib.hid (fun k (hk : k < us.length) h => rises_no (us := us) (k := k) hk h)
  generalize rises us = res at RY RN ⊢
  go_enter Tryz.func169, Tryz.ntmps169
  go_wp2_with fail
  go_loopw [7] (fun i wr => ∃ k : Nat, k ≤ us.length ∧ i = .int .i64 k ∧ Hid (Below w.heap.size w wr) ∧ Hid (∀ j, j < k → risesAt us j = true)) (fun i _ => us.length - (intOf i).toNat)
  case atStart => exact ⟨0, by omega, rfl, Lib.hid (Below.refl _ _), Lib.hid (fun j h => absurd h (by omega))⟩
  case round =>
    obtain ⟨k, hk, rfl, HB, HJ⟩ := hrel
    by_cases hlt : k < us.length
    · obtain ⟨b1, o1, c1, he1, hc1, hm1, hb1, hx1⟩ := HU.out.pos (by omega)
      simp only [Value.slice.injEq, true_and] at he1
      obtain ⟨rfl, rfl⟩ := he1
      have p0 := (HB.out.cell (p := ⟨b1, o1 + k, none⟩) hb1).trans (hx1 k _ (strs_get hlt))
      have hbr : b1 < wr.heap.size := Nat.lt_of_lt_of_le hb1 HB.out.size
      have IP := Lib.hid (fun W => names_IsPrin us[k] W (HUZ.out _ (List.getElem_mem hlt)))
      have HRA := Lib.hid (show risesAt us k = (isP 65 90 (bl us[k]) && (decide (k = 0) || Op.bytesLess (us.getD (k - 1) emp).toList us[k].toList)) by unfold risesAt; rw [getD_at hlt])
      have HJS : Hid (risesAt us k = true → ∀ j, j < k + 1 → risesAt us j = true) := Lib.hid (fun h j hj => by
        by_cases e : j = k
        · rw [e]; exact h
        · exact HJ.out j (by omega))
      have HNO := Lib.hid (fun (h : risesAt us k = false) => RN.out k hlt h)
      generalize isP 65 90 (bl us[k]) = rp at IP HRA
      cases rp with
      | false =>
        clear hx1
        go_wp2_with fail
        refine (IP.out _).mono ?_
        rintro e w2 ⟨rfl, rfl⟩
        go_wp2
        go_ret
        exact ⟨ret_b (HNO.out (by rw [HRA.out]; rfl)).symm, HB.out⟩
      | true =>
        by_cases hk0 : k = 0
        · have dk : decide (0 < k) = false := by (rw [decide_eq_false_iff_not]; omega)
          have HS := Lib.hid (HJS.out (by rw [HRA.out, decide_eq_true hk0]; rfl))
          clear hx1 hk0
          go_wp2_with fail
          refine (IP.out _).mono ?_
          rintro e w2 ⟨rfl, rfl⟩
          go_wp2
          exact ⟨⟨k + 1, by omega, by go_num, HB, HS⟩, by simp [intOf]; omega⟩
        · obtain ⟨m, hm⟩ : ∃ m, k = m + 1 := ⟨k - 1, by omega⟩
          have dk : decide (0 < k) = true := by (rw [decide_eq_true_iff]; omega)
          have hw1 : IntKind.i64.wrap ((k : Int) - 1) = (m : Int) := by rw [show (k : Int) - 1 = (m : Int) by omega]; exact Go.IntWalk.i64_in _ (by omega)
          have hml : m < us.length := by omega
          have hmi : (0 : Int) ≤ (m : Int) := by omega
          have q0 := (HB.out.cell (p := ⟨b1, o1 + m, none⟩) hb1).trans (hx1 m _ (strs_get hml))
          rw [decide_eq_false hk0, Bool.false_or, show k - 1 = m by omega, getD_at hml, Bool.true_and] at HRA
          clear hx1 hk0 hm
          go_wp2_with fail
          refine (IP.out _).mono ?_
          rintro e w2 ⟨rfl, rfl⟩
          generalize us[k] = sk at *
          generalize us[m] = sm at *
          cases hbl : Op.bytesLess sm.toList sk.toList with
          | false =>
            have HBL := Lib.hid hbl
            rcases less_not hbl with hl | hl <;> clear hbl
            all_goals
              go_wp2
              go_ret
              exact ⟨ret_b (HNO.out (by rw [HRA.out]; exact HBL.out)).symm, HB.out⟩
          | true =>
            obtain ⟨hl1, hl2⟩ := less_rev hbl
            have HS := Lib.hid (HJS.out (by rw [HRA.out]; exact hbl))
            go_wp2
            exact ⟨⟨k + 1, by omega, by go_num, HB, HS⟩, by simp [intOf]; omega⟩
    · have R := Lib.hid (RY.out k hlt HJ.out)
      go_wp2
      go_ret
      exact ⟨ret_b R.out.symm, HB.out⟩
theorem noR_role : isRole noR = false := by kernel_rfl
set_option maxRecDepth 100000 in
set_option maxHeartbeats 16000000 in
theorem query_RightL (q : Qv) (us : List ByteArray) (w : World) (hla : q.a.le 4294967) (hlb : q.b.le 4294967) (hu1 : SlA w 1 q.w us.length (strs us)) (hu3 : ∀ s ∈ us, s.size ≤ 9223372036854775807) : Calls Tryz.prog 116 #[qv q] w fun e w' => e = .returned (.bool (rightQ q us)) ∧ Below w.heap.size w w' := by
  have RES := Lib.hid (show rightQ q us = (decide (1 ≤ q.k) && (decide (q.k ≤ 6) && (isRole q.a && (rises us && (if 5 ≤ q.k then isRole q.b && decide (us.length = 0) else eqRl q.b noR && (decide (us.length ≤ 12) && (if q.k = 4 then decide (us.length = 0) else decide (q.k = 3) || decide (0 < us.length)))))))) from rfl)
  generalize rightQ q us = res at RES ⊢
  obtain ⟨xk, ⟨x1, x2⟩, ⟨x3, x4⟩, wv⟩ := q
  have hmax := hu1.max
  dsimp only at RES hu1 hla hlb
  have IA := Lib.hid (fun W => syn_IsRole ⟨x1, x2⟩ W hla)
  have IB := Lib.hid (fun W => syn_IsRole ⟨x3, x4⟩ W hlb)
  have RI := Lib.hid (fun W (hb : Below w.heap.size w W) => query_rising wv us W (hu1.below hb) hu3)
  generalize isRole ⟨x1, x2⟩ = ra at IA RES
  generalize rises us = ri at RI RES
  obtain ⟨wo, wc, rfl⟩ := hu1.form
  have HT := Lib.hid (show OneAt w #[.int .i64 xk, .string x1, .string x2, .string x3, .string x4, .slice wo us.length wc] (w.alloc (.cells #[.int .i64 xk, .string x1, .string x2, .string x3, .string x4, .slice wo us.length wc] 83)) from ⟨Blk.new w _ _, (Below.refl _ _).alloc (Nat.le_refl _) _⟩)
  clear hla hlb hu1 hu3
  go_enter Tryz.func116, Tryz.ntmps116
  by_cases k1 : xk < 1
  · have d1 : decide (xk < 1) = true := decide_eq_true k1
    have R := Lib.hid (show res = false by rw [RES.out, decide_eq_false (show ¬ 1 ≤ xk by omega)]; rfl)
    clear k1
    go_wp2
    go_ret
    exact ⟨ret_b R.out.symm, HT.out.low⟩
  have d1 : decide (xk < 1) = false := decide_eq_false k1
  by_cases k6 : 6 < xk
  · have d6 : decide (6 < xk) = true := decide_eq_true k6
    have R := Lib.hid (show res = false by rw [RES.out, decide_eq_true (show 1 ≤ xk by omega), decide_eq_false (show ¬ xk ≤ 6 by omega)]; rfl)
    clear k1 k6
    go_wp2
    go_ret
    exact ⟨ret_b R.out.symm, HT.out.low⟩
  have d6 : decide (6 < xk) = false := decide_eq_false k6
  rw [decide_eq_true (show 1 ≤ xk by omega), decide_eq_true (show xk ≤ 6 by omega), Bool.true_and, Bool.true_and] at RES
  have HK := Lib.hid (And.intro k1 k6)
  clear k1 k6
  go_wp2_with fail
  refine (IA.out _).mono ?_
  rintro e w1 ⟨rfl, hb1⟩
  have HT := Lib.hid (HT.out.later hb1)
  clear hb1
  cases ra with
  | false =>
    go_wp2
    go_ret
    exact ⟨ret_b (by rw [RES.out]; rfl), HT.out.low⟩
  | true =>
  rw [Bool.true_and] at RES
  obtain ⟨ca, fa, za⟩ := HT.out.a
  go_wp2_with fail
  refine (RI.out _ HT.out.low).mono ?_
  rintro e wr ⟨rfl, hb1⟩
  have HT := Lib.hid (HT.out.later hb1)
  clear hb1 ca fa za RI
  cases ri with
  | false =>
    go_wp2
    go_ret
    exact ⟨ret_b (by rw [RES.out]; rfl), HT.out.low⟩
  | true =>
  rw [Bool.true_and] at RES
  have hk : xk = 1 ∨ xk = 2 ∨ xk = 3 ∨ xk = 4 ∨ xk = 5 ∨ xk = 6 := by have := HK.out.1; have := HK.out.2; omega
  clear HK d1 d6
  obtain ⟨eb, heb⟩ : ∃ e, eqRl ⟨x3, x4⟩ ⟨emp, emp⟩ = e := ⟨_, rfl⟩
  have HEB := Lib.hid heb
  have RBN := Lib.hid (fun (h : eb = true) => show isRole ⟨x3, x4⟩ = false by rw [show (⟨x3, x4⟩ : Rl) = noR from of_decide_eq_true (heb.trans h)]; exact noR_role)
  clear heb
  rcases hk with rfl | rfl | rfl | rfl | rfl | rfl
  · have RS : Hid (res = (eqRl ⟨x3, x4⟩ noR && (decide (us.length ≤ 12) && decide (0 < us.length)))) := Lib.hid (RES.out.trans (by rfl))
    clear RES
    rw [show eqRl ⟨x3, x4⟩ noR = eb from HEB.out] at RS
    have SE := Lib.hid (fun W => query_secondB 1 W)
    have SB := Lib.hid (show secB 1 = false from rfl)
    rw [SB.out] at SE
    have LE := Lib.hid (fun W => query_least 1 W)
    rw [show leastI 1 = 1 from rfl] at LE
    have HNe := fun W => role_neq x3 x4 emp emp W
    rw [show eqRl ⟨x3, x4⟩ ⟨emp, emp⟩ = eb from HEB.out] at HNe
    cases eb with
    | false =>
      simp only [Bool.not_false] at HNe
      go_wp2_with fail
      refine wp_region_held_drew (S := (fun W => ∀ o, W.cell? ⟨w.heap.size, o, none⟩ = (#[.int .i64 1, .string x1, .string x2, .string x3, .string x4, .slice wo us.length wc] : Array Value)[o]?)) (by kernel_rfl) HT.out.drew.a.1 (fun hHeld => ?_)
      have HT := HT.out.drew
      obtain ⟨wk, hwk⟩ : ∃ W, W = wr.drew := ⟨_, rfl⟩
      rw [← hwk] at HT hHeld ⊢
      clear hwk
      (refine hyes 0 ?_); (refine hyes 1 ?_); (refine hyes 3 ?_); (refine hyes 4 ?_); (refine hyes 5 ?_); (refine hyes 6 ?_); (try simp only [Act.put, List.setIfInBounds_toArray, List.set])
      (refine held_call 2 rfl (by kernel_rfl) (fun K hK => ?_); go_simp)
      go_at_call 170; refine (SE.out _).mono ?_; rintro e wz2 ⟨rfl, rfl⟩
      (refine hK.out _ _ ((HT.a.1)) (fun hHeld => ?_); clear hK K; (try simp only [Act.put, List.setIfInBounds_toArray, List.set]))
      (refine hyes 7 ?_); (refine hyes 8 ?_); (try simp only [Act.put, List.setIfInBounds_toArray, List.set])
      (refine hno 9 ?_); (try simp only [Act.put, List.setIfInBounds_toArray, List.set])
      (refine hno 10 ?_); (try simp only [Act.put, List.setIfInBounds_toArray, List.set])
      (refine hno 11 ?_); (try simp only [Act.put, List.setIfInBounds_toArray, List.set])
      (refine hno 12 ?_); (try simp only [Act.put, List.setIfInBounds_toArray, List.set])
      (refine hno 13 ?_); (try simp only [Act.put, List.setIfInBounds_toArray, List.set])
      (refine hno 14 ?_); (try simp only [Act.put, List.setIfInBounds_toArray, List.set])
      (refine hno 15 ?_); (try simp only [Act.put, List.setIfInBounds_toArray, List.set])
      (refine hno 16 ?_); (try simp only [Act.put, List.setIfInBounds_toArray, List.set])
      (refine hno 17 ?_); (try simp only [Act.put, List.setIfInBounds_toArray, List.set])
      (refine hyes 18 ?_); (try simp only [Act.put, List.setIfInBounds_toArray, List.set])
      refine wpAnyH_done (by kernel_rfl) ?_ _
      have HTr := Lib.hid HT
      clear HT
      go_wp2_with fail
      go_ret
      exact ⟨ret_b (by rw [RS.out]; first | rfl | (simp [noR_role]) | (cases rb <;> simp_all)), HTr.out.low⟩
    | true =>
      simp only [Bool.not_true] at HNe
      go_wp2_with fail
      refine wp_region_held_drew (S := (fun W => ∀ o, W.cell? ⟨w.heap.size, o, none⟩ = (#[.int .i64 1, .string x1, .string x2, .string x3, .string x4, .slice wo us.length wc] : Array Value)[o]?)) (by kernel_rfl) HT.out.drew.a.1 (fun hHeld => ?_)
      have HT := HT.out.drew
      obtain ⟨wk, hwk⟩ : ∃ W, W = wr.drew := ⟨_, rfl⟩
      rw [← hwk] at HT hHeld ⊢
      clear hwk
      (refine hyes 0 ?_); (refine hyes 1 ?_); (refine hyes 3 ?_); (refine hyes 4 ?_); (refine hyes 5 ?_); (refine hyes 6 ?_); (try simp only [Act.put, List.setIfInBounds_toArray, List.set])
      (refine held_call 2 rfl (by kernel_rfl) (fun K hK => ?_); go_simp)
      go_at_call 170; refine (SE.out _).mono ?_; rintro e wz2 ⟨rfl, rfl⟩
      (refine hK.out _ _ ((HT.a.1)) (fun hHeld => ?_); clear hK K; (try simp only [Act.put, List.setIfInBounds_toArray, List.set]))
      (refine hyes 7 ?_); (refine hyes 8 ?_); (refine hyes 9 ?_); (refine hyes 10 ?_); (try simp only [Act.put, List.setIfInBounds_toArray, List.set])
      (refine held_call 11 rfl (by kernel_rfl) (fun K hK => ?_); go_simp)
      go_at_call 170; refine (SE.out _).mono ?_; rintro e wz11 ⟨rfl, rfl⟩
      (refine hK.out _ _ ((HT.a.1)) (fun hHeld => ?_); clear hK K; (try simp only [Act.put, List.setIfInBounds_toArray, List.set]))
      (refine hyes 12 ?_); (try simp only [Act.put, List.setIfInBounds_toArray, List.set])
      (refine hno 13 ?_); (try simp only [Act.put, List.setIfInBounds_toArray, List.set])
      (refine hno 14 ?_); (try simp only [Act.put, List.setIfInBounds_toArray, List.set])
      (refine hno 15 ?_); (try simp only [Act.put, List.setIfInBounds_toArray, List.set])
      (refine hno 16 ?_); (try simp only [Act.put, List.setIfInBounds_toArray, List.set])
      (refine hyes 17 ?_); (refine hyes 18 ?_); (try simp only [Act.put, List.setIfInBounds_toArray, List.set])
      refine wpAnyH_done (by kernel_rfl) ?_ _
      have HTr := Lib.hid HT
      clear HT
      obtain ⟨ca, fa, za⟩ := HTr.out.a
      go_wp2_with fail
      refine (LE.out _).mono ?_
      rintro e wl ⟨rfl, rfl⟩
      by_cases h0 : us.length = 0
      · have e0 : ((us.length : Int) == 0) = true := by rw [beq_iff_eq]; omega
        have e3 : decide ((us.length : Int) ≤ 12) = true := decide_eq_true (by omega)
        have e4 : decide ((1 : Int) ≤ (us.length : Int)) = false := decide_eq_false (by omega)
        have e5 : decide ((0 : Int) ≤ (us.length : Int)) = true := decide_eq_true (by omega)
        rw [h0] at RS
        go_wp2_with fail
        go_ret
        exact ⟨ret_b (by rw [RS.out]; rfl), HTr.out.low⟩
      · by_cases h12 : us.length ≤ 12
        · have e0 : ((us.length : Int) == 0) = false := by rw [beq_eq_false_iff_ne]; omega
          have e3 : decide ((us.length : Int) ≤ 12) = true := decide_eq_true (by omega)
          have e4 : decide ((1 : Int) ≤ (us.length : Int)) = true := decide_eq_true (by omega)
          have e5 : decide ((0 : Int) ≤ (us.length : Int)) = true := decide_eq_true (by omega)
          (try rw [decide_eq_false h0] at RS); (try rw [decide_eq_true h12] at RS); (try rw [decide_eq_true (show 0 < us.length by omega)] at RS)
          go_wp2_with fail
          go_ret
          exact ⟨ret_b (by rw [RS.out]; rfl), HTr.out.low⟩
        · have e0 : ((us.length : Int) == 0) = false := by rw [beq_eq_false_iff_ne]; omega
          have e3 : decide ((us.length : Int) ≤ 12) = false := decide_eq_false (by omega)
          have e4 : decide ((1 : Int) ≤ (us.length : Int)) = true := decide_eq_true (by omega)
          have e5 : decide ((0 : Int) ≤ (us.length : Int)) = true := decide_eq_true (by omega)
          (try rw [decide_eq_false h0] at RS); (try rw [decide_eq_false h12] at RS); (try rw [decide_eq_true (show 0 < us.length by omega)] at RS)
          go_wp2_with fail
          go_ret
          exact ⟨ret_b (by rw [RS.out]; rfl), HTr.out.low⟩
  · have RS : Hid (res = (eqRl ⟨x3, x4⟩ noR && (decide (us.length ≤ 12) && decide (0 < us.length)))) := Lib.hid (RES.out.trans (by rfl))
    clear RES
    rw [show eqRl ⟨x3, x4⟩ noR = eb from HEB.out] at RS
    have SE := Lib.hid (fun W => query_secondB 2 W)
    have SB := Lib.hid (show secB 2 = false from rfl)
    rw [SB.out] at SE
    have LE := Lib.hid (fun W => query_least 2 W)
    rw [show leastI 2 = 1 from rfl] at LE
    have HNe := fun W => role_neq x3 x4 emp emp W
    rw [show eqRl ⟨x3, x4⟩ ⟨emp, emp⟩ = eb from HEB.out] at HNe
    cases eb with
    | false =>
      simp only [Bool.not_false] at HNe
      go_wp2_with fail
      refine wp_region_held_drew (S := (fun W => ∀ o, W.cell? ⟨w.heap.size, o, none⟩ = (#[.int .i64 2, .string x1, .string x2, .string x3, .string x4, .slice wo us.length wc] : Array Value)[o]?)) (by kernel_rfl) HT.out.drew.a.1 (fun hHeld => ?_)
      have HT := HT.out.drew
      obtain ⟨wk, hwk⟩ : ∃ W, W = wr.drew := ⟨_, rfl⟩
      rw [← hwk] at HT hHeld ⊢
      clear hwk
      (refine hyes 0 ?_); (refine hyes 1 ?_); (refine hyes 3 ?_); (refine hyes 4 ?_); (refine hyes 5 ?_); (refine hyes 6 ?_); (try simp only [Act.put, List.setIfInBounds_toArray, List.set])
      (refine held_call 2 rfl (by kernel_rfl) (fun K hK => ?_); go_simp)
      go_at_call 170; refine (SE.out _).mono ?_; rintro e wz2 ⟨rfl, rfl⟩
      (refine hK.out _ _ ((HT.a.1)) (fun hHeld => ?_); clear hK K; (try simp only [Act.put, List.setIfInBounds_toArray, List.set]))
      (refine hyes 7 ?_); (refine hyes 8 ?_); (try simp only [Act.put, List.setIfInBounds_toArray, List.set])
      (refine hno 9 ?_); (try simp only [Act.put, List.setIfInBounds_toArray, List.set])
      (refine hno 10 ?_); (try simp only [Act.put, List.setIfInBounds_toArray, List.set])
      (refine hno 11 ?_); (try simp only [Act.put, List.setIfInBounds_toArray, List.set])
      (refine hno 12 ?_); (try simp only [Act.put, List.setIfInBounds_toArray, List.set])
      (refine hno 13 ?_); (try simp only [Act.put, List.setIfInBounds_toArray, List.set])
      (refine hno 14 ?_); (try simp only [Act.put, List.setIfInBounds_toArray, List.set])
      (refine hno 15 ?_); (try simp only [Act.put, List.setIfInBounds_toArray, List.set])
      (refine hno 16 ?_); (try simp only [Act.put, List.setIfInBounds_toArray, List.set])
      (refine hno 17 ?_); (try simp only [Act.put, List.setIfInBounds_toArray, List.set])
      (refine hyes 18 ?_); (try simp only [Act.put, List.setIfInBounds_toArray, List.set])
      refine wpAnyH_done (by kernel_rfl) ?_ _
      have HTr := Lib.hid HT
      clear HT
      go_wp2_with fail
      go_ret
      exact ⟨ret_b (by rw [RS.out]; first | rfl | (simp [noR_role]) | (cases rb <;> simp_all)), HTr.out.low⟩
    | true =>
      simp only [Bool.not_true] at HNe
      go_wp2_with fail
      refine wp_region_held_drew (S := (fun W => ∀ o, W.cell? ⟨w.heap.size, o, none⟩ = (#[.int .i64 2, .string x1, .string x2, .string x3, .string x4, .slice wo us.length wc] : Array Value)[o]?)) (by kernel_rfl) HT.out.drew.a.1 (fun hHeld => ?_)
      have HT := HT.out.drew
      obtain ⟨wk, hwk⟩ : ∃ W, W = wr.drew := ⟨_, rfl⟩
      rw [← hwk] at HT hHeld ⊢
      clear hwk
      (refine hyes 0 ?_); (refine hyes 1 ?_); (refine hyes 3 ?_); (refine hyes 4 ?_); (refine hyes 5 ?_); (refine hyes 6 ?_); (try simp only [Act.put, List.setIfInBounds_toArray, List.set])
      (refine held_call 2 rfl (by kernel_rfl) (fun K hK => ?_); go_simp)
      go_at_call 170; refine (SE.out _).mono ?_; rintro e wz2 ⟨rfl, rfl⟩
      (refine hK.out _ _ ((HT.a.1)) (fun hHeld => ?_); clear hK K; (try simp only [Act.put, List.setIfInBounds_toArray, List.set]))
      (refine hyes 7 ?_); (refine hyes 8 ?_); (refine hyes 9 ?_); (refine hyes 10 ?_); (try simp only [Act.put, List.setIfInBounds_toArray, List.set])
      (refine held_call 11 rfl (by kernel_rfl) (fun K hK => ?_); go_simp)
      go_at_call 170; refine (SE.out _).mono ?_; rintro e wz11 ⟨rfl, rfl⟩
      (refine hK.out _ _ ((HT.a.1)) (fun hHeld => ?_); clear hK K; (try simp only [Act.put, List.setIfInBounds_toArray, List.set]))
      (refine hyes 12 ?_); (try simp only [Act.put, List.setIfInBounds_toArray, List.set])
      (refine hno 13 ?_); (try simp only [Act.put, List.setIfInBounds_toArray, List.set])
      (refine hno 14 ?_); (try simp only [Act.put, List.setIfInBounds_toArray, List.set])
      (refine hno 15 ?_); (try simp only [Act.put, List.setIfInBounds_toArray, List.set])
      (refine hno 16 ?_); (try simp only [Act.put, List.setIfInBounds_toArray, List.set])
      (refine hyes 17 ?_); (refine hyes 18 ?_); (try simp only [Act.put, List.setIfInBounds_toArray, List.set])
      refine wpAnyH_done (by kernel_rfl) ?_ _
      have HTr := Lib.hid HT
      clear HT
      obtain ⟨ca, fa, za⟩ := HTr.out.a
      go_wp2_with fail
      refine (LE.out _).mono ?_
      rintro e wl ⟨rfl, rfl⟩
      by_cases h0 : us.length = 0
      · have e0 : ((us.length : Int) == 0) = true := by rw [beq_iff_eq]; omega
        have e3 : decide ((us.length : Int) ≤ 12) = true := decide_eq_true (by omega)
        have e4 : decide ((1 : Int) ≤ (us.length : Int)) = false := decide_eq_false (by omega)
        have e5 : decide ((0 : Int) ≤ (us.length : Int)) = true := decide_eq_true (by omega)
        rw [h0] at RS
        go_wp2_with fail
        go_ret
        exact ⟨ret_b (by rw [RS.out]; rfl), HTr.out.low⟩
      · by_cases h12 : us.length ≤ 12
        · have e0 : ((us.length : Int) == 0) = false := by rw [beq_eq_false_iff_ne]; omega
          have e3 : decide ((us.length : Int) ≤ 12) = true := decide_eq_true (by omega)
          have e4 : decide ((1 : Int) ≤ (us.length : Int)) = true := decide_eq_true (by omega)
          have e5 : decide ((0 : Int) ≤ (us.length : Int)) = true := decide_eq_true (by omega)
          (try rw [decide_eq_false h0] at RS); (try rw [decide_eq_true h12] at RS); (try rw [decide_eq_true (show 0 < us.length by omega)] at RS)
          go_wp2_with fail
          go_ret
          exact ⟨ret_b (by rw [RS.out]; rfl), HTr.out.low⟩
        · have e0 : ((us.length : Int) == 0) = false := by rw [beq_eq_false_iff_ne]; omega
          have e3 : decide ((us.length : Int) ≤ 12) = false := decide_eq_false (by omega)
          have e4 : decide ((1 : Int) ≤ (us.length : Int)) = true := decide_eq_true (by omega)
          have e5 : decide ((0 : Int) ≤ (us.length : Int)) = true := decide_eq_true (by omega)
          (try rw [decide_eq_false h0] at RS); (try rw [decide_eq_false h12] at RS); (try rw [decide_eq_true (show 0 < us.length by omega)] at RS)
          go_wp2_with fail
          go_ret
          exact ⟨ret_b (by rw [RS.out]; rfl), HTr.out.low⟩
  · have RS : Hid (res = (eqRl ⟨x3, x4⟩ noR && (decide (us.length ≤ 12) && true))) := Lib.hid (RES.out.trans (by rfl))
    clear RES
    rw [show eqRl ⟨x3, x4⟩ noR = eb from HEB.out] at RS
    have SE := Lib.hid (fun W => query_secondB 3 W)
    have SB := Lib.hid (show secB 3 = false from rfl)
    rw [SB.out] at SE
    have LE := Lib.hid (fun W => query_least 3 W)
    rw [show leastI 3 = 0 from rfl] at LE
    have HNe := fun W => role_neq x3 x4 emp emp W
    rw [show eqRl ⟨x3, x4⟩ ⟨emp, emp⟩ = eb from HEB.out] at HNe
    cases eb with
    | false =>
      simp only [Bool.not_false] at HNe
      go_wp2_with fail
      refine wp_region_held_drew (S := (fun W => ∀ o, W.cell? ⟨w.heap.size, o, none⟩ = (#[.int .i64 3, .string x1, .string x2, .string x3, .string x4, .slice wo us.length wc] : Array Value)[o]?)) (by kernel_rfl) HT.out.drew.a.1 (fun hHeld => ?_)
      have HT := HT.out.drew
      obtain ⟨wk, hwk⟩ : ∃ W, W = wr.drew := ⟨_, rfl⟩
      rw [← hwk] at HT hHeld ⊢
      clear hwk
      (refine hyes 0 ?_); (refine hyes 1 ?_); (refine hyes 3 ?_); (refine hyes 4 ?_); (refine hyes 5 ?_); (refine hyes 6 ?_); (try simp only [Act.put, List.setIfInBounds_toArray, List.set])
      (refine held_call 2 rfl (by kernel_rfl) (fun K hK => ?_); go_simp)
      go_at_call 170; refine (SE.out _).mono ?_; rintro e wz2 ⟨rfl, rfl⟩
      (refine hK.out _ _ ((HT.a.1)) (fun hHeld => ?_); clear hK K; (try simp only [Act.put, List.setIfInBounds_toArray, List.set]))
      (refine hyes 7 ?_); (refine hyes 8 ?_); (try simp only [Act.put, List.setIfInBounds_toArray, List.set])
      (refine hno 9 ?_); (try simp only [Act.put, List.setIfInBounds_toArray, List.set])
      (refine hno 10 ?_); (try simp only [Act.put, List.setIfInBounds_toArray, List.set])
      (refine hno 11 ?_); (try simp only [Act.put, List.setIfInBounds_toArray, List.set])
      (refine hno 12 ?_); (try simp only [Act.put, List.setIfInBounds_toArray, List.set])
      (refine hno 13 ?_); (try simp only [Act.put, List.setIfInBounds_toArray, List.set])
      (refine hno 14 ?_); (try simp only [Act.put, List.setIfInBounds_toArray, List.set])
      (refine hno 15 ?_); (try simp only [Act.put, List.setIfInBounds_toArray, List.set])
      (refine hno 16 ?_); (try simp only [Act.put, List.setIfInBounds_toArray, List.set])
      (refine hno 17 ?_); (try simp only [Act.put, List.setIfInBounds_toArray, List.set])
      (refine hyes 18 ?_); (try simp only [Act.put, List.setIfInBounds_toArray, List.set])
      refine wpAnyH_done (by kernel_rfl) ?_ _
      have HTr := Lib.hid HT
      clear HT
      go_wp2_with fail
      go_ret
      exact ⟨ret_b (by rw [RS.out]; first | rfl | (simp [noR_role]) | (cases rb <;> simp_all)), HTr.out.low⟩
    | true =>
      simp only [Bool.not_true] at HNe
      go_wp2_with fail
      refine wp_region_held_drew (S := (fun W => ∀ o, W.cell? ⟨w.heap.size, o, none⟩ = (#[.int .i64 3, .string x1, .string x2, .string x3, .string x4, .slice wo us.length wc] : Array Value)[o]?)) (by kernel_rfl) HT.out.drew.a.1 (fun hHeld => ?_)
      have HT := HT.out.drew
      obtain ⟨wk, hwk⟩ : ∃ W, W = wr.drew := ⟨_, rfl⟩
      rw [← hwk] at HT hHeld ⊢
      clear hwk
      (refine hyes 0 ?_); (refine hyes 1 ?_); (refine hyes 3 ?_); (refine hyes 4 ?_); (refine hyes 5 ?_); (refine hyes 6 ?_); (try simp only [Act.put, List.setIfInBounds_toArray, List.set])
      (refine held_call 2 rfl (by kernel_rfl) (fun K hK => ?_); go_simp)
      go_at_call 170; refine (SE.out _).mono ?_; rintro e wz2 ⟨rfl, rfl⟩
      (refine hK.out _ _ ((HT.a.1)) (fun hHeld => ?_); clear hK K; (try simp only [Act.put, List.setIfInBounds_toArray, List.set]))
      (refine hyes 7 ?_); (refine hyes 8 ?_); (refine hyes 9 ?_); (refine hyes 10 ?_); (try simp only [Act.put, List.setIfInBounds_toArray, List.set])
      (refine held_call 11 rfl (by kernel_rfl) (fun K hK => ?_); go_simp)
      go_at_call 170; refine (SE.out _).mono ?_; rintro e wz11 ⟨rfl, rfl⟩
      (refine hK.out _ _ ((HT.a.1)) (fun hHeld => ?_); clear hK K; (try simp only [Act.put, List.setIfInBounds_toArray, List.set]))
      (refine hyes 12 ?_); (try simp only [Act.put, List.setIfInBounds_toArray, List.set])
      (refine hno 13 ?_); (try simp only [Act.put, List.setIfInBounds_toArray, List.set])
      (refine hno 14 ?_); (try simp only [Act.put, List.setIfInBounds_toArray, List.set])
      (refine hno 15 ?_); (try simp only [Act.put, List.setIfInBounds_toArray, List.set])
      (refine hno 16 ?_); (try simp only [Act.put, List.setIfInBounds_toArray, List.set])
      (refine hyes 17 ?_); (refine hyes 18 ?_); (try simp only [Act.put, List.setIfInBounds_toArray, List.set])
      refine wpAnyH_done (by kernel_rfl) ?_ _
      have HTr := Lib.hid HT
      clear HT
      obtain ⟨ca, fa, za⟩ := HTr.out.a
      go_wp2_with fail
      refine (LE.out _).mono ?_
      rintro e wl ⟨rfl, rfl⟩
      by_cases h0 : us.length = 0
      · have e0 : ((us.length : Int) == 0) = true := by rw [beq_iff_eq]; omega
        have e3 : decide ((us.length : Int) ≤ 12) = true := decide_eq_true (by omega)
        have e4 : decide ((1 : Int) ≤ (us.length : Int)) = false := decide_eq_false (by omega)
        have e5 : decide ((0 : Int) ≤ (us.length : Int)) = true := decide_eq_true (by omega)
        rw [h0] at RS
        go_wp2_with fail
        go_ret
        exact ⟨ret_b (by rw [RS.out]; rfl), HTr.out.low⟩
      · by_cases h12 : us.length ≤ 12
        · have e0 : ((us.length : Int) == 0) = false := by rw [beq_eq_false_iff_ne]; omega
          have e3 : decide ((us.length : Int) ≤ 12) = true := decide_eq_true (by omega)
          have e4 : decide ((1 : Int) ≤ (us.length : Int)) = true := decide_eq_true (by omega)
          have e5 : decide ((0 : Int) ≤ (us.length : Int)) = true := decide_eq_true (by omega)
          (try rw [decide_eq_false h0] at RS); (try rw [decide_eq_true h12] at RS); (try rw [decide_eq_true (show 0 < us.length by omega)] at RS)
          go_wp2_with fail
          go_ret
          exact ⟨ret_b (by rw [RS.out]; rfl), HTr.out.low⟩
        · have e0 : ((us.length : Int) == 0) = false := by rw [beq_eq_false_iff_ne]; omega
          have e3 : decide ((us.length : Int) ≤ 12) = false := decide_eq_false (by omega)
          have e4 : decide ((1 : Int) ≤ (us.length : Int)) = true := decide_eq_true (by omega)
          have e5 : decide ((0 : Int) ≤ (us.length : Int)) = true := decide_eq_true (by omega)
          (try rw [decide_eq_false h0] at RS); (try rw [decide_eq_false h12] at RS); (try rw [decide_eq_true (show 0 < us.length by omega)] at RS)
          go_wp2_with fail
          go_ret
          exact ⟨ret_b (by rw [RS.out]; rfl), HTr.out.low⟩
  · have RS : Hid (res = (eqRl ⟨x3, x4⟩ noR && (decide (us.length ≤ 12) && decide (us.length = 0)))) := Lib.hid (RES.out.trans (by rfl))
    clear RES
    rw [show eqRl ⟨x3, x4⟩ noR = eb from HEB.out] at RS
    have SE := Lib.hid (fun W => query_secondB 4 W)
    have SB := Lib.hid (show secB 4 = false from rfl)
    rw [SB.out] at SE
    have LE := Lib.hid (fun W => query_least 4 W)
    rw [show leastI 4 = -1 from rfl] at LE
    have HNe := fun W => role_neq x3 x4 emp emp W
    rw [show eqRl ⟨x3, x4⟩ ⟨emp, emp⟩ = eb from HEB.out] at HNe
    cases eb with
    | false =>
      simp only [Bool.not_false] at HNe
      go_wp2_with fail
      refine wp_region_held_drew (S := (fun W => ∀ o, W.cell? ⟨w.heap.size, o, none⟩ = (#[.int .i64 4, .string x1, .string x2, .string x3, .string x4, .slice wo us.length wc] : Array Value)[o]?)) (by kernel_rfl) HT.out.drew.a.1 (fun hHeld => ?_)
      have HT := HT.out.drew
      obtain ⟨wk, hwk⟩ : ∃ W, W = wr.drew := ⟨_, rfl⟩
      rw [← hwk] at HT hHeld ⊢
      clear hwk
      (refine hyes 0 ?_); (refine hyes 1 ?_); (refine hyes 3 ?_); (refine hyes 4 ?_); (refine hyes 5 ?_); (refine hyes 6 ?_); (try simp only [Act.put, List.setIfInBounds_toArray, List.set])
      (refine held_call 2 rfl (by kernel_rfl) (fun K hK => ?_); go_simp)
      go_at_call 170; refine (SE.out _).mono ?_; rintro e wz2 ⟨rfl, rfl⟩
      (refine hK.out _ _ ((HT.a.1)) (fun hHeld => ?_); clear hK K; (try simp only [Act.put, List.setIfInBounds_toArray, List.set]))
      (refine hyes 7 ?_); (refine hyes 8 ?_); (try simp only [Act.put, List.setIfInBounds_toArray, List.set])
      (refine hno 9 ?_); (try simp only [Act.put, List.setIfInBounds_toArray, List.set])
      (refine hno 10 ?_); (try simp only [Act.put, List.setIfInBounds_toArray, List.set])
      (refine hno 11 ?_); (try simp only [Act.put, List.setIfInBounds_toArray, List.set])
      (refine hno 12 ?_); (try simp only [Act.put, List.setIfInBounds_toArray, List.set])
      (refine hno 13 ?_); (try simp only [Act.put, List.setIfInBounds_toArray, List.set])
      (refine hno 14 ?_); (try simp only [Act.put, List.setIfInBounds_toArray, List.set])
      (refine hno 15 ?_); (try simp only [Act.put, List.setIfInBounds_toArray, List.set])
      (refine hno 16 ?_); (try simp only [Act.put, List.setIfInBounds_toArray, List.set])
      (refine hno 17 ?_); (try simp only [Act.put, List.setIfInBounds_toArray, List.set])
      (refine hyes 18 ?_); (try simp only [Act.put, List.setIfInBounds_toArray, List.set])
      refine wpAnyH_done (by kernel_rfl) ?_ _
      have HTr := Lib.hid HT
      clear HT
      go_wp2_with fail
      go_ret
      exact ⟨ret_b (by rw [RS.out]; first | rfl | (simp [noR_role]) | (cases rb <;> simp_all)), HTr.out.low⟩
    | true =>
      simp only [Bool.not_true] at HNe
      go_wp2_with fail
      refine wp_region_held_drew (S := (fun W => ∀ o, W.cell? ⟨w.heap.size, o, none⟩ = (#[.int .i64 4, .string x1, .string x2, .string x3, .string x4, .slice wo us.length wc] : Array Value)[o]?)) (by kernel_rfl) HT.out.drew.a.1 (fun hHeld => ?_)
      have HT := HT.out.drew
      obtain ⟨wk, hwk⟩ : ∃ W, W = wr.drew := ⟨_, rfl⟩
      rw [← hwk] at HT hHeld ⊢
      clear hwk
      (refine hyes 0 ?_); (refine hyes 1 ?_); (refine hyes 3 ?_); (refine hyes 4 ?_); (refine hyes 5 ?_); (refine hyes 6 ?_); (try simp only [Act.put, List.setIfInBounds_toArray, List.set])
      (refine held_call 2 rfl (by kernel_rfl) (fun K hK => ?_); go_simp)
      go_at_call 170; refine (SE.out _).mono ?_; rintro e wz2 ⟨rfl, rfl⟩
      (refine hK.out _ _ ((HT.a.1)) (fun hHeld => ?_); clear hK K; (try simp only [Act.put, List.setIfInBounds_toArray, List.set]))
      (refine hyes 7 ?_); (refine hyes 8 ?_); (refine hyes 9 ?_); (refine hyes 10 ?_); (try simp only [Act.put, List.setIfInBounds_toArray, List.set])
      (refine held_call 11 rfl (by kernel_rfl) (fun K hK => ?_); go_simp)
      go_at_call 170; refine (SE.out _).mono ?_; rintro e wz11 ⟨rfl, rfl⟩
      (refine hK.out _ _ ((HT.a.1)) (fun hHeld => ?_); clear hK K; (try simp only [Act.put, List.setIfInBounds_toArray, List.set]))
      (refine hyes 12 ?_); (try simp only [Act.put, List.setIfInBounds_toArray, List.set])
      (refine hno 13 ?_); (try simp only [Act.put, List.setIfInBounds_toArray, List.set])
      (refine hno 14 ?_); (try simp only [Act.put, List.setIfInBounds_toArray, List.set])
      (refine hno 15 ?_); (try simp only [Act.put, List.setIfInBounds_toArray, List.set])
      (refine hno 16 ?_); (try simp only [Act.put, List.setIfInBounds_toArray, List.set])
      (refine hyes 17 ?_); (refine hyes 18 ?_); (try simp only [Act.put, List.setIfInBounds_toArray, List.set])
      refine wpAnyH_done (by kernel_rfl) ?_ _
      have HTr := Lib.hid HT
      clear HT
      obtain ⟨ca, fa, za⟩ := HTr.out.a
      go_wp2_with fail
      refine (LE.out _).mono ?_
      rintro e wl ⟨rfl, rfl⟩
      by_cases h0 : us.length = 0
      · have e0 : ((us.length : Int) == 0) = true := by rw [beq_iff_eq]; omega
        have e3 : decide ((us.length : Int) ≤ 12) = true := decide_eq_true (by omega)
        have e4 : decide ((1 : Int) ≤ (us.length : Int)) = false := decide_eq_false (by omega)
        have e5 : decide ((0 : Int) ≤ (us.length : Int)) = true := decide_eq_true (by omega)
        rw [h0] at RS
        go_wp2_with fail
        go_ret
        exact ⟨ret_b (by rw [RS.out]; rfl), HTr.out.low⟩
      · by_cases h12 : us.length ≤ 12
        · have e0 : ((us.length : Int) == 0) = false := by rw [beq_eq_false_iff_ne]; omega
          have e3 : decide ((us.length : Int) ≤ 12) = true := decide_eq_true (by omega)
          have e4 : decide ((1 : Int) ≤ (us.length : Int)) = true := decide_eq_true (by omega)
          have e5 : decide ((0 : Int) ≤ (us.length : Int)) = true := decide_eq_true (by omega)
          (try rw [decide_eq_false h0] at RS); (try rw [decide_eq_true h12] at RS); (try rw [decide_eq_true (show 0 < us.length by omega)] at RS)
          go_wp2_with fail
          go_ret
          exact ⟨ret_b (by rw [RS.out]; rfl), HTr.out.low⟩
        · have e0 : ((us.length : Int) == 0) = false := by rw [beq_eq_false_iff_ne]; omega
          have e3 : decide ((us.length : Int) ≤ 12) = false := decide_eq_false (by omega)
          have e4 : decide ((1 : Int) ≤ (us.length : Int)) = true := decide_eq_true (by omega)
          have e5 : decide ((0 : Int) ≤ (us.length : Int)) = true := decide_eq_true (by omega)
          (try rw [decide_eq_false h0] at RS); (try rw [decide_eq_false h12] at RS); (try rw [decide_eq_true (show 0 < us.length by omega)] at RS)
          go_wp2_with fail
          go_ret
          exact ⟨ret_b (by rw [RS.out]; rfl), HTr.out.low⟩
  · have RS : Hid (res = (isRole ⟨x3, x4⟩ && decide (us.length = 0))) := Lib.hid (RES.out.trans (by rfl))
    clear RES
    generalize isRole ⟨x3, x4⟩ = rb at IB RS RBN
    have SE := Lib.hid (fun W => query_secondB 5 W)
    have SB := Lib.hid (show secB 5 = true from rfl)
    rw [SB.out] at SE
    have LE := Lib.hid (fun W => query_least 5 W)
    rw [show leastI 5 = -1 from rfl] at LE
    have HNe := fun W => role_neq x3 x4 emp emp W
    rw [show eqRl ⟨x3, x4⟩ ⟨emp, emp⟩ = eb from HEB.out] at HNe
    cases eb with
    | false =>
      simp only [Bool.not_false] at HNe
      cases rb with
      | false =>
        go_wp2_with fail
        refine wp_region_held_drew (S := (fun W => ∀ o, W.cell? ⟨w.heap.size, o, none⟩ = (#[.int .i64 5, .string x1, .string x2, .string x3, .string x4, .slice wo us.length wc] : Array Value)[o]?)) (by kernel_rfl) HT.out.drew.a.1 (fun hHeld => ?_)
        have HT := HT.out.drew
        obtain ⟨wk, hwk⟩ : ∃ W, W = wr.drew := ⟨_, rfl⟩
        rw [← hwk] at HT hHeld ⊢
        clear hwk
        (refine hyes 0 ?_); (refine hyes 1 ?_); (refine hyes 3 ?_); (refine hyes 4 ?_); (refine hyes 5 ?_); (refine hyes 6 ?_); (try simp only [Act.put, List.setIfInBounds_toArray, List.set])
        (refine held_call 2 rfl (by kernel_rfl) (fun K hK => ?_); go_simp)
        go_at_call 170; refine (SE.out _).mono ?_; rintro e wz2 ⟨rfl, rfl⟩
        (refine hK.out _ _ ((HT.a.1)) (fun hHeld => ?_); clear hK K; (try simp only [Act.put, List.setIfInBounds_toArray, List.set]))
        (refine hyes 7 ?_); (refine hyes 8 ?_); (refine hyes 9 ?_); (refine hyes 10 ?_); (try simp only [Act.put, List.setIfInBounds_toArray, List.set])
        (refine held_call 11 rfl (by kernel_rfl) (fun K hK => ?_); go_simp)
        go_at_call 170; refine (SE.out _).mono ?_; rintro e wz11 ⟨rfl, rfl⟩
        (refine hK.out _ _ ((HT.a.1)) (fun hHeld => ?_); clear hK K; (try simp only [Act.put, List.setIfInBounds_toArray, List.set]))
        (refine hyes 12 ?_); (refine hyes 13 ?_); (refine hyes 14 ?_); (try simp only [Act.put, List.setIfInBounds_toArray, List.set])
        (refine held_call 15 rfl (by kernel_rfl) (fun K hK => ?_); go_simp)
        go_at_call 108; refine (IB.out _).mono ?_; rintro e wz15 ⟨rfl, hbq⟩
        have HT := HT.later hbq
        clear hbq
        (refine hK.out _ _ ((HT.a.1)) (fun hHeld => ?_); clear hK K; (try simp only [Act.put, List.setIfInBounds_toArray, List.set]))
        (refine hyes 16 ?_); (refine hyes 17 ?_); (refine hyes 18 ?_); (try simp only [Act.put, List.setIfInBounds_toArray, List.set])
        refine wpAnyH_done (by kernel_rfl) ?_ _
        have HTr := Lib.hid HT
        clear HT
        go_wp2_with fail
        go_ret
        exact ⟨ret_b (by rw [RS.out]; rfl), HTr.out.low⟩
      | true =>
        go_wp2_with fail
        refine wp_region_held_drew (S := (fun W => ∀ o, W.cell? ⟨w.heap.size, o, none⟩ = (#[.int .i64 5, .string x1, .string x2, .string x3, .string x4, .slice wo us.length wc] : Array Value)[o]?)) (by kernel_rfl) HT.out.drew.a.1 (fun hHeld => ?_)
        have HT := HT.out.drew
        obtain ⟨wk, hwk⟩ : ∃ W, W = wr.drew := ⟨_, rfl⟩
        rw [← hwk] at HT hHeld ⊢
        clear hwk
        (refine hyes 0 ?_); (refine hyes 1 ?_); (refine hyes 3 ?_); (refine hyes 4 ?_); (refine hyes 5 ?_); (refine hyes 6 ?_); (try simp only [Act.put, List.setIfInBounds_toArray, List.set])
        (refine held_call 2 rfl (by kernel_rfl) (fun K hK => ?_); go_simp)
        go_at_call 170; refine (SE.out _).mono ?_; rintro e wz2 ⟨rfl, rfl⟩
        (refine hK.out _ _ ((HT.a.1)) (fun hHeld => ?_); clear hK K; (try simp only [Act.put, List.setIfInBounds_toArray, List.set]))
        (refine hyes 7 ?_); (refine hyes 8 ?_); (refine hyes 9 ?_); (refine hyes 10 ?_); (try simp only [Act.put, List.setIfInBounds_toArray, List.set])
        (refine held_call 11 rfl (by kernel_rfl) (fun K hK => ?_); go_simp)
        go_at_call 170; refine (SE.out _).mono ?_; rintro e wz11 ⟨rfl, rfl⟩
        (refine hK.out _ _ ((HT.a.1)) (fun hHeld => ?_); clear hK K; (try simp only [Act.put, List.setIfInBounds_toArray, List.set]))
        (refine hyes 12 ?_); (refine hyes 13 ?_); (refine hyes 14 ?_); (try simp only [Act.put, List.setIfInBounds_toArray, List.set])
        (refine held_call 15 rfl (by kernel_rfl) (fun K hK => ?_); go_simp)
        go_at_call 108; refine (IB.out _).mono ?_; rintro e wz15 ⟨rfl, hbq⟩
        have HT := HT.later hbq
        clear hbq
        (refine hK.out _ _ ((HT.a.1)) (fun hHeld => ?_); clear hK K; (try simp only [Act.put, List.setIfInBounds_toArray, List.set]))
        (refine hyes 16 ?_); (refine hyes 17 ?_); (refine hyes 18 ?_); (try simp only [Act.put, List.setIfInBounds_toArray, List.set])
        refine wpAnyH_done (by kernel_rfl) ?_ _
        have HTr := Lib.hid HT
        clear HT
        obtain ⟨ca, fa, za⟩ := HTr.out.a
        go_wp2_with fail
        refine (LE.out _).mono ?_
        rintro e wl ⟨rfl, rfl⟩
        by_cases h0 : us.length = 0
        · have e0 : ((us.length : Int) == 0) = true := by rw [beq_iff_eq]; omega
          have e3 : decide ((us.length : Int) ≤ 12) = true := decide_eq_true (by omega)
          have e4 : decide ((1 : Int) ≤ (us.length : Int)) = false := decide_eq_false (by omega)
          have e5 : decide ((0 : Int) ≤ (us.length : Int)) = true := decide_eq_true (by omega)
          rw [h0] at RS
          go_wp2_with fail
          go_ret
          exact ⟨ret_b (by rw [RS.out]; rfl), HTr.out.low⟩
        · by_cases h12 : us.length ≤ 12
          · have e0 : ((us.length : Int) == 0) = false := by rw [beq_eq_false_iff_ne]; omega
            have e3 : decide ((us.length : Int) ≤ 12) = true := decide_eq_true (by omega)
            have e4 : decide ((1 : Int) ≤ (us.length : Int)) = true := decide_eq_true (by omega)
            have e5 : decide ((0 : Int) ≤ (us.length : Int)) = true := decide_eq_true (by omega)
            (try rw [decide_eq_false h0] at RS); (try rw [decide_eq_true h12] at RS); (try rw [decide_eq_true (show 0 < us.length by omega)] at RS)
            go_wp2_with fail
            go_ret
            exact ⟨ret_b (by rw [RS.out]; rfl), HTr.out.low⟩
          · have e0 : ((us.length : Int) == 0) = false := by rw [beq_eq_false_iff_ne]; omega
            have e3 : decide ((us.length : Int) ≤ 12) = false := decide_eq_false (by omega)
            have e4 : decide ((1 : Int) ≤ (us.length : Int)) = true := decide_eq_true (by omega)
            have e5 : decide ((0 : Int) ≤ (us.length : Int)) = true := decide_eq_true (by omega)
            (try rw [decide_eq_false h0] at RS); (try rw [decide_eq_false h12] at RS); (try rw [decide_eq_true (show 0 < us.length by omega)] at RS)
            go_wp2_with fail
            go_ret
            exact ⟨ret_b (by rw [RS.out]; rfl), HTr.out.low⟩
    | true =>
      simp only [Bool.not_true] at HNe
      go_wp2_with fail
      refine wp_region_held_drew (S := (fun W => ∀ o, W.cell? ⟨w.heap.size, o, none⟩ = (#[.int .i64 5, .string x1, .string x2, .string x3, .string x4, .slice wo us.length wc] : Array Value)[o]?)) (by kernel_rfl) HT.out.drew.a.1 (fun hHeld => ?_)
      have HT := HT.out.drew
      obtain ⟨wk, hwk⟩ : ∃ W, W = wr.drew := ⟨_, rfl⟩
      rw [← hwk] at HT hHeld ⊢
      clear hwk
      (refine hyes 0 ?_); (refine hyes 1 ?_); (refine hyes 3 ?_); (refine hyes 4 ?_); (refine hyes 5 ?_); (refine hyes 6 ?_); (try simp only [Act.put, List.setIfInBounds_toArray, List.set])
      (refine held_call 2 rfl (by kernel_rfl) (fun K hK => ?_); go_simp)
      go_at_call 170; refine (SE.out _).mono ?_; rintro e wz2 ⟨rfl, rfl⟩
      (refine hK.out _ _ ((HT.a.1)) (fun hHeld => ?_); clear hK K; (try simp only [Act.put, List.setIfInBounds_toArray, List.set]))
      (refine hyes 7 ?_); (refine hyes 8 ?_); (try simp only [Act.put, List.setIfInBounds_toArray, List.set])
      (refine hno 9 ?_); (try simp only [Act.put, List.setIfInBounds_toArray, List.set])
      (refine hno 10 ?_); (try simp only [Act.put, List.setIfInBounds_toArray, List.set])
      (refine hno 11 ?_); (try simp only [Act.put, List.setIfInBounds_toArray, List.set])
      (refine hno 12 ?_); (try simp only [Act.put, List.setIfInBounds_toArray, List.set])
      (refine hno 13 ?_); (try simp only [Act.put, List.setIfInBounds_toArray, List.set])
      (refine hno 14 ?_); (try simp only [Act.put, List.setIfInBounds_toArray, List.set])
      (refine hno 15 ?_); (try simp only [Act.put, List.setIfInBounds_toArray, List.set])
      (refine hno 16 ?_); (try simp only [Act.put, List.setIfInBounds_toArray, List.set])
      (refine hno 17 ?_); (try simp only [Act.put, List.setIfInBounds_toArray, List.set])
      (refine hyes 18 ?_); (try simp only [Act.put, List.setIfInBounds_toArray, List.set])
      refine wpAnyH_done (by kernel_rfl) ?_ _
      have HTr := Lib.hid HT
      clear HT
      go_wp2_with fail
      go_ret
      exact ⟨ret_b (by rw [RS.out, RBN.out (by first | rfl | trivial)]; rfl), HTr.out.low⟩
  · have RS : Hid (res = (isRole ⟨x3, x4⟩ && decide (us.length = 0))) := Lib.hid (RES.out.trans (by rfl))
    clear RES
    generalize isRole ⟨x3, x4⟩ = rb at IB RS RBN
    have SE := Lib.hid (fun W => query_secondB 6 W)
    have SB := Lib.hid (show secB 6 = true from rfl)
    rw [SB.out] at SE
    have LE := Lib.hid (fun W => query_least 6 W)
    rw [show leastI 6 = -1 from rfl] at LE
    have HNe := fun W => role_neq x3 x4 emp emp W
    rw [show eqRl ⟨x3, x4⟩ ⟨emp, emp⟩ = eb from HEB.out] at HNe
    cases eb with
    | false =>
      simp only [Bool.not_false] at HNe
      cases rb with
      | false =>
        go_wp2_with fail
        refine wp_region_held_drew (S := (fun W => ∀ o, W.cell? ⟨w.heap.size, o, none⟩ = (#[.int .i64 6, .string x1, .string x2, .string x3, .string x4, .slice wo us.length wc] : Array Value)[o]?)) (by kernel_rfl) HT.out.drew.a.1 (fun hHeld => ?_)
        have HT := HT.out.drew
        obtain ⟨wk, hwk⟩ : ∃ W, W = wr.drew := ⟨_, rfl⟩
        rw [← hwk] at HT hHeld ⊢
        clear hwk
        (refine hyes 0 ?_); (refine hyes 1 ?_); (refine hyes 3 ?_); (refine hyes 4 ?_); (refine hyes 5 ?_); (refine hyes 6 ?_); (try simp only [Act.put, List.setIfInBounds_toArray, List.set])
        (refine held_call 2 rfl (by kernel_rfl) (fun K hK => ?_); go_simp)
        go_at_call 170; refine (SE.out _).mono ?_; rintro e wz2 ⟨rfl, rfl⟩
        (refine hK.out _ _ ((HT.a.1)) (fun hHeld => ?_); clear hK K; (try simp only [Act.put, List.setIfInBounds_toArray, List.set]))
        (refine hyes 7 ?_); (refine hyes 8 ?_); (refine hyes 9 ?_); (refine hyes 10 ?_); (try simp only [Act.put, List.setIfInBounds_toArray, List.set])
        (refine held_call 11 rfl (by kernel_rfl) (fun K hK => ?_); go_simp)
        go_at_call 170; refine (SE.out _).mono ?_; rintro e wz11 ⟨rfl, rfl⟩
        (refine hK.out _ _ ((HT.a.1)) (fun hHeld => ?_); clear hK K; (try simp only [Act.put, List.setIfInBounds_toArray, List.set]))
        (refine hyes 12 ?_); (refine hyes 13 ?_); (refine hyes 14 ?_); (try simp only [Act.put, List.setIfInBounds_toArray, List.set])
        (refine held_call 15 rfl (by kernel_rfl) (fun K hK => ?_); go_simp)
        go_at_call 108; refine (IB.out _).mono ?_; rintro e wz15 ⟨rfl, hbq⟩
        have HT := HT.later hbq
        clear hbq
        (refine hK.out _ _ ((HT.a.1)) (fun hHeld => ?_); clear hK K; (try simp only [Act.put, List.setIfInBounds_toArray, List.set]))
        (refine hyes 16 ?_); (refine hyes 17 ?_); (refine hyes 18 ?_); (try simp only [Act.put, List.setIfInBounds_toArray, List.set])
        refine wpAnyH_done (by kernel_rfl) ?_ _
        have HTr := Lib.hid HT
        clear HT
        go_wp2_with fail
        go_ret
        exact ⟨ret_b (by rw [RS.out]; rfl), HTr.out.low⟩
      | true =>
        go_wp2_with fail
        refine wp_region_held_drew (S := (fun W => ∀ o, W.cell? ⟨w.heap.size, o, none⟩ = (#[.int .i64 6, .string x1, .string x2, .string x3, .string x4, .slice wo us.length wc] : Array Value)[o]?)) (by kernel_rfl) HT.out.drew.a.1 (fun hHeld => ?_)
        have HT := HT.out.drew
        obtain ⟨wk, hwk⟩ : ∃ W, W = wr.drew := ⟨_, rfl⟩
        rw [← hwk] at HT hHeld ⊢
        clear hwk
        (refine hyes 0 ?_); (refine hyes 1 ?_); (refine hyes 3 ?_); (refine hyes 4 ?_); (refine hyes 5 ?_); (refine hyes 6 ?_); (try simp only [Act.put, List.setIfInBounds_toArray, List.set])
        (refine held_call 2 rfl (by kernel_rfl) (fun K hK => ?_); go_simp)
        go_at_call 170; refine (SE.out _).mono ?_; rintro e wz2 ⟨rfl, rfl⟩
        (refine hK.out _ _ ((HT.a.1)) (fun hHeld => ?_); clear hK K; (try simp only [Act.put, List.setIfInBounds_toArray, List.set]))
        (refine hyes 7 ?_); (refine hyes 8 ?_); (refine hyes 9 ?_); (refine hyes 10 ?_); (try simp only [Act.put, List.setIfInBounds_toArray, List.set])
        (refine held_call 11 rfl (by kernel_rfl) (fun K hK => ?_); go_simp)
        go_at_call 170; refine (SE.out _).mono ?_; rintro e wz11 ⟨rfl, rfl⟩
        (refine hK.out _ _ ((HT.a.1)) (fun hHeld => ?_); clear hK K; (try simp only [Act.put, List.setIfInBounds_toArray, List.set]))
        (refine hyes 12 ?_); (refine hyes 13 ?_); (refine hyes 14 ?_); (try simp only [Act.put, List.setIfInBounds_toArray, List.set])
        (refine held_call 15 rfl (by kernel_rfl) (fun K hK => ?_); go_simp)
        go_at_call 108; refine (IB.out _).mono ?_; rintro e wz15 ⟨rfl, hbq⟩
        have HT := HT.later hbq
        clear hbq
        (refine hK.out _ _ ((HT.a.1)) (fun hHeld => ?_); clear hK K; (try simp only [Act.put, List.setIfInBounds_toArray, List.set]))
        (refine hyes 16 ?_); (refine hyes 17 ?_); (refine hyes 18 ?_); (try simp only [Act.put, List.setIfInBounds_toArray, List.set])
        refine wpAnyH_done (by kernel_rfl) ?_ _
        have HTr := Lib.hid HT
        clear HT
        obtain ⟨ca, fa, za⟩ := HTr.out.a
        go_wp2_with fail
        refine (LE.out _).mono ?_
        rintro e wl ⟨rfl, rfl⟩
        by_cases h0 : us.length = 0
        · have e0 : ((us.length : Int) == 0) = true := by rw [beq_iff_eq]; omega
          have e3 : decide ((us.length : Int) ≤ 12) = true := decide_eq_true (by omega)
          have e4 : decide ((1 : Int) ≤ (us.length : Int)) = false := decide_eq_false (by omega)
          have e5 : decide ((0 : Int) ≤ (us.length : Int)) = true := decide_eq_true (by omega)
          rw [h0] at RS
          go_wp2_with fail
          go_ret
          exact ⟨ret_b (by rw [RS.out]; rfl), HTr.out.low⟩
        · by_cases h12 : us.length ≤ 12
          · have e0 : ((us.length : Int) == 0) = false := by rw [beq_eq_false_iff_ne]; omega
            have e3 : decide ((us.length : Int) ≤ 12) = true := decide_eq_true (by omega)
            have e4 : decide ((1 : Int) ≤ (us.length : Int)) = true := decide_eq_true (by omega)
            have e5 : decide ((0 : Int) ≤ (us.length : Int)) = true := decide_eq_true (by omega)
            (try rw [decide_eq_false h0] at RS); (try rw [decide_eq_true h12] at RS); (try rw [decide_eq_true (show 0 < us.length by omega)] at RS)
            go_wp2_with fail
            go_ret
            exact ⟨ret_b (by rw [RS.out]; rfl), HTr.out.low⟩
          · have e0 : ((us.length : Int) == 0) = false := by rw [beq_eq_false_iff_ne]; omega
            have e3 : decide ((us.length : Int) ≤ 12) = false := decide_eq_false (by omega)
            have e4 : decide ((1 : Int) ≤ (us.length : Int)) = true := decide_eq_true (by omega)
            have e5 : decide ((0 : Int) ≤ (us.length : Int)) = true := decide_eq_true (by omega)
            (try rw [decide_eq_false h0] at RS); (try rw [decide_eq_false h12] at RS); (try rw [decide_eq_true (show 0 < us.length by omega)] at RS)
            go_wp2_with fail
            go_ret
            exact ⟨ret_b (by rw [RS.out]; rfl), HTr.out.low⟩
    | true =>
      simp only [Bool.not_true] at HNe
      go_wp2_with fail
      refine wp_region_held_drew (S := (fun W => ∀ o, W.cell? ⟨w.heap.size, o, none⟩ = (#[.int .i64 6, .string x1, .string x2, .string x3, .string x4, .slice wo us.length wc] : Array Value)[o]?)) (by kernel_rfl) HT.out.drew.a.1 (fun hHeld => ?_)
      have HT := HT.out.drew
      obtain ⟨wk, hwk⟩ : ∃ W, W = wr.drew := ⟨_, rfl⟩
      rw [← hwk] at HT hHeld ⊢
      clear hwk
      (refine hyes 0 ?_); (refine hyes 1 ?_); (refine hyes 3 ?_); (refine hyes 4 ?_); (refine hyes 5 ?_); (refine hyes 6 ?_); (try simp only [Act.put, List.setIfInBounds_toArray, List.set])
      (refine held_call 2 rfl (by kernel_rfl) (fun K hK => ?_); go_simp)
      go_at_call 170; refine (SE.out _).mono ?_; rintro e wz2 ⟨rfl, rfl⟩
      (refine hK.out _ _ ((HT.a.1)) (fun hHeld => ?_); clear hK K; (try simp only [Act.put, List.setIfInBounds_toArray, List.set]))
      (refine hyes 7 ?_); (refine hyes 8 ?_); (try simp only [Act.put, List.setIfInBounds_toArray, List.set])
      (refine hno 9 ?_); (try simp only [Act.put, List.setIfInBounds_toArray, List.set])
      (refine hno 10 ?_); (try simp only [Act.put, List.setIfInBounds_toArray, List.set])
      (refine hno 11 ?_); (try simp only [Act.put, List.setIfInBounds_toArray, List.set])
      (refine hno 12 ?_); (try simp only [Act.put, List.setIfInBounds_toArray, List.set])
      (refine hno 13 ?_); (try simp only [Act.put, List.setIfInBounds_toArray, List.set])
      (refine hno 14 ?_); (try simp only [Act.put, List.setIfInBounds_toArray, List.set])
      (refine hno 15 ?_); (try simp only [Act.put, List.setIfInBounds_toArray, List.set])
      (refine hno 16 ?_); (try simp only [Act.put, List.setIfInBounds_toArray, List.set])
      (refine hno 17 ?_); (try simp only [Act.put, List.setIfInBounds_toArray, List.set])
      (refine hyes 18 ?_); (try simp only [Act.put, List.setIfInBounds_toArray, List.set])
      refine wpAnyH_done (by kernel_rfl) ?_ _
      have HTr := Lib.hid HT
      clear HT
      go_wp2_with fail
      go_ret
      exact ⟨ret_b (by rw [RS.out, RBN.out (by first | rfl | trivial)]; rfl), HTr.out.low⟩
end Go.Proofs.YtomhekohcadijaaGreatDoor
