/- query.second, least, Universal, rising, Right (printed by gen_qright.py). Queries and their lines, in plain Lean: what the reader of package query makes of tokens, and the document's answer. The plain law of queries: what the reader makes of any tokens is what the document says. -/
import Derived.Test.YtnhkgfgbhedphaaGreatDoorPart8
import Derived.Test.YtnhkgfgbhedphaaGreatDoorPart7
import Derived.Test.YtnhkgfgbhedphaaGreatDoorPart3
namespace Go.Proofs.YtnhkgfgbhedphaaGreatDoor
open Go.RowKit Go.Shelf

def secB (k : Int) : Bool := decide (k = 5) || decide (k = 6)
def leastI (k : Int) : Int := if k = 1 ∨ k = 2 then 1 else if k = 3 then 0 else -1
def univB (k : Int) : Bool := decide (k = 1) || decide (k = 3) || decide (k = 5) || decide (k = 6)
theorem query_secondB (k : Int) (w : World) : Calls Tryz.prog 123 #[.int .i64 k] w fun e w' => e = .returned (.bool (secB k)) ∧ w' = w := by
  have R := Lib.hid (show secB k = (decide (k = 5) || decide (k = 6)) from rfl)
  generalize secB k = r at *
  go_enter Tryz.func123, Tryz.ntmps123
  by_cases h5 : k = 5
  · have d5 : (k == 5) = true := by simp [h5]
    have R2 := Lib.hid (show r = true by rw [R.out, decide_eq_true h5]; rfl)
    clear h5
    go_wp2
    go_ret
    exact ⟨ret_b R2.out.symm, rfl⟩
  · have d5 : (k == 5) = false := by simp [h5]
    by_cases h6 : k = 6
    · have d6 : (k == 6) = true := by simp [h6]
      have R2 := Lib.hid (show r = true by rw [R.out, decide_eq_true h6, Bool.or_true])
      clear h5 h6
      go_wp2
      go_ret
      exact ⟨ret_b R2.out.symm, rfl⟩
    · have d6 : (k == 6) = false := by simp [h6]
      have R2 := Lib.hid (show r = false by rw [R.out, decide_eq_false h5, decide_eq_false h6]; rfl)
      clear h5 h6
      go_wp2
      go_ret
      exact ⟨ret_b R2.out.symm, rfl⟩
theorem query_least (k : Int) (w : World) : Calls Tryz.prog 130 #[.int .i64 k] w fun e w' => e = .returned (.int .i64 (leastI k)) ∧ w' = w := by
  have R := Lib.hid (show leastI k = if k = 1 ∨ k = 2 then 1 else if k = 3 then 0 else -1 from rfl)
  generalize leastI k = r at *
  go_enter Tryz.func130, Tryz.ntmps130
  by_cases h1 : k = 1
  · have d1 : (k == 1) = true := by simp [h1]
    have R2 := Lib.hid (show r = 1 by rw [R.out, if_pos (.inl h1)])
    clear h1
    go_wp2
    go_ret
    exact ⟨ret_int R2.out.symm, rfl⟩
  have d1 : (k == 1) = false := by simp [h1]
  by_cases h2 : k = 2
  · have d2 : (k == 2) = true := by simp [h2]
    have R2 := Lib.hid (show r = 1 by rw [R.out, if_pos (.inr h2)])
    clear h1 h2
    go_wp2
    go_ret
    exact ⟨ret_int R2.out.symm, rfl⟩
  have d2 : (k == 2) = false := by simp [h2]
  by_cases h3 : k = 3
  · have d3 : (k == 3) = true := by simp [h3]
    have R2 := Lib.hid (show r = 0 by rw [R.out, if_neg (by omega), if_pos h3])
    clear h1 h2 h3
    go_wp2
    go_ret
    exact ⟨ret_int R2.out.symm, rfl⟩
  · have d3 : (k == 3) = false := by simp [h3]
    have R2 := Lib.hid (show r = -1 by rw [R.out, if_neg (by omega), if_neg h3])
    clear h1 h2 h3
    go_wp2
    go_ret
    exact ⟨ret_int R2.out.symm, rfl⟩
theorem query_Universal (k : Int) (w : World) : Calls Tryz.prog 188 #[.int .i64 k] w fun e w' => e = .returned (.bool (univB k)) ∧ w' = w := by
  have R := Lib.hid (show univB k = (decide (k = 1) || decide (k = 3) || decide (k = 5) || decide (k = 6)) from rfl)
  generalize univB k = r at *
  go_enter Tryz.func188, Tryz.ntmps188
  by_cases h1 : k = 1
  · have d1 : (k == 1) = true := by simp [h1]
    have R2 := Lib.hid (show r = true by rw [R.out, decide_eq_true h1]; rfl)
    clear h1
    go_wp2
    go_ret
    exact ⟨ret_b R2.out.symm, rfl⟩
  have d1 : (k == 1) = false := by simp [h1]
  by_cases h3 : k = 3
  · have d3 : (k == 3) = true := by simp [h3]
    have R2 := Lib.hid (show r = true by rw [R.out, decide_eq_true h3, Bool.or_true]; rfl)
    clear h1 h3
    go_wp2
    go_ret
    exact ⟨ret_b R2.out.symm, rfl⟩
  have d3 : (k == 3) = false := by simp [h3]
  by_cases h5 : k = 5
  · have d5 : (k == 5) = true := by simp [h5]
    have R2 := Lib.hid (show r = true by rw [R.out, decide_eq_true h5, Bool.or_true]; rfl)
    clear h1 h3 h5
    go_wp2
    go_ret
    exact ⟨ret_b R2.out.symm, rfl⟩
  have d5 : (k == 5) = false := by simp [h5]
  by_cases h6 : k = 6
  · have d6 : (k == 6) = true := by simp [h6]
    have R2 := Lib.hid (show r = true by rw [R.out, decide_eq_true h6, Bool.or_true])
    clear h1 h3 h5 h6
    go_wp2
    go_ret
    exact ⟨ret_b R2.out.symm, rfl⟩
  · have d6 : (k == 6) = false := by simp [h6]
    have R2 := Lib.hid (show r = false by rw [R.out, decide_eq_false h1, decide_eq_false h3, decide_eq_false h5, decide_eq_false h6]; rfl)
    clear h1 h3 h5 h6
    go_wp2
    go_ret
    exact ⟨ret_b R2.out.symm, rfl⟩
theorem less_rev {a b : ByteArray} (h : Op.bytesLess a.toList b.toList = true) : Op.bytesLess b.toList a.toList = false ∧ (b.toList == a.toList) = false := by
  rw [← str_less, decide_eq_true_iff] at h
  have h2 := cmpS_neg a b
  refine ⟨by rw [← str_less, decide_eq_false_iff_not]; omega, ?_⟩
  rw [beq_str, decide_eq_false_iff_not]
  intro e
  have := (cmpS_zero b a).2 e
  omega
theorem less_not {a b : ByteArray} (h : Op.bytesLess a.toList b.toList = false) : Op.bytesLess b.toList a.toList = true ∨ (b.toList == a.toList) = true := by
  rw [← str_less, decide_eq_false_iff_not] at h
  have h2 := cmpS_neg a b
  by_cases e : b = a
  · exact .inr (by rw [beq_str, e]; exact decide_eq_true rfl)
  · have : ¬ cmpS b a = 0 := fun h' => e ((cmpS_zero b a).1 h')
    exact .inl (by rw [← str_less, decide_eq_true_iff]; omega)
set_option maxRecDepth 100000 in
set_option maxHeartbeats 2000000 in
theorem query_rising (v : Value) (us : List ByteArray) (w : World) (hu : SlA w 1 v us.length (strs us)) (hz : ∀ s ∈ us, s.size ≤ 9223372036854775807) : Calls Tryz.prog 129 #[v] w fun e w' => e = .returned (.bool (rises us)) ∧ Below w.heap.size w w' := by
  have HU := Lib.hid hu
  have HUZ := Lib.hid hz
  have hmax := hu.max
  obtain ⟨wo, wc, rfl⟩ := hu.form
  clear hu hz
  have RY := Lib.hid (fun k (hk : ¬ k < us.length) h => rises_yes (us := us) (k := k) hk h)
  have RN := Lib.hid (fun k (hk : k < us.length) h => rises_no (us := us) (k := k) hk h)
  generalize rises us = res at RY RN ⊢
  go_enter Tryz.func129, Tryz.ntmps129
  go_wp2_with fail
  go_loopw [7] (fun i wr => ∃ k : Nat, k ≤ us.length ∧ i = .int .i64 k ∧ Hid (Below w.heap.size w wr) ∧ Hid (∀ j, j < k → risesAt us j = true)) (fun i _ => us.length - (intOf i).toNat)
  case atStart => exact ⟨0, by omega, rfl, Lib.hid (Below.refl _ _), Lib.hid (fun j h => absurd h (by omega))⟩
  case round =>
    obtain ⟨k, hk, rfl, HB, HJ⟩ := hrel
    by_cases hlt : k < us.length
    · obtain ⟨b1, o1, c1, he1, hc1, hm1, hb1, hx1⟩ := HU.out.pos (by omega)
      simp only [Value.slice.injEq, true_and] at he1
      obtain ⟨rfl, rfl⟩ := he1
      have p0 := (HB.out.cell (p := ⟨b1, o1 + k, none⟩) hb1).trans (hx1 k _ (strs_get hlt))
      have hbr : b1 < wr.heap.size := Nat.lt_of_lt_of_le hb1 HB.out.size
      have IP := Lib.hid (fun W => names_IsPrin us[k] W (HUZ.out _ (List.getElem_mem hlt)))
      have HRA := Lib.hid (show risesAt us k = (isP 65 90 (bl us[k]) && (decide (k = 0) || Op.bytesLess (us.getD (k - 1) emp).toList us[k].toList)) by unfold risesAt; rw [getD_at hlt])
      have HJS : Hid (risesAt us k = true → ∀ j, j < k + 1 → risesAt us j = true) := Lib.hid (fun h j hj => by
        by_cases e : j = k
        · rw [e]; exact h
        · exact HJ.out j (by omega))
      have HNO := Lib.hid (fun (h : risesAt us k = false) => RN.out k hlt h)
      generalize isP 65 90 (bl us[k]) = rp at IP HRA
      cases rp with
      | false =>
        clear hx1
        go_wp2_with fail
        refine (IP.out _).mono ?_
        rintro e w2 ⟨rfl, rfl⟩
        go_wp2
        go_ret
        exact ⟨ret_b (HNO.out (by rw [HRA.out]; rfl)).symm, HB.out⟩
      | true =>
        by_cases hk0 : k = 0
        · have dk : decide (0 < k) = false := by (rw [decide_eq_false_iff_not]; omega)
          have HS := Lib.hid (HJS.out (by rw [HRA.out, decide_eq_true hk0]; rfl))
          clear hx1 hk0
          go_wp2_with fail
          refine (IP.out _).mono ?_
          rintro e w2 ⟨rfl, rfl⟩
          go_wp2
          exact ⟨⟨k + 1, by omega, by go_num, HB, HS⟩, by simp [intOf]; omega⟩
        · obtain ⟨m, hm⟩ : ∃ m, k = m + 1 := ⟨k - 1, by omega⟩
          have dk : decide (0 < k) = true := by (rw [decide_eq_true_iff]; omega)
          have hw1 : IntKind.i64.wrap ((k : Int) - 1) = (m : Int) := by rw [show (k : Int) - 1 = (m : Int) by omega]; exact Go.IntWalk.i64_in _ (by omega)
          have hml : m < us.length := by omega
          have hmi : (0 : Int) ≤ (m : Int) := by omega
          have q0 := (HB.out.cell (p := ⟨b1, o1 + m, none⟩) hb1).trans (hx1 m _ (strs_get hml))
          rw [decide_eq_false hk0, Bool.false_or, show k - 1 = m by omega, getD_at hml, Bool.true_and] at HRA
          clear hx1 hk0 hm
          go_wp2_with fail
          refine (IP.out _).mono ?_
          rintro e w2 ⟨rfl, rfl⟩
          generalize us[k] = sk at *
          generalize us[m] = sm at *
          cases hbl : Op.bytesLess sm.toList sk.toList with
          | false =>
            have HBL := Lib.hid hbl
            rcases less_not hbl with hl | hl <;> clear hbl
            all_goals
              go_wp2
              go_ret
              exact ⟨ret_b (HNO.out (by rw [HRA.out]; exact HBL.out)).symm, HB.out⟩
          | true =>
            obtain ⟨hl1, hl2⟩ := less_rev hbl
            have HS := Lib.hid (HJS.out (by rw [HRA.out]; exact hbl))
            go_wp2
            exact ⟨⟨k + 1, by omega, by go_num, HB, HS⟩, by simp [intOf]; omega⟩
    · have R := Lib.hid (RY.out k hlt HJ.out)
      go_wp2
      go_ret
      exact ⟨ret_b R.out.symm, HB.out⟩
theorem noR_role : isRole noR = false := by kernel_rfl
set_option maxRecDepth 100000 in
set_option maxHeartbeats 16000000 in
theorem query_RightL (q : Qv) (us : List ByteArray) (w : World) (hla : q.a.le 4294967) (hlb : q.b.le 4294967) (hu1 : SlA w 1 q.w us.length (strs us)) (hu3 : ∀ s ∈ us, s.size ≤ 9223372036854775807) : Calls Tryz.prog 78 #[qv q] w fun e w' => e = .returned (.bool (rightQ q us)) ∧ Below w.heap.size w w' := by
  have RES := Lib.hid (show rightQ q us = (decide (1 ≤ q.k) && (decide (q.k ≤ 6) && (isRole q.a && (rises us && (if 5 ≤ q.k then isRole q.b && decide (us.length = 0) else eqRl q.b noR && (decide (us.length ≤ 12) && (if q.k = 4 then decide (us.length = 0) else decide (q.k = 3) || decide (0 < us.length)))))))) from rfl)
  generalize rightQ q us = res at RES ⊢
  obtain ⟨xk, ⟨x1, x2⟩, ⟨x3, x4⟩, wv⟩ := q
  have hmax := hu1.max
  dsimp only at RES hu1 hla hlb
  have IA := Lib.hid (fun W => syn_IsRole ⟨x1, x2⟩ W hla)
  have IB := Lib.hid (fun W => syn_IsRole ⟨x3, x4⟩ W hlb)
  have RI := Lib.hid (fun W (hb : Below w.heap.size w W) => query_rising wv us W (hu1.below hb) hu3)
  generalize isRole ⟨x1, x2⟩ = ra at IA RES
  generalize rises us = ri at RI RES
  obtain ⟨wo, wc, rfl⟩ := hu1.form
  have HT := Lib.hid (show OneAt w #[.int .i64 xk, .string x1, .string x2, .string x3, .string x4, .slice wo us.length wc] (w.alloc (.cells #[.int .i64 xk, .string x1, .string x2, .string x3, .string x4, .slice wo us.length wc] 66)) from ⟨Blk.new w _ _, (Below.refl _ _).alloc (Nat.le_refl _) _⟩)
  clear hla hlb hu1 hu3
  go_enter Tryz.func78, Tryz.ntmps78
  by_cases k1 : xk < 1
  · have d1 : decide (xk < 1) = true := decide_eq_true k1
    have R := Lib.hid (show res = false by rw [RES.out, decide_eq_false (show ¬ 1 ≤ xk by omega)]; rfl)
    clear k1
    go_wp2
    go_ret
    exact ⟨ret_b R.out.symm, HT.out.low⟩
  have d1 : decide (xk < 1) = false := decide_eq_false k1
  by_cases k6 : 6 < xk
  · have d6 : decide (6 < xk) = true := decide_eq_true k6
    have R := Lib.hid (show res = false by rw [RES.out, decide_eq_true (show 1 ≤ xk by omega), decide_eq_false (show ¬ xk ≤ 6 by omega)]; rfl)
    clear k1 k6
    go_wp2
    go_ret
    exact ⟨ret_b R.out.symm, HT.out.low⟩
  have d6 : decide (6 < xk) = false := decide_eq_false k6
  rw [decide_eq_true (show 1 ≤ xk by omega), decide_eq_true (show xk ≤ 6 by omega), Bool.true_and, Bool.true_and] at RES
  have HK := Lib.hid (And.intro k1 k6)
  clear k1 k6
  go_wp2_with fail
  refine (IA.out _).mono ?_
  rintro e w1 ⟨rfl, hb1⟩
  have HT := Lib.hid (HT.out.later hb1)
  clear hb1
  cases ra with
  | false =>
    go_wp2
    go_ret
    exact ⟨ret_b (by rw [RES.out]; rfl), HT.out.low⟩
  | true =>
  rw [Bool.true_and] at RES
  obtain ⟨ca, fa, za⟩ := HT.out.a
  go_wp2_with fail
  refine (RI.out _ HT.out.low).mono ?_
  rintro e wr ⟨rfl, hb1⟩
  have HT := Lib.hid (HT.out.later hb1)
  clear hb1 ca fa za RI
  cases ri with
  | false =>
    go_wp2
    go_ret
    exact ⟨ret_b (by rw [RES.out]; rfl), HT.out.low⟩
  | true =>
  rw [Bool.true_and] at RES
  have hk : xk = 1 ∨ xk = 2 ∨ xk = 3 ∨ xk = 4 ∨ xk = 5 ∨ xk = 6 := by have := HK.out.1; have := HK.out.2; omega
  clear HK d1 d6
  obtain ⟨eb, heb⟩ : ∃ e, eqRl ⟨x3, x4⟩ ⟨emp, emp⟩ = e := ⟨_, rfl⟩
  have HEB := Lib.hid heb
  have RBN := Lib.hid (fun (h : eb = true) => show isRole ⟨x3, x4⟩ = false by rw [show (⟨x3, x4⟩ : Rl) = noR from of_decide_eq_true (heb.trans h)]; exact noR_role)
  clear heb
  rcases hk with rfl | rfl | rfl | rfl | rfl | rfl
  · have RS : Hid (res = (eqRl ⟨x3, x4⟩ noR && (decide (us.length ≤ 12) && decide (0 < us.length)))) := Lib.hid (RES.out.trans (by rfl))
    clear RES
    rw [show eqRl ⟨x3, x4⟩ noR = eb from HEB.out] at RS
    have SE := Lib.hid (fun W => query_secondB 1 W)
    have SB := Lib.hid (show secB 1 = false from rfl)
    rw [SB.out] at SE
    have LE := Lib.hid (fun W => query_least 1 W)
    rw [show leastI 1 = 1 from rfl] at LE
    have HNe := fun W => role_neq x3 x4 emp emp W
    rw [show eqRl ⟨x3, x4⟩ ⟨emp, emp⟩ = eb from HEB.out] at HNe
    cases eb with
    | false =>
      simp only [Bool.not_false] at HNe
      go_wp2_with fail
      refine wp_region_held_drew (S := (fun W => ∀ o, W.cell? ⟨w.heap.size, o, none⟩ = (#[.int .i64 1, .string x1, .string x2, .string x3, .string x4, .slice wo us.length wc] : Array Value)[o]?)) (by kernel_rfl) HT.out.drew.a.1 (fun hHeld => ?_)
      have HT := HT.out.drew
      obtain ⟨wk, hwk⟩ : ∃ W, W = wr.drew := ⟨_, rfl⟩
      rw [← hwk] at HT hHeld ⊢
      clear hwk
      (refine hyes 0 ?_); (refine hyes 1 ?_); (refine hyes 3 ?_); (refine hyes 4 ?_); (refine hyes 5 ?_); (refine hyes 6 ?_); (try simp only [Act.put, List.setIfInBounds_toArray, List.set])
      (refine held_call 2 rfl (by kernel_rfl) (fun K hK => ?_); go_simp)
      go_at_call 123; refine (SE.out _).mono ?_; rintro e wz2 ⟨rfl, rfl⟩
      (refine hK.out _ _ ((HT.a.1)) (fun hHeld => ?_); clear hK K; (try simp only [Act.put, List.setIfInBounds_toArray, List.set]))
      (refine hyes 7 ?_); (refine hyes 8 ?_); (try simp only [Act.put, List.setIfInBounds_toArray, List.set])
      (refine hno 9 ?_); (try simp only [Act.put, List.setIfInBounds_toArray, List.set])
      (refine hno 10 ?_); (try simp only [Act.put, List.setIfInBounds_toArray, List.set])
      (refine hno 11 ?_); (try simp only [Act.put, List.setIfInBounds_toArray, List.set])
      (refine hno 12 ?_); (try simp only [Act.put, List.setIfInBounds_toArray, List.set])
      (refine hno 13 ?_); (try simp only [Act.put, List.setIfInBounds_toArray, List.set])
      (refine hno 14 ?_); (try simp only [Act.put, List.setIfInBounds_toArray, List.set])
      (refine hno 15 ?_); (try simp only [Act.put, List.setIfInBounds_toArray, List.set])
      (refine hno 16 ?_); (try simp only [Act.put, List.setIfInBounds_toArray, List.set])
      (refine hno 17 ?_); (try simp only [Act.put, List.setIfInBounds_toArray, List.set])
      (refine hyes 18 ?_); (try simp only [Act.put, List.setIfInBounds_toArray, List.set])
      refine wpAnyH_done (by kernel_rfl) ?_ _
      have HTr := Lib.hid HT
      clear HT
      go_wp2_with fail
      go_ret
      exact ⟨ret_b (by rw [RS.out]; first | rfl | (simp [noR_role]) | (cases rb <;> simp_all)), HTr.out.low⟩
    | true =>
      simp only [Bool.not_true] at HNe
      go_wp2_with fail
      refine wp_region_held_drew (S := (fun W => ∀ o, W.cell? ⟨w.heap.size, o, none⟩ = (#[.int .i64 1, .string x1, .string x2, .string x3, .string x4, .slice wo us.length wc] : Array Value)[o]?)) (by kernel_rfl) HT.out.drew.a.1 (fun hHeld => ?_)
      have HT := HT.out.drew
      obtain ⟨wk, hwk⟩ : ∃ W, W = wr.drew := ⟨_, rfl⟩
      rw [← hwk] at HT hHeld ⊢
      clear hwk
      (refine hyes 0 ?_); (refine hyes 1 ?_); (refine hyes 3 ?_); (refine hyes 4 ?_); (refine hyes 5 ?_); (refine hyes 6 ?_); (try simp only [Act.put, List.setIfInBounds_toArray, List.set])
      (refine held_call 2 rfl (by kernel_rfl) (fun K hK => ?_); go_simp)
      go_at_call 123; refine (SE.out _).mono ?_; rintro e wz2 ⟨rfl, rfl⟩
      (refine hK.out _ _ ((HT.a.1)) (fun hHeld => ?_); clear hK K; (try simp only [Act.put, List.setIfInBounds_toArray, List.set]))
      (refine hyes 7 ?_); (refine hyes 8 ?_); (refine hyes 9 ?_); (refine hyes 10 ?_); (try simp only [Act.put, List.setIfInBounds_toArray, List.set])
      (refine held_call 11 rfl (by kernel_rfl) (fun K hK => ?_); go_simp)
      go_at_call 123; refine (SE.out _).mono ?_; rintro e wz11 ⟨rfl, rfl⟩
      (refine hK.out _ _ ((HT.a.1)) (fun hHeld => ?_); clear hK K; (try simp only [Act.put, List.setIfInBounds_toArray, List.set]))
      (refine hyes 12 ?_); (try simp only [Act.put, List.setIfInBounds_toArray, List.set])
      (refine hno 13 ?_); (try simp only [Act.put, List.setIfInBounds_toArray, List.set])
      (refine hno 14 ?_); (try simp only [Act.put, List.setIfInBounds_toArray, List.set])
      (refine hno 15 ?_); (try simp only [Act.put, List.setIfInBounds_toArray, List.set])
      (refine hno 16 ?_); (try simp only [Act.put, List.setIfInBounds_toArray, List.set])
      (refine hyes 17 ?_); (refine hyes 18 ?_); (try simp only [Act.put, List.setIfInBounds_toArray, List.set])
      refine wpAnyH_done (by kernel_rfl) ?_ _
      have HTr := Lib.hid HT
      clear HT
      obtain ⟨ca, fa, za⟩ := HTr.out.a
      go_wp2_with fail
      refine (LE.out _).mono ?_
      rintro e wl ⟨rfl, rfl⟩
      by_cases h0 : us.length = 0
      · have e0 : ((us.length : Int) == 0) = true := by rw [beq_iff_eq]; omega
        have e3 : decide ((us.length : Int) ≤ 12) = true := decide_eq_true (by omega)
        have e4 : decide ((1 : Int) ≤ (us.length : Int)) = false := decide_eq_false (by omega)
        have e5 : decide ((0 : Int) ≤ (us.length : Int)) = true := decide_eq_true (by omega)
        rw [h0] at RS
        go_wp2_with fail
        go_ret
        exact ⟨ret_b (by rw [RS.out]; rfl), HTr.out.low⟩
      · by_cases h12 : us.length ≤ 12
        · have e0 : ((us.length : Int) == 0) = false := by rw [beq_eq_false_iff_ne]; omega
          have e3 : decide ((us.length : Int) ≤ 12) = true := decide_eq_true (by omega)
          have e4 : decide ((1 : Int) ≤ (us.length : Int)) = true := decide_eq_true (by omega)
          have e5 : decide ((0 : Int) ≤ (us.length : Int)) = true := decide_eq_true (by omega)
          (try rw [decide_eq_false h0] at RS); (try rw [decide_eq_true h12] at RS); (try rw [decide_eq_true (show 0 < us.length by omega)] at RS)
          go_wp2_with fail
          go_ret
          exact ⟨ret_b (by rw [RS.out]; rfl), HTr.out.low⟩
        · have e0 : ((us.length : Int) == 0) = false := by rw [beq_eq_false_iff_ne]; omega
          have e3 : decide ((us.length : Int) ≤ 12) = false := decide_eq_false (by omega)
          have e4 : decide ((1 : Int) ≤ (us.length : Int)) = true := decide_eq_true (by omega)
          have e5 : decide ((0 : Int) ≤ (us.length : Int)) = true := decide_eq_true (by omega)
          (try rw [decide_eq_false h0] at RS); (try rw [decide_eq_false h12] at RS); (try rw [decide_eq_true (show 0 < us.length by omega)] at RS)
          go_wp2_with fail
          go_ret
          exact ⟨ret_b (by rw [RS.out]; rfl), HTr.out.low⟩
  · have RS : Hid (res = (eqRl ⟨x3, x4⟩ noR && (decide (us.length ≤ 12) && decide (0 < us.length)))) := Lib.hid (RES.out.trans (by rfl))
    clear RES
    rw [show eqRl ⟨x3, x4⟩ noR = eb from HEB.out] at RS
    have SE := Lib.hid (fun W => query_secondB 2 W)
    have SB := Lib.hid (show secB 2 = false from rfl)
    rw [SB.out] at SE
    have LE := Lib.hid (fun W => query_least 2 W)
    rw [show leastI 2 = 1 from rfl] at LE
    have HNe := fun W => role_neq x3 x4 emp emp W
    rw [show eqRl ⟨x3, x4⟩ ⟨emp, emp⟩ = eb from HEB.out] at HNe
    cases eb with
    | false =>
      simp only [Bool.not_false] at HNe
      go_wp2_with fail
      refine wp_region_held_drew (S := (fun W => ∀ o, W.cell? ⟨w.heap.size, o, none⟩ = (#[.int .i64 2, .string x1, .string x2, .string x3, .string x4, .slice wo us.length wc] : Array Value)[o]?)) (by kernel_rfl) HT.out.drew.a.1 (fun hHeld => ?_)
      have HT := HT.out.drew
      obtain ⟨wk, hwk⟩ : ∃ W, W = wr.drew := ⟨_, rfl⟩
      rw [← hwk] at HT hHeld ⊢
      clear hwk
      (refine hyes 0 ?_); (refine hyes 1 ?_); (refine hyes 3 ?_); (refine hyes 4 ?_); (refine hyes 5 ?_); (refine hyes 6 ?_); (try simp only [Act.put, List.setIfInBounds_toArray, List.set])
      (refine held_call 2 rfl (by kernel_rfl) (fun K hK => ?_); go_simp)
      go_at_call 123; refine (SE.out _).mono ?_; rintro e wz2 ⟨rfl, rfl⟩
      (refine hK.out _ _ ((HT.a.1)) (fun hHeld => ?_); clear hK K; (try simp only [Act.put, List.setIfInBounds_toArray, List.set]))
      (refine hyes 7 ?_); (refine hyes 8 ?_); (try simp only [Act.put, List.setIfInBounds_toArray, List.set])
      (refine hno 9 ?_); (try simp only [Act.put, List.setIfInBounds_toArray, List.set])
      (refine hno 10 ?_); (try simp only [Act.put, List.setIfInBounds_toArray, List.set])
      (refine hno 11 ?_); (try simp only [Act.put, List.setIfInBounds_toArray, List.set])
      (refine hno 12 ?_); (try simp only [Act.put, List.setIfInBounds_toArray, List.set])
      (refine hno 13 ?_); (try simp only [Act.put, List.setIfInBounds_toArray, List.set])
      (refine hno 14 ?_); (try simp only [Act.put, List.setIfInBounds_toArray, List.set])
      (refine hno 15 ?_); (try simp only [Act.put, List.setIfInBounds_toArray, List.set])
      (refine hno 16 ?_); (try simp only [Act.put, List.setIfInBounds_toArray, List.set])
      (refine hno 17 ?_); (try simp only [Act.put, List.setIfInBounds_toArray, List.set])
      (refine hyes 18 ?_); (try simp only [Act.put, List.setIfInBounds_toArray, List.set])
      refine wpAnyH_done (by kernel_rfl) ?_ _
      have HTr := Lib.hid HT
      clear HT
      go_wp2_with fail
      go_ret
      exact ⟨ret_b (by rw [RS.out]; first | rfl | (simp [noR_role]) | (cases rb <;> simp_all)), HTr.out.low⟩
    | true =>
      simp only [Bool.not_true] at HNe
      go_wp2_with fail
      refine wp_region_held_drew (S := (fun W => ∀ o, W.cell? ⟨w.heap.size, o, none⟩ = (#[.int .i64 2, .string x1, .string x2, .string x3, .string x4, .slice wo us.length wc] : Array Value)[o]?)) (by kernel_rfl) HT.out.drew.a.1 (fun hHeld => ?_)
      have HT := HT.out.drew
      obtain ⟨wk, hwk⟩ : ∃ W, W = wr.drew := ⟨_, rfl⟩
      rw [← hwk] at HT hHeld ⊢
      clear hwk
      (refine hyes 0 ?_); (refine hyes 1 ?_); (refine hyes 3 ?_); (refine hyes 4 ?_); (refine hyes 5 ?_); (refine hyes 6 ?_); (try simp only [Act.put, List.setIfInBounds_toArray, List.set])
      (refine held_call 2 rfl (by kernel_rfl) (fun K hK => ?_); go_simp)
      go_at_call 123; refine (SE.out _).mono ?_; rintro e wz2 ⟨rfl, rfl⟩
      (refine hK.out _ _ ((HT.a.1)) (fun hHeld => ?_); clear hK K; (try simp only [Act.put, List.setIfInBounds_toArray, List.set]))
      (refine hyes 7 ?_); (refine hyes 8 ?_); (refine hyes 9 ?_); (refine hyes 10 ?_); (try simp only [Act.put, List.setIfInBounds_toArray, List.set])
      (refine held_call 11 rfl (by kernel_rfl) (fun K hK => ?_); go_simp)
      go_at_call 123; refine (SE.out _).mono ?_; rintro e wz11 ⟨rfl, rfl⟩
      (refine hK.out _ _ ((HT.a.1)) (fun hHeld => ?_); clear hK K; (try simp only [Act.put, List.setIfInBounds_toArray, List.set]))
      (refine hyes 12 ?_); (try simp only [Act.put, List.setIfInBounds_toArray, List.set])
      (refine hno 13 ?_); (try simp only [Act.put, List.setIfInBounds_toArray, List.set])
      (refine hno 14 ?_); (try simp only [Act.put, List.setIfInBounds_toArray, List.set])
      (refine hno 15 ?_); (try simp only [Act.put, List.setIfInBounds_toArray, List.set])
      (refine hno 16 ?_); (try simp only [Act.put, List.setIfInBounds_toArray, List.set])
      (refine hyes 17 ?_); (refine hyes 18 ?_); (try simp only [Act.put, List.setIfInBounds_toArray, List.set])
      refine wpAnyH_done (by kernel_rfl) ?_ _
      have HTr := Lib.hid HT
      clear HT
      obtain ⟨ca, fa, za⟩ := HTr.out.a
      go_wp2_with fail
      refine (LE.out _).mono ?_
      rintro e wl ⟨rfl, rfl⟩
      by_cases h0 : us.length = 0
      · have e0 : ((us.length : Int) == 0) = true := by rw [beq_iff_eq]; omega
        have e3 : decide ((us.length : Int) ≤ 12) = true := decide_eq_true (by omega)
        have e4 : decide ((1 : Int) ≤ (us.length : Int)) = false := decide_eq_false (by omega)
        have e5 : decide ((0 : Int) ≤ (us.length : Int)) = true := decide_eq_true (by omega)
        rw [h0] at RS
        go_wp2_with fail
        go_ret
        exact ⟨ret_b (by rw [RS.out]; rfl), HTr.out.low⟩
      · by_cases h12 : us.length ≤ 12
        · have e0 : ((us.length : Int) == 0) = false := by rw [beq_eq_false_iff_ne]; omega
          have e3 : decide ((us.length : Int) ≤ 12) = true := decide_eq_true (by omega)
          have e4 : decide ((1 : Int) ≤ (us.length : Int)) = true := decide_eq_true (by omega)
          have e5 : decide ((0 : Int) ≤ (us.length : Int)) = true := decide_eq_true (by omega)
          (try rw [decide_eq_false h0] at RS); (try rw [decide_eq_true h12] at RS); (try rw [decide_eq_true (show 0 < us.length by omega)] at RS)
          go_wp2_with fail
          go_ret
          exact ⟨ret_b (by rw [RS.out]; rfl), HTr.out.low⟩
        · have e0 : ((us.length : Int) == 0) = false := by rw [beq_eq_false_iff_ne]; omega
          have e3 : decide ((us.length : Int) ≤ 12) = false := decide_eq_false (by omega)
          have e4 : decide ((1 : Int) ≤ (us.length : Int)) = true := decide_eq_true (by omega)
          have e5 : decide ((0 : Int) ≤ (us.length : Int)) = true := decide_eq_true (by omega)
          (try rw [decide_eq_false h0] at RS); (try rw [decide_eq_false h12] at RS); (try rw [decide_eq_true (show 0 < us.length by omega)] at RS)
          go_wp2_with fail
          go_ret
          exact ⟨ret_b (by rw [RS.out]; rfl), HTr.out.low⟩
  · have RS : Hid (res = (eqRl ⟨x3, x4⟩ noR && (decide (us.length ≤ 12) && true))) := Lib.hid (RES.out.trans (by rfl))
    clear RES
    rw [show eqRl ⟨x3, x4⟩ noR = eb from HEB.out] at RS
    have SE := Lib.hid (fun W => query_secondB 3 W)
    have SB := Lib.hid (show secB 3 = false from rfl)
    rw [SB.out] at SE
    have LE := Lib.hid (fun W => query_least 3 W)
    rw [show leastI 3 = 0 from rfl] at LE
    have HNe := fun W => role_neq x3 x4 emp emp W
    rw [show eqRl ⟨x3, x4⟩ ⟨emp, emp⟩ = eb from HEB.out] at HNe
    cases eb with
    | false =>
      simp only [Bool.not_false] at HNe
      go_wp2_with fail
      refine wp_region_held_drew (S := (fun W => ∀ o, W.cell? ⟨w.heap.size, o, none⟩ = (#[.int .i64 3, .string x1, .string x2, .string x3, .string x4, .slice wo us.length wc] : Array Value)[o]?)) (by kernel_rfl) HT.out.drew.a.1 (fun hHeld => ?_)
      have HT := HT.out.drew
      obtain ⟨wk, hwk⟩ : ∃ W, W = wr.drew := ⟨_, rfl⟩
      rw [← hwk] at HT hHeld ⊢
      clear hwk
      (refine hyes 0 ?_); (refine hyes 1 ?_); (refine hyes 3 ?_); (refine hyes 4 ?_); (refine hyes 5 ?_); (refine hyes 6 ?_); (try simp only [Act.put, List.setIfInBounds_toArray, List.set])
      (refine held_call 2 rfl (by kernel_rfl) (fun K hK => ?_); go_simp)
      go_at_call 123; refine (SE.out _).mono ?_; rintro e wz2 ⟨rfl, rfl⟩
      (refine hK.out _ _ ((HT.a.1)) (fun hHeld => ?_); clear hK K; (try simp only [Act.put, List.setIfInBounds_toArray, List.set]))
      (refine hyes 7 ?_); (refine hyes 8 ?_); (try simp only [Act.put, List.setIfInBounds_toArray, List.set])
      (refine hno 9 ?_); (try simp only [Act.put, List.setIfInBounds_toArray, List.set])
      (refine hno 10 ?_); (try simp only [Act.put, List.setIfInBounds_toArray, List.set])
      (refine hno 11 ?_); (try simp only [Act.put, List.setIfInBounds_toArray, List.set])
      (refine hno 12 ?_); (try simp only [Act.put, List.setIfInBounds_toArray, List.set])
      (refine hno 13 ?_); (try simp only [Act.put, List.setIfInBounds_toArray, List.set])
      (refine hno 14 ?_); (try simp only [Act.put, List.setIfInBounds_toArray, List.set])
      (refine hno 15 ?_); (try simp only [Act.put, List.setIfInBounds_toArray, List.set])
      (refine hno 16 ?_); (try simp only [Act.put, List.setIfInBounds_toArray, List.set])
      (refine hno 17 ?_); (try simp only [Act.put, List.setIfInBounds_toArray, List.set])
      (refine hyes 18 ?_); (try simp only [Act.put, List.setIfInBounds_toArray, List.set])
      refine wpAnyH_done (by kernel_rfl) ?_ _
      have HTr := Lib.hid HT
      clear HT
      go_wp2_with fail
      go_ret
      exact ⟨ret_b (by rw [RS.out]; first | rfl | (simp [noR_role]) | (cases rb <;> simp_all)), HTr.out.low⟩
    | true =>
      simp only [Bool.not_true] at HNe
      go_wp2_with fail
      refine wp_region_held_drew (S := (fun W => ∀ o, W.cell? ⟨w.heap.size, o, none⟩ = (#[.int .i64 3, .string x1, .string x2, .string x3, .string x4, .slice wo us.length wc] : Array Value)[o]?)) (by kernel_rfl) HT.out.drew.a.1 (fun hHeld => ?_)
      have HT := HT.out.drew
      obtain ⟨wk, hwk⟩ : ∃ W, W = wr.drew := ⟨_, rfl⟩
      rw [← hwk] at HT hHeld ⊢
      clear hwk
      (refine hyes 0 ?_); (refine hyes 1 ?_); (refine hyes 3 ?_); (refine hyes 4 ?_); (refine hyes 5 ?_); (refine hyes 6 ?_); (try simp only [Act.put, List.setIfInBounds_toArray, List.set])
      (refine held_call 2 rfl (by kernel_rfl) (fun K hK => ?_); go_simp)
      go_at_call 123; refine (SE.out _).mono ?_; rintro e wz2 ⟨rfl, rfl⟩
      (refine hK.out _ _ ((HT.a.1)) (fun hHeld => ?_); clear hK K; (try simp only [Act.put, List.setIfInBounds_toArray, List.set]))
      (refine hyes 7 ?_); (refine hyes 8 ?_); (refine hyes 9 ?_); (refine hyes 10 ?_); (try simp only [Act.put, List.setIfInBounds_toArray, List.set])
      (refine held_call 11 rfl (by kernel_rfl) (fun K hK => ?_); go_simp)
      go_at_call 123; refine (SE.out _).mono ?_; rintro e wz11 ⟨rfl, rfl⟩
      (refine hK.out _ _ ((HT.a.1)) (fun hHeld => ?_); clear hK K; (try simp only [Act.put, List.setIfInBounds_toArray, List.set]))
      (refine hyes 12 ?_); (try simp only [Act.put, List.setIfInBounds_toArray, List.set])
      (refine hno 13 ?_); (try simp only [Act.put, List.setIfInBounds_toArray, List.set])
      (refine hno 14 ?_); (try simp only [Act.put, List.setIfInBounds_toArray, List.set])
      (refine hno 15 ?_); (try simp only [Act.put, List.setIfInBounds_toArray, List.set])
      (refine hno 16 ?_); (try simp only [Act.put, List.setIfInBounds_toArray, List.set])
      (refine hyes 17 ?_); (refine hyes 18 ?_); (try simp only [Act.put, List.setIfInBounds_toArray, List.set])
      refine wpAnyH_done (by kernel_rfl) ?_ _
      have HTr := Lib.hid HT
      clear HT
      obtain ⟨ca, fa, za⟩ := HTr.out.a
      go_wp2_with fail
      refine (LE.out _).mono ?_
      rintro e wl ⟨rfl, rfl⟩
      by_cases h0 : us.length = 0
      · have e0 : ((us.length : Int) == 0) = true := by rw [beq_iff_eq]; omega
        have e3 : decide ((us.length : Int) ≤ 12) = true := decide_eq_true (by omega)
        have e4 : decide ((1 : Int) ≤ (us.length : Int)) = false := decide_eq_false (by omega)
        have e5 : decide ((0 : Int) ≤ (us.length : Int)) = true := decide_eq_true (by omega)
        rw [h0] at RS
        go_wp2_with fail
        go_ret
        exact ⟨ret_b (by rw [RS.out]; rfl), HTr.out.low⟩
      · by_cases h12 : us.length ≤ 12
        · have e0 : ((us.length : Int) == 0) = false := by rw [beq_eq_false_iff_ne]; omega
          have e3 : decide ((us.length : Int) ≤ 12) = true := decide_eq_true (by omega)
          have e4 : decide ((1 : Int) ≤ (us.length : Int)) = true := decide_eq_true (by omega)
          have e5 : decide ((0 : Int) ≤ (us.length : Int)) = true := decide_eq_true (by omega)
          (try rw [decide_eq_false h0] at RS); (try rw [decide_eq_true h12] at RS); (try rw [decide_eq_true (show 0 < us.length by omega)] at RS)
          go_wp2_with fail
          go_ret
          exact ⟨ret_b (by rw [RS.out]; rfl), HTr.out.low⟩
        · have e0 : ((us.length : Int) == 0) = false := by rw [beq_eq_false_iff_ne]; omega
          have e3 : decide ((us.length : Int) ≤ 12) = false := decide_eq_false (by omega)
          have e4 : decide ((1 : Int) ≤ (us.length : Int)) = true := decide_eq_true (by omega)
          have e5 : decide ((0 : Int) ≤ (us.length : Int)) = true := decide_eq_true (by omega)
          (try rw [decide_eq_false h0] at RS); (try rw [decide_eq_false h12] at RS); (try rw [decide_eq_true (show 0 < us.length by omega)] at RS)
          go_wp2_with fail
          go_ret
          exact ⟨ret_b (by rw [RS.out]; rfl), HTr.out.low⟩
  · have RS : Hid (res = (eqRl ⟨x3, x4⟩ noR && (decide (us.length ≤ 12) && decide (us.length = 0)))) := Lib.hid (RES.out.trans (by rfl))
    clear RES
    rw [show eqRl ⟨x3, x4⟩ noR = eb from HEB.out] at RS
    have SE := Lib.hid (fun W => query_secondB 4 W)
    have SB := Lib.hid (show secB 4 = false from rfl)
    rw [SB.out] at SE
    have LE := Lib.hid (fun W => query_least 4 W)
    rw [show leastI 4 = -1 from rfl] at LE
    have HNe := fun W => role_neq x3 x4 emp emp W
    rw [show eqRl ⟨x3, x4⟩ ⟨emp, emp⟩ = eb from HEB.out] at HNe
    cases eb with
    | false =>
      simp only [Bool.not_false] at HNe
      go_wp2_with fail
      refine wp_region_held_drew (S := (fun W => ∀ o, W.cell? ⟨w.heap.size, o, none⟩ = (#[.int .i64 4, .string x1, .string x2, .string x3, .string x4, .slice wo us.length wc] : Array Value)[o]?)) (by kernel_rfl) HT.out.drew.a.1 (fun hHeld => ?_)
      have HT := HT.out.drew
      obtain ⟨wk, hwk⟩ : ∃ W, W = wr.drew := ⟨_, rfl⟩
      rw [← hwk] at HT hHeld ⊢
      clear hwk
      (refine hyes 0 ?_); (refine hyes 1 ?_); (refine hyes 3 ?_); (refine hyes 4 ?_); (refine hyes 5 ?_); (refine hyes 6 ?_); (try simp only [Act.put, List.setIfInBounds_toArray, List.set])
      (refine held_call 2 rfl (by kernel_rfl) (fun K hK => ?_); go_simp)
      go_at_call 123; refine (SE.out _).mono ?_; rintro e wz2 ⟨rfl, rfl⟩
      (refine hK.out _ _ ((HT.a.1)) (fun hHeld => ?_); clear hK K; (try simp only [Act.put, List.setIfInBounds_toArray, List.set]))
      (refine hyes 7 ?_); (refine hyes 8 ?_); (try simp only [Act.put, List.setIfInBounds_toArray, List.set])
      (refine hno 9 ?_); (try simp only [Act.put, List.setIfInBounds_toArray, List.set])
      (refine hno 10 ?_); (try simp only [Act.put, List.setIfInBounds_toArray, List.set])
      (refine hno 11 ?_); (try simp only [Act.put, List.setIfInBounds_toArray, List.set])
      (refine hno 12 ?_); (try simp only [Act.put, List.setIfInBounds_toArray, List.set])
      (refine hno 13 ?_); (try simp only [Act.put, List.setIfInBounds_toArray, List.set])
      (refine hno 14 ?_); (try simp only [Act.put, List.setIfInBounds_toArray, List.set])
      (refine hno 15 ?_); (try simp only [Act.put, List.setIfInBounds_toArray, List.set])
      (refine hno 16 ?_); (try simp only [Act.put, List.setIfInBounds_toArray, List.set])
      (refine hno 17 ?_); (try simp only [Act.put, List.setIfInBounds_toArray, List.set])
      (refine hyes 18 ?_); (try simp only [Act.put, List.setIfInBounds_toArray, List.set])
      refine wpAnyH_done (by kernel_rfl) ?_ _
      have HTr := Lib.hid HT
      clear HT
      go_wp2_with fail
      go_ret
      exact ⟨ret_b (by rw [RS.out]; first | rfl | (simp [noR_role]) | (cases rb <;> simp_all)), HTr.out.low⟩
    | true =>
      simp only [Bool.not_true] at HNe
      go_wp2_with fail
      refine wp_region_held_drew (S := (fun W => ∀ o, W.cell? ⟨w.heap.size, o, none⟩ = (#[.int .i64 4, .string x1, .string x2, .string x3, .string x4, .slice wo us.length wc] : Array Value)[o]?)) (by kernel_rfl) HT.out.drew.a.1 (fun hHeld => ?_)
      have HT := HT.out.drew
      obtain ⟨wk, hwk⟩ : ∃ W, W = wr.drew := ⟨_, rfl⟩
      rw [← hwk] at HT hHeld ⊢
      clear hwk
      (refine hyes 0 ?_); (refine hyes 1 ?_); (refine hyes 3 ?_); (refine hyes 4 ?_); (refine hyes 5 ?_); (refine hyes 6 ?_); (try simp only [Act.put, List.setIfInBounds_toArray, List.set])
      (refine held_call 2 rfl (by kernel_rfl) (fun K hK => ?_); go_simp)
      go_at_call 123; refine (SE.out _).mono ?_; rintro e wz2 ⟨rfl, rfl⟩
      (refine hK.out _ _ ((HT.a.1)) (fun hHeld => ?_); clear hK K; (try simp only [Act.put, List.setIfInBounds_toArray, List.set]))
      (refine hyes 7 ?_); (refine hyes 8 ?_); (refine hyes 9 ?_); (refine hyes 10 ?_); (try simp only [Act.put, List.setIfInBounds_toArray, List.set])
      (refine held_call 11 rfl (by kernel_rfl) (fun K hK => ?_); go_simp)
      go_at_call 123; refine (SE.out _).mono ?_; rintro e wz11 ⟨rfl, rfl⟩
      (refine hK.out _ _ ((HT.a.1)) (fun hHeld => ?_); clear hK K; (try simp only [Act.put, List.setIfInBounds_toArray, List.set]))
      (refine hyes 12 ?_); (try simp only [Act.put, List.setIfInBounds_toArray, List.set])
      (refine hno 13 ?_); (try simp only [Act.put, List.setIfInBounds_toArray, List.set])
      (refine hno 14 ?_); (try simp only [Act.put, List.setIfInBounds_toArray, List.set])
      (refine hno 15 ?_); (try simp only [Act.put, List.setIfInBounds_toArray, List.set])
      (refine hno 16 ?_); (try simp only [Act.put, List.setIfInBounds_toArray, List.set])
      (refine hyes 17 ?_); (refine hyes 18 ?_); (try simp only [Act.put, List.setIfInBounds_toArray, List.set])
      refine wpAnyH_done (by kernel_rfl) ?_ _
      have HTr := Lib.hid HT
      clear HT
      obtain ⟨ca, fa, za⟩ := HTr.out.a
      go_wp2_with fail
      refine (LE.out _).mono ?_
      rintro e wl ⟨rfl, rfl⟩
      by_cases h0 : us.length = 0
      · have e0 : ((us.length : Int) == 0) = true := by rw [beq_iff_eq]; omega
        have e3 : decide ((us.length : Int) ≤ 12) = true := decide_eq_true (by omega)
        have e4 : decide ((1 : Int) ≤ (us.length : Int)) = false := decide_eq_false (by omega)
        have e5 : decide ((0 : Int) ≤ (us.length : Int)) = true := decide_eq_true (by omega)
        rw [h0] at RS
        go_wp2_with fail
        go_ret
        exact ⟨ret_b (by rw [RS.out]; rfl), HTr.out.low⟩
      · by_cases h12 : us.length ≤ 12
        · have e0 : ((us.length : Int) == 0) = false := by rw [beq_eq_false_iff_ne]; omega
          have e3 : decide ((us.length : Int) ≤ 12) = true := decide_eq_true (by omega)
          have e4 : decide ((1 : Int) ≤ (us.length : Int)) = true := decide_eq_true (by omega)
          have e5 : decide ((0 : Int) ≤ (us.length : Int)) = true := decide_eq_true (by omega)
          (try rw [decide_eq_false h0] at RS); (try rw [decide_eq_true h12] at RS); (try rw [decide_eq_true (show 0 < us.length by omega)] at RS)
          go_wp2_with fail
          go_ret
          exact ⟨ret_b (by rw [RS.out]; rfl), HTr.out.low⟩
        · have e0 : ((us.length : Int) == 0) = false := by rw [beq_eq_false_iff_ne]; omega
          have e3 : decide ((us.length : Int) ≤ 12) = false := decide_eq_false (by omega)
          have e4 : decide ((1 : Int) ≤ (us.length : Int)) = true := decide_eq_true (by omega)
          have e5 : decide ((0 : Int) ≤ (us.length : Int)) = true := decide_eq_true (by omega)
          (try rw [decide_eq_false h0] at RS); (try rw [decide_eq_false h12] at RS); (try rw [decide_eq_true (show 0 < us.length by omega)] at RS)
          go_wp2_with fail
          go_ret
          exact ⟨ret_b (by rw [RS.out]; rfl), HTr.out.low⟩
  · have RS : Hid (res = (isRole ⟨x3, x4⟩ && decide (us.length = 0))) := Lib.hid (RES.out.trans (by rfl))
    clear RES
    generalize isRole ⟨x3, x4⟩ = rb at IB RS RBN
    have SE := Lib.hid (fun W => query_secondB 5 W)
    have SB := Lib.hid (show secB 5 = true from rfl)
    rw [SB.out] at SE
    have LE := Lib.hid (fun W => query_least 5 W)
    rw [show leastI 5 = -1 from rfl] at LE
    have HNe := fun W => role_neq x3 x4 emp emp W
    rw [show eqRl ⟨x3, x4⟩ ⟨emp, emp⟩ = eb from HEB.out] at HNe
    cases eb with
    | false =>
      simp only [Bool.not_false] at HNe
      cases rb with
      | false =>
        go_wp2_with fail
        refine wp_region_held_drew (S := (fun W => ∀ o, W.cell? ⟨w.heap.size, o, none⟩ = (#[.int .i64 5, .string x1, .string x2, .string x3, .string x4, .slice wo us.length wc] : Array Value)[o]?)) (by kernel_rfl) HT.out.drew.a.1 (fun hHeld => ?_)
        have HT := HT.out.drew
        obtain ⟨wk, hwk⟩ : ∃ W, W = wr.drew := ⟨_, rfl⟩
        rw [← hwk] at HT hHeld ⊢
        clear hwk
        (refine hyes 0 ?_); (refine hyes 1 ?_); (refine hyes 3 ?_); (refine hyes 4 ?_); (refine hyes 5 ?_); (refine hyes 6 ?_); (try simp only [Act.put, List.setIfInBounds_toArray, List.set])
        (refine held_call 2 rfl (by kernel_rfl) (fun K hK => ?_); go_simp)
        go_at_call 123; refine (SE.out _).mono ?_; rintro e wz2 ⟨rfl, rfl⟩
        (refine hK.out _ _ ((HT.a.1)) (fun hHeld => ?_); clear hK K; (try simp only [Act.put, List.setIfInBounds_toArray, List.set]))
        (refine hyes 7 ?_); (refine hyes 8 ?_); (refine hyes 9 ?_); (refine hyes 10 ?_); (try simp only [Act.put, List.setIfInBounds_toArray, List.set])
        (refine held_call 11 rfl (by kernel_rfl) (fun K hK => ?_); go_simp)
        go_at_call 123; refine (SE.out _).mono ?_; rintro e wz11 ⟨rfl, rfl⟩
        (refine hK.out _ _ ((HT.a.1)) (fun hHeld => ?_); clear hK K; (try simp only [Act.put, List.setIfInBounds_toArray, List.set]))
        (refine hyes 12 ?_); (refine hyes 13 ?_); (refine hyes 14 ?_); (try simp only [Act.put, List.setIfInBounds_toArray, List.set])
        (refine held_call 15 rfl (by kernel_rfl) (fun K hK => ?_); go_simp)
        go_at_call 102; refine (IB.out _).mono ?_; rintro e wz15 ⟨rfl, hbq⟩
        have HT := HT.later hbq
        clear hbq
        (refine hK.out _ _ ((HT.a.1)) (fun hHeld => ?_); clear hK K; (try simp only [Act.put, List.setIfInBounds_toArray, List.set]))
        (refine hyes 16 ?_); (refine hyes 17 ?_); (refine hyes 18 ?_); (try simp only [Act.put, List.setIfInBounds_toArray, List.set])
        refine wpAnyH_done (by kernel_rfl) ?_ _
        have HTr := Lib.hid HT
        clear HT
        go_wp2_with fail
        go_ret
        exact ⟨ret_b (by rw [RS.out]; rfl), HTr.out.low⟩
      | true =>
        go_wp2_with fail
        refine wp_region_held_drew (S := (fun W => ∀ o, W.cell? ⟨w.heap.size, o, none⟩ = (#[.int .i64 5, .string x1, .string x2, .string x3, .string x4, .slice wo us.length wc] : Array Value)[o]?)) (by kernel_rfl) HT.out.drew.a.1 (fun hHeld => ?_)
        have HT := HT.out.drew
        obtain ⟨wk, hwk⟩ : ∃ W, W = wr.drew := ⟨_, rfl⟩
        rw [← hwk] at HT hHeld ⊢
        clear hwk
        (refine hyes 0 ?_); (refine hyes 1 ?_); (refine hyes 3 ?_); (refine hyes 4 ?_); (refine hyes 5 ?_); (refine hyes 6 ?_); (try simp only [Act.put, List.setIfInBounds_toArray, List.set])
        (refine held_call 2 rfl (by kernel_rfl) (fun K hK => ?_); go_simp)
        go_at_call 123; refine (SE.out _).mono ?_; rintro e wz2 ⟨rfl, rfl⟩
        (refine hK.out _ _ ((HT.a.1)) (fun hHeld => ?_); clear hK K; (try simp only [Act.put, List.setIfInBounds_toArray, List.set]))
        (refine hyes 7 ?_); (refine hyes 8 ?_); (refine hyes 9 ?_); (refine hyes 10 ?_); (try simp only [Act.put, List.setIfInBounds_toArray, List.set])
        (refine held_call 11 rfl (by kernel_rfl) (fun K hK => ?_); go_simp)
        go_at_call 123; refine (SE.out _).mono ?_; rintro e wz11 ⟨rfl, rfl⟩
        (refine hK.out _ _ ((HT.a.1)) (fun hHeld => ?_); clear hK K; (try simp only [Act.put, List.setIfInBounds_toArray, List.set]))
        (refine hyes 12 ?_); (refine hyes 13 ?_); (refine hyes 14 ?_); (try simp only [Act.put, List.setIfInBounds_toArray, List.set])
        (refine held_call 15 rfl (by kernel_rfl) (fun K hK => ?_); go_simp)
        go_at_call 102; refine (IB.out _).mono ?_; rintro e wz15 ⟨rfl, hbq⟩
        have HT := HT.later hbq
        clear hbq
        (refine hK.out _ _ ((HT.a.1)) (fun hHeld => ?_); clear hK K; (try simp only [Act.put, List.setIfInBounds_toArray, List.set]))
        (refine hyes 16 ?_); (refine hyes 17 ?_); (refine hyes 18 ?_); (try simp only [Act.put, List.setIfInBounds_toArray, List.set])
        refine wpAnyH_done (by kernel_rfl) ?_ _
        have HTr := Lib.hid HT
        clear HT
        obtain ⟨ca, fa, za⟩ := HTr.out.a
        go_wp2_with fail
        refine (LE.out _).mono ?_
        rintro e wl ⟨rfl, rfl⟩
        by_cases h0 : us.length = 0
        · have e0 : ((us.length : Int) == 0) = true := by rw [beq_iff_eq]; omega
          have e3 : decide ((us.length : Int) ≤ 12) = true := decide_eq_true (by omega)
          have e4 : decide ((1 : Int) ≤ (us.length : Int)) = false := decide_eq_false (by omega)
          have e5 : decide ((0 : Int) ≤ (us.length : Int)) = true := decide_eq_true (by omega)
          rw [h0] at RS
          go_wp2_with fail
          go_ret
          exact ⟨ret_b (by rw [RS.out]; rfl), HTr.out.low⟩
        · by_cases h12 : us.length ≤ 12
          · have e0 : ((us.length : Int) == 0) = false := by rw [beq_eq_false_iff_ne]; omega
            have e3 : decide ((us.length : Int) ≤ 12) = true := decide_eq_true (by omega)
            have e4 : decide ((1 : Int) ≤ (us.length : Int)) = true := decide_eq_true (by omega)
            have e5 : decide ((0 : Int) ≤ (us.length : Int)) = true := decide_eq_true (by omega)
            (try rw [decide_eq_false h0] at RS); (try rw [decide_eq_true h12] at RS); (try rw [decide_eq_true (show 0 < us.length by omega)] at RS)
            go_wp2_with fail
            go_ret
            exact ⟨ret_b (by rw [RS.out]; rfl), HTr.out.low⟩
          · have e0 : ((us.length : Int) == 0) = false := by rw [beq_eq_false_iff_ne]; omega
            have e3 : decide ((us.length : Int) ≤ 12) = false := decide_eq_false (by omega)
            have e4 : decide ((1 : Int) ≤ (us.length : Int)) = true := decide_eq_true (by omega)
            have e5 : decide ((0 : Int) ≤ (us.length : Int)) = true := decide_eq_true (by omega)
            (try rw [decide_eq_false h0] at RS); (try rw [decide_eq_false h12] at RS); (try rw [decide_eq_true (show 0 < us.length by omega)] at RS)
            go_wp2_with fail
            go_ret
            exact ⟨ret_b (by rw [RS.out]; rfl), HTr.out.low⟩
    | true =>
      simp only [Bool.not_true] at HNe
      go_wp2_with fail
      refine wp_region_held_drew (S := (fun W => ∀ o, W.cell? ⟨w.heap.size, o, none⟩ = (#[.int .i64 5, .string x1, .string x2, .string x3, .string x4, .slice wo us.length wc] : Array Value)[o]?)) (by kernel_rfl) HT.out.drew.a.1 (fun hHeld => ?_)
      have HT := HT.out.drew
      obtain ⟨wk, hwk⟩ : ∃ W, W = wr.drew := ⟨_, rfl⟩
      rw [← hwk] at HT hHeld ⊢
      clear hwk
      (refine hyes 0 ?_); (refine hyes 1 ?_); (refine hyes 3 ?_); (refine hyes 4 ?_); (refine hyes 5 ?_); (refine hyes 6 ?_); (try simp only [Act.put, List.setIfInBounds_toArray, List.set])
      (refine held_call 2 rfl (by kernel_rfl) (fun K hK => ?_); go_simp)
      go_at_call 123; refine (SE.out _).mono ?_; rintro e wz2 ⟨rfl, rfl⟩
      (refine hK.out _ _ ((HT.a.1)) (fun hHeld => ?_); clear hK K; (try simp only [Act.put, List.setIfInBounds_toArray, List.set]))
      (refine hyes 7 ?_); (refine hyes 8 ?_); (try simp only [Act.put, List.setIfInBounds_toArray, List.set])
      (refine hno 9 ?_); (try simp only [Act.put, List.setIfInBounds_toArray, List.set])
      (refine hno 10 ?_); (try simp only [Act.put, List.setIfInBounds_toArray, List.set])
      (refine hno 11 ?_); (try simp only [Act.put, List.setIfInBounds_toArray, List.set])
      (refine hno 12 ?_); (try simp only [Act.put, List.setIfInBounds_toArray, List.set])
      (refine hno 13 ?_); (try simp only [Act.put, List.setIfInBounds_toArray, List.set])
      (refine hno 14 ?_); (try simp only [Act.put, List.setIfInBounds_toArray, List.set])
      (refine hno 15 ?_); (try simp only [Act.put, List.setIfInBounds_toArray, List.set])
      (refine hno 16 ?_); (try simp only [Act.put, List.setIfInBounds_toArray, List.set])
      (refine hno 17 ?_); (try simp only [Act.put, List.setIfInBounds_toArray, List.set])
      (refine hyes 18 ?_); (try simp only [Act.put, List.setIfInBounds_toArray, List.set])
      refine wpAnyH_done (by kernel_rfl) ?_ _
      have HTr := Lib.hid HT
      clear HT
      go_wp2_with fail
      go_ret
      exact ⟨ret_b (by rw [RS.out, RBN.out (by first | rfl | trivial)]; rfl), HTr.out.low⟩
  · have RS : Hid (res = (isRole ⟨x3, x4⟩ && decide (us.length = 0))) := Lib.hid (RES.out.trans (by rfl))
    clear RES
    generalize isRole ⟨x3, x4⟩ = rb at IB RS RBN
    have SE := Lib.hid (fun W => query_secondB 6 W)
    have SB := Lib.hid (show secB 6 = true from rfl)
    rw [SB.out] at SE
    have LE := Lib.hid (fun W => query_least 6 W)
    rw [show leastI 6 = -1 from rfl] at LE
    have HNe := fun W => role_neq x3 x4 emp emp W
    rw [show eqRl ⟨x3, x4⟩ ⟨emp, emp⟩ = eb from HEB.out] at HNe
    cases eb with
    | false =>
      simp only [Bool.not_false] at HNe
      cases rb with
      | false =>
        go_wp2_with fail
        refine wp_region_held_drew (S := (fun W => ∀ o, W.cell? ⟨w.heap.size, o, none⟩ = (#[.int .i64 6, .string x1, .string x2, .string x3, .string x4, .slice wo us.length wc] : Array Value)[o]?)) (by kernel_rfl) HT.out.drew.a.1 (fun hHeld => ?_)
        have HT := HT.out.drew
        obtain ⟨wk, hwk⟩ : ∃ W, W = wr.drew := ⟨_, rfl⟩
        rw [← hwk] at HT hHeld ⊢
        clear hwk
        (refine hyes 0 ?_); (refine hyes 1 ?_); (refine hyes 3 ?_); (refine hyes 4 ?_); (refine hyes 5 ?_); (refine hyes 6 ?_); (try simp only [Act.put, List.setIfInBounds_toArray, List.set])
        (refine held_call 2 rfl (by kernel_rfl) (fun K hK => ?_); go_simp)
        go_at_call 123; refine (SE.out _).mono ?_; rintro e wz2 ⟨rfl, rfl⟩
        (refine hK.out _ _ ((HT.a.1)) (fun hHeld => ?_); clear hK K; (try simp only [Act.put, List.setIfInBounds_toArray, List.set]))
        (refine hyes 7 ?_); (refine hyes 8 ?_); (refine hyes 9 ?_); (refine hyes 10 ?_); (try simp only [Act.put, List.setIfInBounds_toArray, List.set])
        (refine held_call 11 rfl (by kernel_rfl) (fun K hK => ?_); go_simp)
        go_at_call 123; refine (SE.out _).mono ?_; rintro e wz11 ⟨rfl, rfl⟩
        (refine hK.out _ _ ((HT.a.1)) (fun hHeld => ?_); clear hK K; (try simp only [Act.put, List.setIfInBounds_toArray, List.set]))
        (refine hyes 12 ?_); (refine hyes 13 ?_); (refine hyes 14 ?_); (try simp only [Act.put, List.setIfInBounds_toArray, List.set])
        (refine held_call 15 rfl (by kernel_rfl) (fun K hK => ?_); go_simp)
        go_at_call 102; refine (IB.out _).mono ?_; rintro e wz15 ⟨rfl, hbq⟩
        have HT := HT.later hbq
        clear hbq
        (refine hK.out _ _ ((HT.a.1)) (fun hHeld => ?_); clear hK K; (try simp only [Act.put, List.setIfInBounds_toArray, List.set]))
        (refine hyes 16 ?_); (refine hyes 17 ?_); (refine hyes 18 ?_); (try simp only [Act.put, List.setIfInBounds_toArray, List.set])
        refine wpAnyH_done (by kernel_rfl) ?_ _
        have HTr := Lib.hid HT
        clear HT
        go_wp2_with fail
        go_ret
        exact ⟨ret_b (by rw [RS.out]; rfl), HTr.out.low⟩
      | true =>
        go_wp2_with fail
        refine wp_region_held_drew (S := (fun W => ∀ o, W.cell? ⟨w.heap.size, o, none⟩ = (#[.int .i64 6, .string x1, .string x2, .string x3, .string x4, .slice wo us.length wc] : Array Value)[o]?)) (by kernel_rfl) HT.out.drew.a.1 (fun hHeld => ?_)
        have HT := HT.out.drew
        obtain ⟨wk, hwk⟩ : ∃ W, W = wr.drew := ⟨_, rfl⟩
        rw [← hwk] at HT hHeld ⊢
        clear hwk
        (refine hyes 0 ?_); (refine hyes 1 ?_); (refine hyes 3 ?_); (refine hyes 4 ?_); (refine hyes 5 ?_); (refine hyes 6 ?_); (try simp only [Act.put, List.setIfInBounds_toArray, List.set])
        (refine held_call 2 rfl (by kernel_rfl) (fun K hK => ?_); go_simp)
        go_at_call 123; refine (SE.out _).mono ?_; rintro e wz2 ⟨rfl, rfl⟩
        (refine hK.out _ _ ((HT.a.1)) (fun hHeld => ?_); clear hK K; (try simp only [Act.put, List.setIfInBounds_toArray, List.set]))
        (refine hyes 7 ?_); (refine hyes 8 ?_); (refine hyes 9 ?_); (refine hyes 10 ?_); (try simp only [Act.put, List.setIfInBounds_toArray, List.set])
        (refine held_call 11 rfl (by kernel_rfl) (fun K hK => ?_); go_simp)
        go_at_call 123; refine (SE.out _).mono ?_; rintro e wz11 ⟨rfl, rfl⟩
        (refine hK.out _ _ ((HT.a.1)) (fun hHeld => ?_); clear hK K; (try simp only [Act.put, List.setIfInBounds_toArray, List.set]))
        (refine hyes 12 ?_); (refine hyes 13 ?_); (refine hyes 14 ?_); (try simp only [Act.put, List.setIfInBounds_toArray, List.set])
        (refine held_call 15 rfl (by kernel_rfl) (fun K hK => ?_); go_simp)
        go_at_call 102; refine (IB.out _).mono ?_; rintro e wz15 ⟨rfl, hbq⟩
        have HT := HT.later hbq
        clear hbq
        (refine hK.out _ _ ((HT.a.1)) (fun hHeld => ?_); clear hK K; (try simp only [Act.put, List.setIfInBounds_toArray, List.set]))
        (refine hyes 16 ?_); (refine hyes 17 ?_); (refine hyes 18 ?_); (try simp only [Act.put, List.setIfInBounds_toArray, List.set])
        refine wpAnyH_done (by kernel_rfl) ?_ _
        have HTr := Lib.hid HT
        clear HT
        obtain ⟨ca, fa, za⟩ := HTr.out.a
        go_wp2_with fail
        refine (LE.out _).mono ?_
        rintro e wl ⟨rfl, rfl⟩
        by_cases h0 : us.length = 0
        · have e0 : ((us.length : Int) == 0) = true := by rw [beq_iff_eq]; omega
          have e3 : decide ((us.length : Int) ≤ 12) = true := decide_eq_true (by omega)
          have e4 : decide ((1 : Int) ≤ (us.length : Int)) = false := decide_eq_false (by omega)
          have e5 : decide ((0 : Int) ≤ (us.length : Int)) = true := decide_eq_true (by omega)
          rw [h0] at RS
          go_wp2_with fail
          go_ret
          exact ⟨ret_b (by rw [RS.out]; rfl), HTr.out.low⟩
        · by_cases h12 : us.length ≤ 12
          · have e0 : ((us.length : Int) == 0) = false := by rw [beq_eq_false_iff_ne]; omega
            have e3 : decide ((us.length : Int) ≤ 12) = true := decide_eq_true (by omega)
            have e4 : decide ((1 : Int) ≤ (us.length : Int)) = true := decide_eq_true (by omega)
            have e5 : decide ((0 : Int) ≤ (us.length : Int)) = true := decide_eq_true (by omega)
            (try rw [decide_eq_false h0] at RS); (try rw [decide_eq_true h12] at RS); (try rw [decide_eq_true (show 0 < us.length by omega)] at RS)
            go_wp2_with fail
            go_ret
            exact ⟨ret_b (by rw [RS.out]; rfl), HTr.out.low⟩
          · have e0 : ((us.length : Int) == 0) = false := by rw [beq_eq_false_iff_ne]; omega
            have e3 : decide ((us.length : Int) ≤ 12) = false := decide_eq_false (by omega)
            have e4 : decide ((1 : Int) ≤ (us.length : Int)) = true := decide_eq_true (by omega)
            have e5 : decide ((0 : Int) ≤ (us.length : Int)) = true := decide_eq_true (by omega)
            (try rw [decide_eq_false h0] at RS); (try rw [decide_eq_false h12] at RS); (try rw [decide_eq_true (show 0 < us.length by omega)] at RS)
            go_wp2_with fail
            go_ret
            exact ⟨ret_b (by rw [RS.out]; rfl), HTr.out.low⟩
    | true =>
      simp only [Bool.not_true] at HNe
      go_wp2_with fail
      refine wp_region_held_drew (S := (fun W => ∀ o, W.cell? ⟨w.heap.size, o, none⟩ = (#[.int .i64 6, .string x1, .string x2, .string x3, .string x4, .slice wo us.length wc] : Array Value)[o]?)) (by kernel_rfl) HT.out.drew.a.1 (fun hHeld => ?_)
      have HT := HT.out.drew
      obtain ⟨wk, hwk⟩ : ∃ W, W = wr.drew := ⟨_, rfl⟩
      rw [← hwk] at HT hHeld ⊢
      clear hwk
      (refine hyes 0 ?_); (refine hyes 1 ?_); (refine hyes 3 ?_); (refine hyes 4 ?_); (refine hyes 5 ?_); (refine hyes 6 ?_); (try simp only [Act.put, List.setIfInBounds_toArray, List.set])
      (refine held_call 2 rfl (by kernel_rfl) (fun K hK => ?_); go_simp)
      go_at_call 123; refine (SE.out _).mono ?_; rintro e wz2 ⟨rfl, rfl⟩
      (refine hK.out _ _ ((HT.a.1)) (fun hHeld => ?_); clear hK K; (try simp only [Act.put, List.setIfInBounds_toArray, List.set]))
      (refine hyes 7 ?_); (refine hyes 8 ?_); (try simp only [Act.put, List.setIfInBounds_toArray, List.set])
      (refine hno 9 ?_); (try simp only [Act.put, List.setIfInBounds_toArray, List.set])
      (refine hno 10 ?_); (try simp only [Act.put, List.setIfInBounds_toArray, List.set])
      (refine hno 11 ?_); (try simp only [Act.put, List.setIfInBounds_toArray, List.set])
      (refine hno 12 ?_); (try simp only [Act.put, List.setIfInBounds_toArray, List.set])
      (refine hno 13 ?_); (try simp only [Act.put, List.setIfInBounds_toArray, List.set])
      (refine hno 14 ?_); (try simp only [Act.put, List.setIfInBounds_toArray, List.set])
      (refine hno 15 ?_); (try simp only [Act.put, List.setIfInBounds_toArray, List.set])
      (refine hno 16 ?_); (try simp only [Act.put, List.setIfInBounds_toArray, List.set])
      (refine hno 17 ?_); (try simp only [Act.put, List.setIfInBounds_toArray, List.set])
      (refine hyes 18 ?_); (try simp only [Act.put, List.setIfInBounds_toArray, List.set])
      refine wpAnyH_done (by kernel_rfl) ?_ _
      have HTr := Lib.hid HT
      clear HT
      go_wp2_with fail
      go_ret
      exact ⟨ret_b (by rw [RS.out, RBN.out (by first | rfl | trivial)]; rfl), HTr.out.low⟩
end Go.Proofs.YtnhkgfgbhedphaaGreatDoor
namespace Go.Proofs.YtnhkgfgbhedphaaGreatDoor

def wAlways : ByteArray := ⟨#[97, 108, 119, 97, 121, 115]⟩
def wCan : ByteArray := ⟨#[99, 97, 110]⟩
def wHas : ByteArray := ⟨#[104, 97, 115]⟩
def wHave : ByteArray := ⟨#[104, 97, 118, 101]⟩
def wWithin : ByteArray := ⟨#[119, 105, 116, 104, 105, 110]⟩
def wBe : ByteArray := ⟨#[98, 101]⟩
def wEmpty : ByteArray := ⟨#[101, 109, 112, 116, 121]⟩
def wApart : ByteArray := ⟨#[97, 112, 97, 114, 116]⟩
def wIn : ByteArray := ⟨#[105, 110]⟩
def wBeEmpty : ByteArray := ⟨#[98, 101, 32, 101, 109, 112, 116, 121]⟩
structure Qd where
  k : Int
  a : Rl
  b : Rl
  us : List ByteArray
def noQd : Qd := ⟨0, noR, noR, []⟩
def Tok.tx (t : Tok) : ByteArray := ⟨t.text.toArray⟩
def Rd.want (r : Rd) (f : Tok → Bool) : ByteArray × Rd :=
  if r.why ≠ 0 then (emp, r) else
  match r.l with
  | [] => (emp, r.fail r.e 3)
  | t :: _ => if f t = true then (t.tx, r.drop1) else (emp, r.fail t.col 2)
def wordIn (ws : List ByteArray) (t : Tok) : Bool := decide (t.kind = 2) && hasB ws t.tx
def Rd.word (r : Rd) (ws : List ByteArray) : ByteArray × Rd := r.want (wordIn ws)
def askW (u : Bool) : List ByteArray := if u = true then [wHas, wWithin, wApart, wIn] else [wHave, wBe]
def kindW (s : ByteArray) : Int := if s = wHas then 1 else if s = wHave then 2 else if s = wWithin then 3 else if s = wBe then 4 else if s = wApart then 5 else if s = wIn then 6 else 0
def Rd.ask (r : Rd) (u : Bool) : Int × Rd := (kindW (r.word (askW u)).1, if kindW (r.word (askW u)).1 = 4 then ((r.word (askW u)).2.word [wEmpty]).2 else (r.word (askW u)).2)
def whoT (few : Int) : List Tok → Nat → List ByteArray → Int → Int → List ByteArray × Rd
  | [], n, acc, e, p => if (n : Int) < few then (insSB acc emp, ⟨[], e, e, 3⟩) else (acc, ⟨[], e, p, 0⟩)
  | t :: l, n, acc, e, p =>
    if t.kind = 1 then if acc.length = 12 ∧ hasB acc t.tx = false then ([], ⟨t :: l, e, t.col, 5⟩) else whoT few l (n + 1) (insSB acc t.tx) e p
    else (insSB acc emp, ⟨t :: l, e, t.col, 2⟩)
def Rd.who (r : Rd) (few : Int) : List ByteArray × Rd := if r.why ≠ 0 then ([], r) else whoT few r.l 0 [] r.e r.p
def Rd.endQ (r : Rd) (q : Qd) : Qd × Int × Int :=
  if r.why ≠ 0 then (noQd, r.p, r.why) else match r.l with | [] => (q, 0, 0) | t :: _ => (noQd, t.col, 2)
def Rd.roleB (r : Rd) (k : Int) : Rl × Rd := if secB k = true then r.role else (noR, r)
def Rd.whoB (r : Rd) (k : Int) : List ByteArray × Rd := if 0 ≤ leastI k then r.who (leastI k) else ([], r)
def tailQ (k : Int) (a : Rl) (r : Rd) : Qd × Int × Int := ((r.roleB k).2.whoB k).2.endQ ⟨k, a, (r.roleB k).1, ((r.roleB k).2.whoB k).1⟩
def midQ (u : Bool) (r : Rd) : Qd × Int × Int := tailQ (r.role.2.ask u).1 r.role.1 (r.role.2.ask u).2
def readQ (l : List Tok) (e : Int) : Qd × Int × Int := midQ (decide (((Rd.mk l e 0 0).word [wAlways, wCan]).1 = wAlways)) ((Rd.mk l e 0 0).word [wAlways, wCan]).2

/-! The document's answer. -/
def nameT (t : Tok) (s : ByteArray) : Bool := decide (t.kind = 2) && decide (t.tx = s)
def wordsQ (k : Int) : ByteArray := if k = 1 then wHas else if k = 2 then wHave else if k = 3 then wWithin else if k = 4 then wBeEmpty else if k = 5 then wApart else if k = 6 then wIn else emp
def goesQ (k : Int) (i : Nat) (t : Tok) : Bool :=
  if i = 0 then (univB k && nameT t wAlways) || (!univB k && nameT t wCan)
  else if i = 1 then decide (t.kind = 1) else if i = 2 then decide (t.kind = 3) else if i = 3 then decide (t.kind = 2)
  else if i = 4 then (decide (k = 4) && nameT t wBe) || (!decide (k = 4) && nameT t (wordsQ k))
  else if i = 5 then (decide (k = 4) && nameT t wEmpty) || (decide (5 ≤ k) && decide (t.kind = 1))
  else if i = 6 then decide (5 ≤ k) && decide (t.kind = 3)
  else if i = 7 then decide (5 ≤ k) && decide (t.kind = 2) else false
def frontQ (k : Int) : Nat := if k = 4 then 6 else if 5 ≤ k then 8 else 5
def fitQ (k : Int) : Nat → List Tok → Nat
  | i, t :: l => if i < frontQ k ∧ goesQ k i t = true then fitQ k (i + 1) l + 1 else 0
  | _, [] => 0
def txQ (l : List Tok) (i : Nat) : ByteArray := (l.getD i ⟨0, [], 0⟩).tx
def restQ (k : Int) (q : Qd) (e : Int) : List Tok → Qd × Int × Int
  | t :: l => if k ≤ 3 ∧ t.kind = 1 then if 12 < (insSB q.us t.tx).length then (noQd, t.col, 5) else restQ k ⟨q.k, q.a, q.b, insSB q.us t.tx⟩ e l else (noQd, t.col, 2)
  | [] => if k ≤ 2 ∧ q.us.length = 0 then (noQd, e, 3) else (q, 0, 0)
def kindQ (k : Int) (l : List Tok) (e : Int) : Qd × Int × Int := restQ k ⟨k, ⟨txQ l 1, txQ l 3⟩, if 5 ≤ k then ⟨txQ l 5, txQ l 7⟩ else noR, []⟩ e (l.drop (frontQ k))
def bestQ (l : List Tok) : Nat := max (max (max (max (max (fitQ 1 0 l) (fitQ 2 0 l)) (fitQ 3 0 l)) (fitQ 4 0 l)) (fitQ 5 0 l)) (fitQ 6 0 l)
def endQ (l : List Tok) (e : Int) : Qd × Int × Int := if bestQ l = l.length then (noQd, e, 3) else (noQd, (l.getD (bestQ l) ⟨0, [], 0⟩).col, 2)
def refQ (l : List Tok) (e : Int) : Qd × Int × Int :=
  if fitQ 1 0 l = 5 then kindQ 1 l e else if fitQ 2 0 l = 5 then kindQ 2 l e else if fitQ 3 0 l = 5 then kindQ 3 l e
  else if fitQ 4 0 l = 6 then kindQ 4 l e else if fitQ 5 0 l = 8 then kindQ 5 l e else if fitQ 6 0 l = 8 then kindQ 6 l e else endQ l e
theorem insS_len1 {l : List ByteArray} {x : ByteArray} (h : hasB l x = false) : (insSB l x).length = l.length + 1 := by
  rw [insS_notB h, insAt_lenB (pos_leB l x)]
  have := pos_leB l x
  omega
end Go.Proofs.YtnhkgfgbhedphaaGreatDoor
namespace Go.Proofs.YtnhkgfgbhedphaaGreatDoor

theorem want_why (l : List Tok) (e p y : Int) (f : Tok → Bool) (h : y ≠ 0) : (Rd.mk l e p y).want f = (emp, ⟨l, e, p, y⟩) := if_pos h
theorem want_nil (e p : Int) (f : Tok → Bool) : (Rd.mk [] e p 0).want f = (emp, ⟨[], e, e, 3⟩) := rfl
theorem want_no (t : Tok) (l : List Tok) (e p : Int) (f : Tok → Bool) (h : f t = false) : (Rd.mk (t :: l) e p 0).want f = (emp, ⟨t :: l, e, t.col, 2⟩) := by
  simp only [Rd.want, ne_eq, not_true_eq_false, if_false, h]; rfl
theorem want_yes (t : Tok) (l : List Tok) (e p : Int) (f : Tok → Bool) (h : f t = true) : (Rd.mk (t :: l) e p 0).want f = (t.tx, ⟨l, e, p, 0⟩) := by
  simp only [Rd.want, ne_eq, not_true_eq_false, if_false, if_pos h]; rfl
theorem who_why (l : List Tok) (e p y few : Int) (h : y ≠ 0) : (Rd.mk l e p y).who few = ([], ⟨l, e, p, y⟩) := if_pos h
theorem who_go (l : List Tok) (e p few : Int) : (Rd.mk l e p 0).who few = whoT few l 0 [] e p := if_neg (fun h => h rfl)
theorem endQ_why (l : List Tok) (e p y : Int) (q : Qd) (h : y ≠ 0) : (Rd.mk l e p y).endQ q = (noQd, p, y) := if_pos h
theorem endQ_nil (e p : Int) (q : Qd) : (Rd.mk [] e p 0).endQ q = (q, 0, 0) := rfl
theorem endQ_cons (t : Tok) (l : List Tok) (e p : Int) (q : Qd) : (Rd.mk (t :: l) e p 0).endQ q = (noQd, t.col, 2) := rfl
theorem fitQ_nil (k : Int) (i : Nat) : fitQ k i [] = 0 := by unfold fitQ; rfl
theorem fitQ_cons (k : Int) (i : Nat) (t : Tok) (l : List Tok) : fitQ k i (t :: l) = if i < frontQ k ∧ goesQ k i t = true then fitQ k (i + 1) l + 1 else 0 := by rw [fitQ]
theorem insS_pos (acc : List ByteArray) (x : ByteArray) : 0 < (insSB acc x).length := by
  cases h : hasB acc x with
  | true =>
    rw [insS_hasB h]
    cases acc with
    | nil => cases h
    | cons a r => simp
  | false => rw [insS_len1 h]; omega
theorem who_rest (k : Int) (a b : Rl) (hk : k = 1 ∨ k = 2 ∨ k = 3) (e p : Int) : ∀ (l : List Tok) (n : Nat) (acc : List ByteArray), acc.length ≤ 12 → (acc.length = 0 ↔ n = 0) →
    (whoT (leastI k) l n acc e p).2.endQ ⟨k, a, b, (whoT (leastI k) l n acc e p).1⟩ = restQ k ⟨k, a, b, acc⟩ e l
  | [], n, acc, h12, h0 => by
    by_cases hf : (n : Int) < leastI k
    · have h1 : k ≤ 2 ∧ acc.length = 0 := by
        rcases hk with rfl | rfl | rfl
        · have : leastI 1 = 1 := rfl
          exact ⟨by decide, h0.2 (by omega)⟩
        · have : leastI 2 = 1 := rfl
          exact ⟨by decide, h0.2 (by omega)⟩
        · have : leastI 3 = 0 := rfl
          omega
      rw [show whoT (leastI k) [] n acc e p = (insSB acc emp, ⟨[], e, e, 3⟩) by unfold whoT; exact if_pos hf, endQ_why _ _ _ _ _ (by decide)]
      unfold restQ
      rw [if_pos h1]
    · have h1 : ¬ (k ≤ 2 ∧ acc.length = 0) := by
        rintro ⟨h1, h2⟩
        have hn := h0.1 h2
        rcases hk with rfl | rfl | rfl
        · exact hf (by rw [hn]; decide)
        · exact hf (by rw [hn]; decide)
        · omega
      rw [show whoT (leastI k) [] n acc e p = (acc, ⟨[], e, p, 0⟩) by unfold whoT; exact if_neg hf, endQ_nil]
      unfold restQ
      rw [if_neg h1]
  | t :: l, n, acc, h12, h0 => by
    by_cases h1 : t.kind = 1
    · have hk3 : k ≤ 3 ∧ t.kind = 1 := ⟨by omega, h1⟩
      by_cases hm : acc.length = 12 ∧ hasB acc t.tx = false
      · rw [show whoT (leastI k) (t :: l) n acc e p = ([], ⟨t :: l, e, t.col, 5⟩) by rw [whoT, if_pos h1, if_pos hm], endQ_why _ _ _ _ _ (by decide)]
        rw [restQ, if_pos hk3, if_pos (by show 12 < (insSB acc t.tx).length; rw [insS_len1 hm.2]; omega)]
      · have hl : (insSB acc t.tx).length ≤ 12 := by
          cases h : hasB acc t.tx with
          | true => rw [insS_hasB h]; exact h12
          | false =>
            rw [insS_len1 h]
            have : ¬ acc.length = 12 := fun e => hm ⟨e, h⟩
            omega
        rw [show whoT (leastI k) (t :: l) n acc e p = whoT (leastI k) l (n + 1) (insSB acc t.tx) e p by rw [whoT, if_pos h1, if_neg hm]]
        rw [restQ, if_pos hk3, if_neg (by show ¬ 12 < (insSB acc t.tx).length; omega)]
        exact who_rest k a b hk e p l (n + 1) (insSB acc t.tx) hl ⟨fun h => by have := insS_pos acc t.tx; omega, fun h => by omega⟩
    · rw [show whoT (leastI k) (t :: l) n acc e p = (insSB acc emp, ⟨t :: l, e, t.col, 2⟩) by rw [whoT, if_neg h1], endQ_why _ _ _ _ _ (by decide)]
      rw [restQ, if_neg (fun h => h1 h.2)]
theorem tail_who (k : Int) (a : Rl) (hk : k = 1 ∨ k = 2 ∨ k = 3) (l : List Tok) (e p : Int) : tailQ k a ⟨l, e, p, 0⟩ = restQ k ⟨k, a, noR, []⟩ e l := by
  have hs : secB k = false := by rcases hk with rfl | rfl | rfl <;> rfl
  have hl : 0 ≤ leastI k := by rcases hk with rfl | rfl | rfl <;> decide
  unfold tailQ Rd.roleB Rd.whoB
  simp only [hs, hl, if_true, Bool.false_eq_true, if_false, who_go]
  exact who_rest k a noR hk e p l 0 [] (by simp) (by simp)
theorem tail_none (a : Rl) (l : List Tok) (e p : Int) : tailQ 4 a ⟨l, e, p, 0⟩ = restQ 4 ⟨4, a, noR, []⟩ e l := by
  have hs : secB 4 = false := rfl
  have hl : ¬ 0 ≤ leastI 4 := by decide
  unfold tailQ Rd.roleB Rd.whoB
  simp only [hs, hl, Bool.false_eq_true, if_false]
  cases l with
  | nil => rw [endQ_nil]; rfl
  | cons t l => rw [endQ_cons]; unfold restQ; rw [if_neg (by omega)]
theorem tail_why (k : Int) (a : Rl) (l : List Tok) (e p y : Int) (h : y ≠ 0) : tailQ k a ⟨l, e, p, y⟩ = (noQd, p, y) := by
  unfold tailQ Rd.roleB Rd.whoB
  have hr : (Rd.mk l e p y).role = (noR, ⟨l, e, p, y⟩) := by rw [role_def]; simp only [why_take _ _ _ _ _ h]; rfl
  have h1 : (if secB k = true then (Rd.mk l e p y).role else (noR, Rd.mk l e p y)) = (noR, ⟨l, e, p, y⟩) := by split <;> simp [hr]
  rw [h1]
  dsimp only
  have h2 : (if 0 ≤ leastI k then (Rd.mk l e p y).who (leastI k) else ([], Rd.mk l e p y)) = ([], ⟨l, e, p, y⟩) := by split <;> simp [who_why _ _ _ _ _ h]
  rw [h2]
  exact endQ_why _ _ _ _ _ h
theorem ask_why (l : List Tok) (e p y : Int) (u : Bool) (h : y ≠ 0) : (Rd.mk l e p y).ask u = (0, ⟨l, e, p, y⟩) := by
  unfold Rd.ask Rd.word
  rw [want_why _ _ _ _ _ h]
  rfl
theorem mid_why (l : List Tok) (e p y : Int) (u : Bool) (h : y ≠ 0) : midQ u ⟨l, e, p, y⟩ = (noQd, p, y) := by
  unfold midQ
  have hr : (Rd.mk l e p y).role = (noR, ⟨l, e, p, y⟩) := by rw [role_def]; simp only [why_take _ _ _ _ _ h]; rfl
  rw [hr]
  dsimp only
  rw [ask_why _ _ _ _ _ h]
  exact tail_why _ _ _ _ _ _ h
theorem tail_two (k : Int) (hk : k = 5 ∨ k = 6) (a : Rl) (l : List Tok) (e p : Int) : tailQ k a ⟨l, e, p, 0⟩ = (Rd.mk l e p 0).role.2.endQ ⟨k, a, (Rd.mk l e p 0).role.1, []⟩ := by
  have hs : secB k = true := by rcases hk with rfl | rfl <;> rfl
  have hl : ¬ 0 ≤ leastI k := by rcases hk with rfl | rfl <;> decide
  unfold tailQ Rd.roleB Rd.whoB
  simp only [hs, hl, if_true, if_false]
theorem want_cons (t : Tok) (l : List Tok) (e p : Int) (f : Tok → Bool) : (Rd.mk (t :: l) e p 0).want f = if f t = true then (t.tx, ⟨l, e, p, 0⟩) else (emp, ⟨t :: l, e, t.col, 2⟩) := by
  cases h : f t with
  | true => rw [want_yes _ _ _ _ _ h]; rfl
  | false => rw [want_no _ _ _ _ _ h]; rfl
theorem wordIn2 (a b : ByteArray) (t : Tok) : wordIn [a, b] t = (decide (t.kind = 2) && (decide (a = t.tx) || decide (b = t.tx))) := by simp [wordIn, hasB]
theorem wordIn1 (a : ByteArray) (t : Tok) : wordIn [a] t = (decide (t.kind = 2) && decide (a = t.tx)) := by simp [wordIn, hasB]
theorem wordIn4 (a b c d : ByteArray) (t : Tok) : wordIn [a, b, c, d] t = (decide (t.kind = 2) && (decide (a = t.tx) || decide (b = t.tx) || decide (c = t.tx) || decide (d = t.tx))) := by simp [wordIn, hasB, Bool.or_assoc]
theorem kindW_emp : kindW emp = 0 := by decide
theorem kw1 : kindW wHas = 1 := by decide
theorem kw2 : kindW wHave = 2 := by decide
theorem kw3 : kindW wWithin = 3 := by decide
theorem kw4 : kindW wBe = 4 := by decide
theorem kw5 : kindW wApart = 5 := by decide
theorem kw6 : kindW wIn = 6 := by decide
theorem g0 (k : Int) (t : Tok) : goesQ k 0 t = ((univB k && nameT t wAlways) || (!univB k && nameT t wCan)) := rfl
theorem g1 (k : Int) (t : Tok) : goesQ k 1 t = decide (t.kind = 1) := rfl
theorem g2 (k : Int) (t : Tok) : goesQ k 2 t = decide (t.kind = 3) := rfl
theorem g3 (k : Int) (t : Tok) : goesQ k 3 t = decide (t.kind = 2) := rfl
theorem g4 (k : Int) (t : Tok) : goesQ k 4 t = ((decide (k = 4) && nameT t wBe) || (!decide (k = 4) && nameT t (wordsQ k))) := rfl
theorem g5 (k : Int) (t : Tok) : goesQ k 5 t = ((decide (k = 4) && nameT t wEmpty) || (decide (5 ≤ k) && decide (t.kind = 1))) := rfl
theorem g6 (k : Int) (t : Tok) : goesQ k 6 t = (decide (5 ≤ k) && decide (t.kind = 3)) := rfl
theorem g7 (k : Int) (t : Tok) : goesQ k 7 t = (decide (5 ≤ k) && decide (t.kind = 2)) := rfl
theorem f1 : frontQ 1 = 5 := rfl
theorem f2 : frontQ 2 = 5 := rfl
theorem f3 : frontQ 3 = 5 := rfl
theorem f4 : frontQ 4 = 6 := rfl
theorem f5 : frontQ 5 = 8 := rfl
theorem f6 : frontQ 6 = 8 := rfl
theorem u1 : univB 1 = true := rfl
theorem u2 : univB 2 = false := rfl
theorem u3 : univB 3 = true := rfl
theorem u4 : univB 4 = false := rfl
theorem u5 : univB 5 = true := rfl
theorem u6 : univB 6 = true := rfl
theorem wq1 : wordsQ 1 = wHas := rfl
theorem wq2 : wordsQ 2 = wHave := rfl
theorem wq3 : wordsQ 3 = wWithin := rfl
theorem wq5 : wordsQ 5 = wApart := rfl
theorem wq6 : wordsQ 6 = wIn := rfl
theorem ne_ac : ¬ wAlways = wCan := by decide
theorem ne_ca : ¬ wCan = wAlways := by decide
set_option maxHeartbeats 8000000 in
theorem law_query (l : List Tok) (e : Int) : readQ l e = refQ l e := by
  unfold readQ Rd.word
  rcases l with _ | ⟨t0, l⟩
  · rw [want_nil, mid_why _ _ _ _ _ (by decide)]
    simp (decide := true) [refQ, endQ]
  by_cases h0 : t0.kind = 2
  rotate_left
  · rw [want_no _ _ _ _ _ (by simp [wordIn2, h0]), mid_why _ _ _ _ _ (by decide)]
    simp (decide := true) [refQ, fitQ_cons, endQ, bestQ, g0, nameT, h0]
  by_cases ha : t0.tx = wAlways
  · rw [want_yes _ _ _ _ _ (by simp [wordIn2, h0, ha]), ha, decide_eq_true rfl]
    unfold midQ Rd.ask Rd.word askW
    have hn : ¬ t0.tx = wCan := by rw [ha]; exact ne_ac
    rcases l with _ | ⟨t1, l⟩
    rotate_left
    by_cases h1 : t1.kind = 1
    rcases l with _ | ⟨t2, l⟩
    rotate_left
    by_cases h2 : t2.kind = 3
    rcases l with _ | ⟨t3, l⟩
    rotate_left
    by_cases h3 : t3.kind = 2
    rcases l with _ | ⟨t4, l⟩
    rotate_left
    by_cases h4 : t4.kind = 2
    rotate_left
    all_goals try (simp (decide := true) [role_def, take_no, take_yes, take_nil, why_take, want_nil, want_cons, want_why, wordIn4, kindW_emp, tail_why, refQ, fitQ_nil, fitQ_cons, endQ, bestQ, g0, g1, g2, g3, g4, u1, u2, u3, u4, u5, u6, nameT, *]; done)
    have R : (Rd.mk (t1 :: t2 :: t3 :: t4 :: l) e 0 0).role = (⟨t1.tx, t3.tx⟩, ⟨t4 :: l, e, 0, 0⟩) := by simp (decide := true) [role_def, take_yes, Tok.tx, *]
    rw [R]
    dsimp only
    by_cases c1 : t4.tx = wHas
    · have K1 : fitQ 1 0 (t0 :: t1 :: t2 :: t3 :: t4 :: l) = 5 := by
        cases l <;> simp (decide := true) [fitQ_nil, fitQ_cons, g0, g1, g2, g3, g4, u1, nameT, wq1, *]
      rw [if_pos rfl, want_yes _ _ _ _ _ (by simp [wordIn4, h4, c1]), c1, kw1, if_neg (by decide), tail_who 1 _ (by simp), refQ, if_pos K1]
      rfl
    have K1 : fitQ 1 0 (t0 :: t1 :: t2 :: t3 :: t4 :: l) = 4 := by simp (decide := true) [fitQ_cons, g0, g1, g2, g3, g4, u1, nameT, wq1, *]
    have K2 : fitQ 2 0 (t0 :: t1 :: t2 :: t3 :: t4 :: l) = 0 := by simp (decide := true) [fitQ_cons, g0, u2, nameT, *]
    have K4 : fitQ 4 0 (t0 :: t1 :: t2 :: t3 :: t4 :: l) = 0 := by simp (decide := true) [fitQ_cons, g0, u4, nameT, *]
    by_cases c3 : t4.tx = wWithin
    · have K3 : fitQ 3 0 (t0 :: t1 :: t2 :: t3 :: t4 :: l) = 5 := by
        cases l <;> simp (decide := true) [fitQ_nil, fitQ_cons, g0, g1, g2, g3, g4, u3, nameT, wq3, *]
      rw [if_pos rfl, want_yes _ _ _ _ _ (by simp [wordIn4, h4, c3]), c3, kw3, if_neg (by decide), tail_who 3 _ (by simp), refQ, if_neg (by omega), if_neg (by omega), if_pos K3]
      rfl
    have K3 : fitQ 3 0 (t0 :: t1 :: t2 :: t3 :: t4 :: l) = 4 := by simp (decide := true) [fitQ_cons, g0, g1, g2, g3, g4, u3, nameT, wq3, *]
    by_cases c5 : t4.tx = wApart
    · have K6 : fitQ 6 0 (t0 :: t1 :: t2 :: t3 :: t4 :: l) = 4 := by simp (decide := true) [fitQ_cons, g0, g1, g2, g3, g4, u6, nameT, wq6, *]
      rw [if_pos rfl, want_yes _ _ _ _ _ (by simp [wordIn4, h4, c5]), c5, kw5, if_neg (by decide), tail_two 5 (by simp)]
      have K5 : fitQ 5 0 (t0 :: t1 :: t2 :: t3 :: t4 :: l) = fitQ 5 5 l + 5 := by simp (decide := true) [fitQ_cons, g0, g1, g2, g3, g4, u5, nameT, wq5, *]
      have T1 : txQ (t0 :: t1 :: t2 :: t3 :: t4 :: l) 1 = t1.tx := rfl
      have T3 : txQ (t0 :: t1 :: t2 :: t3 :: t4 :: l) 3 = t3.tx := rfl
      have B : bestQ (t0 :: t1 :: t2 :: t3 :: t4 :: l) = fitQ 5 5 l + 5 := by unfold bestQ; omega
      rw [refQ, if_neg (by omega), if_neg (by omega), if_neg (by omega), if_neg (by omega), endQ, B, K5, K6, kindQ, kindQ, T1, T3]
      clear K1 K2 K3 K4 K5 K6 R T1 T3 B
      rcases l with _ | ⟨t5, l⟩
      rotate_left
      by_cases h5 : t5.kind = 1
      rcases l with _ | ⟨t6, l⟩
      rotate_left
      by_cases h6 : t6.kind = 3
      rcases l with _ | ⟨t7, l⟩
      rotate_left
      by_cases h7 : t7.kind = 2
      rcases l with _ | ⟨t8, l⟩
      all_goals simp [role_def, take_no, take_yes, take_nil, why_take, endQ_why, endQ_nil, endQ_cons, fitQ_nil, fitQ_cons, g5, g6, g7, f5, restQ, txQ, Tok.tx, *]
    have K5 : fitQ 5 0 (t0 :: t1 :: t2 :: t3 :: t4 :: l) = 4 := by simp (decide := true) [fitQ_cons, g0, g1, g2, g3, g4, u5, nameT, wq5, *]
    by_cases c6 : t4.tx = wIn
    · rw [if_pos rfl, want_yes _ _ _ _ _ (by simp [wordIn4, h4, c6]), c6, kw6, if_neg (by decide), tail_two 6 (by simp)]
      have K6 : fitQ 6 0 (t0 :: t1 :: t2 :: t3 :: t4 :: l) = fitQ 6 5 l + 5 := by simp (decide := true) [fitQ_cons, g0, g1, g2, g3, g4, u6, nameT, wq6, *]
      have T1 : txQ (t0 :: t1 :: t2 :: t3 :: t4 :: l) 1 = t1.tx := rfl
      have T3 : txQ (t0 :: t1 :: t2 :: t3 :: t4 :: l) 3 = t3.tx := rfl
      have B : bestQ (t0 :: t1 :: t2 :: t3 :: t4 :: l) = fitQ 6 5 l + 5 := by unfold bestQ; omega
      rw [refQ, if_neg (by omega), if_neg (by omega), if_neg (by omega), if_neg (by omega), endQ, B, K5, K6, kindQ, kindQ, T1, T3]
      clear K1 K2 K3 K4 K5 K6 R T1 T3 B
      rcases l with _ | ⟨t5, l⟩
      rotate_left
      by_cases h5 : t5.kind = 1
      rcases l with _ | ⟨t6, l⟩
      rotate_left
      by_cases h6 : t6.kind = 3
      rcases l with _ | ⟨t7, l⟩
      rotate_left
      by_cases h7 : t7.kind = 2
      rcases l with _ | ⟨t8, l⟩
      all_goals simp [role_def, take_no, take_yes, take_nil, why_take, endQ_why, endQ_nil, endQ_cons, fitQ_nil, fitQ_cons, g5, g6, g7, f6, restQ, txQ, Tok.tx, *]
    have K6 : fitQ 6 0 (t0 :: t1 :: t2 :: t3 :: t4 :: l) = 4 := by simp (decide := true) [fitQ_cons, g0, g1, g2, g3, g4, u6, nameT, wq6, *]
    have B : bestQ (t0 :: t1 :: t2 :: t3 :: t4 :: l) = 4 := by unfold bestQ; omega
    rw [if_pos rfl, want_no _ _ _ _ _ (by simp [wordIn4, Ne.symm c1, Ne.symm c3, Ne.symm c5, Ne.symm c6]), kindW_emp, if_neg (by decide), tail_why _ _ _ _ _ _ (by decide)]
    rw [refQ, if_neg (by omega), if_neg (by omega), if_neg (by omega), if_neg (by omega), if_neg (by omega), if_neg (by omega), endQ, B]
    rw [if_neg (by simp)]
    rfl
  by_cases hc : t0.tx = wCan
  · rw [want_yes _ _ _ _ _ (by simp [wordIn2, h0, hc]), hc, decide_eq_false ne_ca]
    unfold midQ Rd.ask Rd.word askW
    rcases l with _ | ⟨t1, l⟩
    rotate_left
    by_cases h1 : t1.kind = 1
    rcases l with _ | ⟨t2, l⟩
    rotate_left
    by_cases h2 : t2.kind = 3
    rcases l with _ | ⟨t3, l⟩
    rotate_left
    by_cases h3 : t3.kind = 2
    rcases l with _ | ⟨t4, l⟩
    rotate_left
    by_cases h4 : t4.kind = 2
    rotate_left
    all_goals try (simp (decide := true) [role_def, take_no, take_yes, take_nil, why_take, want_nil, want_cons, want_why, wordIn2, kindW_emp, tail_why, refQ, fitQ_nil, fitQ_cons, endQ, bestQ, g0, g1, g2, g3, g4, u1, u2, u3, u4, u5, u6, nameT, *]; done)
    have R : (Rd.mk (t1 :: t2 :: t3 :: t4 :: l) e 0 0).role = (⟨t1.tx, t3.tx⟩, ⟨t4 :: l, e, 0, 0⟩) := by simp [role_def, take_yes, Tok.tx, *]
    rw [R]
    dsimp only
    have K1 : fitQ 1 0 (t0 :: t1 :: t2 :: t3 :: t4 :: l) = 0 := by simp (decide := true) [fitQ_cons, g0, u1, nameT, *]
    have K3 : fitQ 3 0 (t0 :: t1 :: t2 :: t3 :: t4 :: l) = 0 := by simp (decide := true) [fitQ_cons, g0, u3, nameT, *]
    have K5 : fitQ 5 0 (t0 :: t1 :: t2 :: t3 :: t4 :: l) = 0 := by simp (decide := true) [fitQ_cons, g0, u5, nameT, *]
    have K6 : fitQ 6 0 (t0 :: t1 :: t2 :: t3 :: t4 :: l) = 0 := by simp (decide := true) [fitQ_cons, g0, u6, nameT, *]
    by_cases c2 : t4.tx = wHave
    · have K2 : fitQ 2 0 (t0 :: t1 :: t2 :: t3 :: t4 :: l) = 5 := by
        cases l <;> simp (decide := true) [fitQ_nil, fitQ_cons, g0, g1, g2, g3, g4, u2, nameT, wq2, *]
      rw [if_neg (by decide), want_yes _ _ _ _ _ (by simp [wordIn2, h4, c2]), c2, kw2, if_neg (by decide), tail_who 2 _ (by simp), refQ, if_neg (by omega), if_pos K2]
      rfl
    have K2 : fitQ 2 0 (t0 :: t1 :: t2 :: t3 :: t4 :: l) = 4 := by simp (decide := true) [fitQ_cons, g0, g1, g2, g3, g4, u2, nameT, wq2, *]
    by_cases c4 : t4.tx = wBe
    · have K4 : fitQ 4 0 (t0 :: t1 :: t2 :: t3 :: t4 :: l) = fitQ 4 5 l + 5 := by simp (decide := true) [fitQ_cons, g0, g1, g2, g3, g4, u4, nameT, *]
      have B : bestQ (t0 :: t1 :: t2 :: t3 :: t4 :: l) = fitQ 4 5 l + 5 := by unfold bestQ; omega
      rw [if_neg (by decide), want_yes _ _ _ _ _ (by simp [wordIn2, h4, c4]), c4, kw4, if_pos rfl]
      rw [refQ, if_neg (by omega), if_neg (by omega), if_neg (by omega), if_neg (show ¬ fitQ 5 0 _ = 8 by omega), if_neg (show ¬ fitQ 6 0 _ = 8 by omega), endQ, B, K4]
      clear K1 K2 K3 K4 K5 K6 B R
      rcases l with _ | ⟨t5, l⟩
      · rw [want_nil, tail_why _ _ _ _ _ _ (by decide), if_neg (by rw [fitQ_nil]; decide), if_pos (by simp [fitQ_nil])]
      by_cases h5 : t5.kind = 2
      rotate_left
      · have F : fitQ 4 5 (t5 :: l) = 0 := by simp [fitQ_cons, g5, nameT, h5]
        rw [want_no _ _ _ _ _ (by simp [wordIn1, h5]), tail_why _ _ _ _ _ _ (by decide), F, if_neg (by decide), if_neg (by simp)]
        rfl
      by_cases h6 : t5.tx = wEmpty
      · have F : fitQ 4 5 (t5 :: l) = 1 := by cases l <;> simp [fitQ_nil, fitQ_cons, g5, f4, nameT, h5, h6]
        rw [want_yes _ _ _ _ _ (by simp [wordIn1, h5, h6]), tail_none, F, if_pos rfl]
        rfl
      · have F : fitQ 4 5 (t5 :: l) = 0 := by simp [fitQ_cons, g5, nameT, h6]
        rw [want_no _ _ _ _ _ (by simp [wordIn1, Ne.symm h6]), tail_why _ _ _ _ _ _ (by decide), F, if_neg (by decide), if_neg (by simp)]
        rfl
    have K4 : fitQ 4 0 (t0 :: t1 :: t2 :: t3 :: t4 :: l) = 4 := by simp (decide := true) [fitQ_cons, g0, g1, g2, g3, g4, u4, nameT, *]
    have B : bestQ (t0 :: t1 :: t2 :: t3 :: t4 :: l) = 4 := by unfold bestQ; omega
    rw [if_neg (by decide), want_no _ _ _ _ _ (by simp [wordIn2, Ne.symm c2, Ne.symm c4]), kindW_emp, if_neg (by decide), tail_why _ _ _ _ _ _ (by decide)]
    rw [refQ, if_neg (by omega), if_neg (by omega), if_neg (by omega), if_neg (by omega), if_neg (by omega), if_neg (by omega), endQ, B]
    rw [if_neg (by simp)]
    rfl
  · rw [want_no _ _ _ _ _ (by simp [wordIn2, h0, Ne.symm ha, Ne.symm hc]), mid_why _ _ _ _ _ (by decide)]
    simp (decide := true) [refQ, fitQ_cons, endQ, bestQ, g0, nameT, h0, ha, hc]
end Go.Proofs.YtnhkgfgbhedphaaGreatDoor
