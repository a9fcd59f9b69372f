/- query.second, least, Universal, rising, Right (printed by gen_qright.py). Queries and their lines, in plain Lean: what the reader of package query makes of tokens, and the document's answer. The plain law of queries: what the reader makes of any tokens is what the document says. Plain laws of statements and their lines: what is parsed may be; what may be is parsed from its line. strings.Builder, made by the call itself: copyCheck and WriteString at this program: the builder then holds what it held and the new bytes. (The library's own proofs, turned to this translation, in which the panic of copyCheck is refused.). strings.Builder's Grow, and strings.Join, at this program: the pieces with the separator between them. (The library's own proofs, turned to this translation, in which the panic of copyCheck is refused.). The line of a query, and its tokens. -/
import Derived.Test.YtedkkegjiikcmaaDoorPart5
import Derived.Test.YtedkkegjiikcmaaDoorPart3
import Derived.Test.YtedkkegjiikcmaaDoorPart1
import Derived.Shelf.Strings.BuilderK
import Derived.Test.YtedkkegjiikcmaaDoorShelf
import Derived.Shelf.Strings.OnBuilder
namespace Go.Proofs.YtedkkegjiikcmaaDoor
open Go.RowKit Go.Shelf

def secB (k : Int) : Bool := decide (k = 5) || decide (k = 6)
def leastI (k : Int) : Int := if k = 1 ∨ k = 2 then 1 else if k = 3 then 0 else -1
def univB (k : Int) : Bool := decide (k = 1) || decide (k = 3) || decide (k = 5) || decide (k = 6)
theorem query_secondB (k : Int) (w : World) : Calls Tryd.prog 44 #[.int .i64 k] w fun e w' => e = .returned (.bool (secB k)) ∧ w' = w := by
  have R := Lib.hid (show secB k = (decide (k = 5) || decide (k = 6)) from rfl)
  generalize secB k = r at *
  go_enter Tryd.func44, Tryd.ntmps44
  by_cases h5 : k = 5
  · have d5 : (k == 5) = true := by simp [h5]
    have R2 := Lib.hid (show r = true by rw [R.out, decide_eq_true h5]; rfl)
    clear h5
    go_wp2
    go_ret
    exact ⟨ret_b R2.out.symm, rfl⟩
  · have d5 : (k == 5) = false := by simp [h5]
    by_cases h6 : k = 6
    · have d6 : (k == 6) = true := by simp [h6]
      have R2 := Lib.hid (show r = true by rw [R.out, decide_eq_true h6, Bool.or_true])
      clear h5 h6
      go_wp2
      go_ret
      exact ⟨ret_b R2.out.symm, rfl⟩
    · have d6 : (k == 6) = false := by simp [h6]
      have R2 := Lib.hid (show r = false by rw [R.out, decide_eq_false h5, decide_eq_false h6]; rfl)
      clear h5 h6
      go_wp2
      go_ret
      exact ⟨ret_b R2.out.symm, rfl⟩
theorem query_least (k : Int) (w : World) : Calls Tryd.prog 45 #[.int .i64 k] w fun e w' => e = .returned (.int .i64 (leastI k)) ∧ w' = w := by
  have R := Lib.hid (show leastI k = if k = 1 ∨ k = 2 then 1 else if k = 3 then 0 else -1 from rfl)
  generalize leastI k = r at *
  go_enter Tryd.func45, Tryd.ntmps45
  by_cases h1 : k = 1
  · have d1 : (k == 1) = true := by simp [h1]
    have R2 := Lib.hid (show r = 1 by rw [R.out, if_pos (.inl h1)])
    clear h1
    go_wp2
    go_ret
    exact ⟨ret_int R2.out.symm, rfl⟩
  have d1 : (k == 1) = false := by simp [h1]
  by_cases h2 : k = 2
  · have d2 : (k == 2) = true := by simp [h2]
    have R2 := Lib.hid (show r = 1 by rw [R.out, if_pos (.inr h2)])
    clear h1 h2
    go_wp2
    go_ret
    exact ⟨ret_int R2.out.symm, rfl⟩
  have d2 : (k == 2) = false := by simp [h2]
  by_cases h3 : k = 3
  · have d3 : (k == 3) = true := by simp [h3]
    have R2 := Lib.hid (show r = 0 by rw [R.out, if_neg (by omega), if_pos h3])
    clear h1 h2 h3
    go_wp2
    go_ret
    exact ⟨ret_int R2.out.symm, rfl⟩
  · have d3 : (k == 3) = false := by simp [h3]
    have R2 := Lib.hid (show r = -1 by rw [R.out, if_neg (by omega), if_neg h3])
    clear h1 h2 h3
    go_wp2
    go_ret
    exact ⟨ret_int R2.out.symm, rfl⟩
theorem query_Universal (k : Int) (w : World) : Calls Tryd.prog 25 #[.int .i64 k] w fun e w' => e = .returned (.bool (univB k)) ∧ w' = w := by
  have R := Lib.hid (show univB k = (decide (k = 1) || decide (k = 3) || decide (k = 5) || decide (k = 6)) from rfl)
  generalize univB k = r at *
  go_enter Tryd.func25, Tryd.ntmps25
  by_cases h1 : k = 1
  · have d1 : (k == 1) = true := by simp [h1]
    have R2 := Lib.hid (show r = true by rw [R.out, decide_eq_true h1]; rfl)
    clear h1
    go_wp2
    go_ret
    exact ⟨ret_b R2.out.symm, rfl⟩
  have d1 : (k == 1) = false := by simp [h1]
  by_cases h3 : k = 3
  · have d3 : (k == 3) = true := by simp [h3]
    have R2 := Lib.hid (show r = true by rw [R.out, decide_eq_true h3, Bool.or_true]; rfl)
    clear h1 h3
    go_wp2
    go_ret
    exact ⟨ret_b R2.out.symm, rfl⟩
  have d3 : (k == 3) = false := by simp [h3]
  by_cases h5 : k = 5
  · have d5 : (k == 5) = true := by simp [h5]
    have R2 := Lib.hid (show r = true by rw [R.out, decide_eq_true h5, Bool.or_true]; rfl)
    clear h1 h3 h5
    go_wp2
    go_ret
    exact ⟨ret_b R2.out.symm, rfl⟩
  have d5 : (k == 5) = false := by simp [h5]
  by_cases h6 : k = 6
  · have d6 : (k == 6) = true := by simp [h6]
    have R2 := Lib.hid (show r = true by rw [R.out, decide_eq_true h6, Bool.or_true])
    clear h1 h3 h5 h6
    go_wp2
    go_ret
    exact ⟨ret_b R2.out.symm, rfl⟩
  · have d6 : (k == 6) = false := by simp [h6]
    have R2 := Lib.hid (show r = false by rw [R.out, decide_eq_false h1, decide_eq_false h3, decide_eq_false h5, decide_eq_false h6]; rfl)
    clear h1 h3 h5 h6
    go_wp2
    go_ret
    exact ⟨ret_b R2.out.symm, rfl⟩
theorem less_rev {a b : ByteArray} (h : Op.bytesLess a.toList b.toList = true) : Op.bytesLess b.toList a.toList = false ∧ (b.toList == a.toList) = false := by
  rw [← str_less, decide_eq_true_iff] at h
  have h2 := cmpS_neg a b
  refine ⟨by rw [← str_less, decide_eq_false_iff_not]; omega, ?_⟩
  rw [beq_str, decide_eq_false_iff_not]
  intro e
  have := (cmpS_zero b a).2 e
  omega
theorem less_not {a b : ByteArray} (h : Op.bytesLess a.toList b.toList = false) : Op.bytesLess b.toList a.toList = true ∨ (b.toList == a.toList) = true := by
  rw [← str_less, decide_eq_false_iff_not] at h
  have h2 := cmpS_neg a b
  by_cases e : b = a
  · exact .inr (by rw [beq_str, e]; exact decide_eq_true rfl)
  · have : ¬ cmpS b a = 0 := fun h' => e ((cmpS_zero b a).1 h')
    exact .inl (by rw [← str_less, decide_eq_true_iff]; omega)
set_option maxRecDepth 100000 in
set_option maxHeartbeats 2000000 in
theorem query_rising (v : Value) (us : List ByteArray) (w : World) (hu : SlA w 1 v us.length (strs us)) (hz : ∀ s ∈ us, s.size ≤ 9223372036854775807) : Calls Tryd.prog 56 #[v] w fun e w' => e = .returned (.bool (rises us)) ∧ Below w.heap.size w w' := by
  have HU := Lib.hid hu
  have HUZ := Lib.hid hz
  have hmax := hu.max
  obtain ⟨wo, wc, rfl⟩ := hu.form
  clear hu hz
  have RY := Lib.hid (fun k (hk : ¬ k < us.length) h => rises_yes (us := us) (k := k) hk h)
  have RN := Lib.hid (fun k (hk : k < us.length) h => rises_no (us := us) (k := k) hk h)
  generalize rises us = res at RY RN ⊢
  go_enter Tryd.func56, Tryd.ntmps56
  go_wp2_with fail
  go_loopw [7] (fun i wr => ∃ k : Nat, k ≤ us.length ∧ i = .int .i64 k ∧ Hid (Below w.heap.size w wr) ∧ Hid (∀ j, j < k → risesAt us j = true)) (fun i _ => us.length - (intOf i).toNat)
  case atStart => exact ⟨0, by omega, rfl, Lib.hid (Below.refl _ _), Lib.hid (fun j h => absurd h (by omega))⟩
  case round =>
    obtain ⟨k, hk, rfl, HB, HJ⟩ := hrel
    by_cases hlt : k < us.length
    · obtain ⟨b1, o1, c1, he1, hc1, hm1, hb1, hx1⟩ := HU.out.pos (by omega)
      simp only [Value.slice.injEq, true_and] at he1
      obtain ⟨rfl, rfl⟩ := he1
      have p0 := (HB.out.cell (p := ⟨b1, o1 + k, none⟩) hb1).trans (hx1 k _ (strs_get hlt))
      have hbr : b1 < wr.heap.size := Nat.lt_of_lt_of_le hb1 HB.out.size
      have IP := Lib.hid (fun W => names_IsPrin us[k] W (HUZ.out _ (List.getElem_mem hlt)))
      have HRA := Lib.hid (show risesAt us k = (isP 65 90 (bl us[k]) && (decide (k = 0) || Op.bytesLess (us.getD (k - 1) emp).toList us[k].toList)) by unfold risesAt; rw [getD_at hlt])
      have HJS : Hid (risesAt us k = true → ∀ j, j < k + 1 → risesAt us j = true) := Lib.hid (fun h j hj => by
        by_cases e : j = k
        · rw [e]; exact h
        · exact HJ.out j (by omega))
      have HNO := Lib.hid (fun (h : risesAt us k = false) => RN.out k hlt h)
      generalize isP 65 90 (bl us[k]) = rp at IP HRA
      cases rp with
      | false =>
        clear hx1
        go_wp2_with fail
        refine (IP.out _).mono ?_
        rintro e w2 ⟨rfl, rfl⟩
        go_wp2
        go_ret
        exact ⟨ret_b (HNO.out (by rw [HRA.out]; rfl)).symm, HB.out⟩
      | true =>
        by_cases hk0 : k = 0
        · have dk : decide (0 < k) = false := by (rw [decide_eq_false_iff_not]; omega)
          have HS := Lib.hid (HJS.out (by rw [HRA.out, decide_eq_true hk0]; rfl))
          clear hx1 hk0
          go_wp2_with fail
          refine (IP.out _).mono ?_
          rintro e w2 ⟨rfl, rfl⟩
          go_wp2
          exact ⟨⟨k + 1, by omega, by go_num, HB, HS⟩, by simp [intOf]; omega⟩
        · obtain ⟨m, hm⟩ : ∃ m, k = m + 1 := ⟨k - 1, by omega⟩
          have dk : decide (0 < k) = true := by (rw [decide_eq_true_iff]; omega)
          have hw1 : IntKind.i64.wrap ((k : Int) - 1) = (m : Int) := by rw [show (k : Int) - 1 = (m : Int) by omega]; exact Go.IntWalk.i64_in _ (by omega)
          have hml : m < us.length := by omega
          have hmi : (0 : Int) ≤ (m : Int) := by omega
          have q0 := (HB.out.cell (p := ⟨b1, o1 + m, none⟩) hb1).trans (hx1 m _ (strs_get hml))
          rw [decide_eq_false hk0, Bool.false_or, show k - 1 = m by omega, getD_at hml, Bool.true_and] at HRA
          clear hx1 hk0 hm
          go_wp2_with fail
          refine (IP.out _).mono ?_
          rintro e w2 ⟨rfl, rfl⟩
          generalize us[k] = sk at *
          generalize us[m] = sm at *
          cases hbl : Op.bytesLess sm.toList sk.toList with
          | false =>
            have HBL := Lib.hid hbl
            rcases less_not hbl with hl | hl <;> clear hbl
            all_goals
              go_wp2
              go_ret
              exact ⟨ret_b (HNO.out (by rw [HRA.out]; exact HBL.out)).symm, HB.out⟩
          | true =>
            obtain ⟨hl1, hl2⟩ := less_rev hbl
            have HS := Lib.hid (HJS.out (by rw [HRA.out]; exact hbl))
            go_wp2
            exact ⟨⟨k + 1, by omega, by go_num, HB, HS⟩, by simp [intOf]; omega⟩
    · have R := Lib.hid (RY.out k hlt HJ.out)
      go_wp2
      go_ret
      exact ⟨ret_b R.out.symm, HB.out⟩
theorem noR_role : isRole noR = false := by kernel_rfl
set_option maxRecDepth 100000 in
set_option maxHeartbeats 16000000 in
theorem query_RightL (q : Qv) (us : List ByteArray) (w : World) (hla : q.a.le 4294967) (hlb : q.b.le 4294967) (hu1 : SlA w 1 q.w us.length (strs us)) (hu3 : ∀ s ∈ us, s.size ≤ 9223372036854775807) : Calls Tryd.prog 19 #[qv q] w fun e w' => e = .returned (.bool (rightQ q us)) ∧ Below w.heap.size w w' := by
  have RES := Lib.hid (show rightQ q us = (decide (1 ≤ q.k) && (decide (q.k ≤ 6) && (isRole q.a && (rises us && (if 5 ≤ q.k then isRole q.b && decide (us.length = 0) else eqRl q.b noR && (decide (us.length ≤ 12) && (if q.k = 4 then decide (us.length = 0) else decide (q.k = 3) || decide (0 < us.length)))))))) from rfl)
  generalize rightQ q us = res at RES ⊢
  obtain ⟨xk, ⟨x1, x2⟩, ⟨x3, x4⟩, wv⟩ := q
  have hmax := hu1.max
  dsimp only at RES hu1 hla hlb
  have IA := Lib.hid (fun W => syn_IsRole ⟨x1, x2⟩ W hla)
  have IB := Lib.hid (fun W => syn_IsRole ⟨x3, x4⟩ W hlb)
  have RI := Lib.hid (fun W (hb : Below w.heap.size w W) => query_rising wv us W (hu1.below hb) hu3)
  generalize isRole ⟨x1, x2⟩ = ra at IA RES
  generalize rises us = ri at RI RES
  obtain ⟨wo, wc, rfl⟩ := hu1.form
  have HT := Lib.hid (show OneAt w #[.int .i64 xk, .string x1, .string x2, .string x3, .string x4, .slice wo us.length wc] (w.alloc (.cells #[.int .i64 xk, .string x1, .string x2, .string x3, .string x4, .slice wo us.length wc] 31)) from ⟨Blk.new w _ _, (Below.refl _ _).alloc (Nat.le_refl _) _⟩)
  clear hla hlb hu1 hu3
  go_enter Tryd.func19, Tryd.ntmps19
  by_cases k1 : xk < 1
  · have d1 : decide (xk < 1) = true := decide_eq_true k1
    have R := Lib.hid (show res = false by rw [RES.out, decide_eq_false (show ¬ 1 ≤ xk by omega)]; rfl)
    clear k1
    go_wp2
    go_ret
    exact ⟨ret_b R.out.symm, HT.out.low⟩
  have d1 : decide (xk < 1) = false := decide_eq_false k1
  by_cases k6 : 6 < xk
  · have d6 : decide (6 < xk) = true := decide_eq_true k6
    have R := Lib.hid (show res = false by rw [RES.out, decide_eq_true (show 1 ≤ xk by omega), decide_eq_false (show ¬ xk ≤ 6 by omega)]; rfl)
    clear k1 k6
    go_wp2
    go_ret
    exact ⟨ret_b R.out.symm, HT.out.low⟩
  have d6 : decide (6 < xk) = false := decide_eq_false k6
  rw [decide_eq_true (show 1 ≤ xk by omega), decide_eq_true (show xk ≤ 6 by omega), Bool.true_and, Bool.true_and] at RES
  have HK := Lib.hid (And.intro k1 k6)
  clear k1 k6
  go_wp2_with fail
  refine (IA.out _).mono ?_
  rintro e w1 ⟨rfl, hb1⟩
  have HT := Lib.hid (HT.out.later hb1)
  clear hb1
  cases ra with
  | false =>
    go_wp2
    go_ret
    exact ⟨ret_b (by rw [RES.out]; rfl), HT.out.low⟩
  | true =>
  rw [Bool.true_and] at RES
  obtain ⟨ca, fa, za⟩ := HT.out.a
  go_wp2_with fail
  refine (RI.out _ HT.out.low).mono ?_
  rintro e wr ⟨rfl, hb1⟩
  have HT := Lib.hid (HT.out.later hb1)
  clear hb1 ca fa za RI
  cases ri with
  | false =>
    go_wp2
    go_ret
    exact ⟨ret_b (by rw [RES.out]; rfl), HT.out.low⟩
  | true =>
  rw [Bool.true_and] at RES
  have hk : xk = 1 ∨ xk = 2 ∨ xk = 3 ∨ xk = 4 ∨ xk = 5 ∨ xk = 6 := by have := HK.out.1; have := HK.out.2; omega
  clear HK d1 d6
  obtain ⟨eb, heb⟩ : ∃ e, eqRl ⟨x3, x4⟩ ⟨emp, emp⟩ = e := ⟨_, rfl⟩
  have HEB := Lib.hid heb
  have RBN := Lib.hid (fun (h : eb = true) => show isRole ⟨x3, x4⟩ = false by rw [show (⟨x3, x4⟩ : Rl) = noR from of_decide_eq_true (heb.trans h)]; exact noR_role)
  clear heb
  rcases hk with rfl | rfl | rfl | rfl | rfl | rfl
  · have RS : Hid (res = (eqRl ⟨x3, x4⟩ noR && (decide (us.length ≤ 12) && decide (0 < us.length)))) := Lib.hid (RES.out.trans (by rfl))
    clear RES
    rw [show eqRl ⟨x3, x4⟩ noR = eb from HEB.out] at RS
    have SE := Lib.hid (fun W => query_secondB 1 W)
    have SB := Lib.hid (show secB 1 = false from rfl)
    rw [SB.out] at SE
    have LE := Lib.hid (fun W => query_least 1 W)
    rw [show leastI 1 = 1 from rfl] at LE
    have HNe := fun W => role_neq x3 x4 emp emp W
    rw [show eqRl ⟨x3, x4⟩ ⟨emp, emp⟩ = eb from HEB.out] at HNe
    cases eb with
    | false =>
      simp only [Bool.not_false] at HNe
      go_wp2_with fail
      refine wp_region_held_drew (S := (fun W => ∀ o, W.cell? ⟨w.heap.size, o, none⟩ = (#[.int .i64 1, .string x1, .string x2, .string x3, .string x4, .slice wo us.length wc] : Array Value)[o]?)) (by kernel_rfl) HT.out.drew.a.1 (fun hHeld => ?_)
      have HT := HT.out.drew
      obtain ⟨wk, hwk⟩ : ∃ W, W = wr.drew := ⟨_, rfl⟩
      rw [← hwk] at HT hHeld ⊢
      clear hwk
      (refine hyes 0 ?_); (refine hyes 1 ?_); (refine hyes 3 ?_); (refine hyes 4 ?_); (refine hyes 5 ?_); (refine hyes 6 ?_); (try simp only [Act.put, List.setIfInBounds_toArray, List.set])
      (refine held_call 2 rfl (by kernel_rfl) (fun K hK => ?_); go_simp)
      go_at_call 44; refine (SE.out _).mono ?_; rintro e wz2 ⟨rfl, rfl⟩
      (refine hK.out _ _ ((HT.a.1)) (fun hHeld => ?_); clear hK K; (try simp only [Act.put, List.setIfInBounds_toArray, List.set]))
      (refine hyes 7 ?_); (refine hyes 8 ?_); (try simp only [Act.put, List.setIfInBounds_toArray, List.set])
      (refine hno 9 ?_); (try simp only [Act.put, List.setIfInBounds_toArray, List.set])
      (refine hno 10 ?_); (try simp only [Act.put, List.setIfInBounds_toArray, List.set])
      (refine hno 11 ?_); (try simp only [Act.put, List.setIfInBounds_toArray, List.set])
      (refine hno 12 ?_); (try simp only [Act.put, List.setIfInBounds_toArray, List.set])
      (refine hno 13 ?_); (try simp only [Act.put, List.setIfInBounds_toArray, List.set])
      (refine hno 14 ?_); (try simp only [Act.put, List.setIfInBounds_toArray, List.set])
      (refine hno 15 ?_); (try simp only [Act.put, List.setIfInBounds_toArray, List.set])
      (refine hno 16 ?_); (try simp only [Act.put, List.setIfInBounds_toArray, List.set])
      (refine hno 17 ?_); (try simp only [Act.put, List.setIfInBounds_toArray, List.set])
      (refine hyes 18 ?_); (try simp only [Act.put, List.setIfInBounds_toArray, List.set])
      refine wpAnyH_done (by kernel_rfl) ?_ _
      have HTr := Lib.hid HT
      clear HT
      go_wp2_with fail
      go_ret
      exact ⟨ret_b (by rw [RS.out]; first | rfl | (simp [noR_role]) | (cases rb <;> simp_all)), HTr.out.low⟩
    | true =>
      simp only [Bool.not_true] at HNe
      go_wp2_with fail
      refine wp_region_held_drew (S := (fun W => ∀ o, W.cell? ⟨w.heap.size, o, none⟩ = (#[.int .i64 1, .string x1, .string x2, .string x3, .string x4, .slice wo us.length wc] : Array Value)[o]?)) (by kernel_rfl) HT.out.drew.a.1 (fun hHeld => ?_)
      have HT := HT.out.drew
      obtain ⟨wk, hwk⟩ : ∃ W, W = wr.drew := ⟨_, rfl⟩
      rw [← hwk] at HT hHeld ⊢
      clear hwk
      (refine hyes 0 ?_); (refine hyes 1 ?_); (refine hyes 3 ?_); (refine hyes 4 ?_); (refine hyes 5 ?_); (refine hyes 6 ?_); (try simp only [Act.put, List.setIfInBounds_toArray, List.set])
      (refine held_call 2 rfl (by kernel_rfl) (fun K hK => ?_); go_simp)
      go_at_call 44; refine (SE.out _).mono ?_; rintro e wz2 ⟨rfl, rfl⟩
      (refine hK.out _ _ ((HT.a.1)) (fun hHeld => ?_); clear hK K; (try simp only [Act.put, List.setIfInBounds_toArray, List.set]))
      (refine hyes 7 ?_); (refine hyes 8 ?_); (refine hyes 9 ?_); (refine hyes 10 ?_); (try simp only [Act.put, List.setIfInBounds_toArray, List.set])
      (refine held_call 11 rfl (by kernel_rfl) (fun K hK => ?_); go_simp)
      go_at_call 44; refine (SE.out _).mono ?_; rintro e wz11 ⟨rfl, rfl⟩
      (refine hK.out _ _ ((HT.a.1)) (fun hHeld => ?_); clear hK K; (try simp only [Act.put, List.setIfInBounds_toArray, List.set]))
      (refine hyes 12 ?_); (try simp only [Act.put, List.setIfInBounds_toArray, List.set])
      (refine hno 13 ?_); (try simp only [Act.put, List.setIfInBounds_toArray, List.set])
      (refine hno 14 ?_); (try simp only [Act.put, List.setIfInBounds_toArray, List.set])
      (refine hno 15 ?_); (try simp only [Act.put, List.setIfInBounds_toArray, List.set])
      (refine hno 16 ?_); (try simp only [Act.put, List.setIfInBounds_toArray, List.set])
      (refine hyes 17 ?_); (refine hyes 18 ?_); (try simp only [Act.put, List.setIfInBounds_toArray, List.set])
      refine wpAnyH_done (by kernel_rfl) ?_ _
      have HTr := Lib.hid HT
      clear HT
      obtain ⟨ca, fa, za⟩ := HTr.out.a
      go_wp2_with fail
      refine (LE.out _).mono ?_
      rintro e wl ⟨rfl, rfl⟩
      by_cases h0 : us.length = 0
      · have e0 : ((us.length : Int) == 0) = true := by rw [beq_iff_eq]; omega
        have e3 : decide ((us.length : Int) ≤ 12) = true := decide_eq_true (by omega)
        have e4 : decide ((1 : Int) ≤ (us.length : Int)) = false := decide_eq_false (by omega)
        have e5 : decide ((0 : Int) ≤ (us.length : Int)) = true := decide_eq_true (by omega)
        rw [h0] at RS
        go_wp2_with fail
        go_ret
        exact ⟨ret_b (by rw [RS.out]; rfl), HTr.out.low⟩
      · by_cases h12 : us.length ≤ 12
        · have e0 : ((us.length : Int) == 0) = false := by rw [beq_eq_false_iff_ne]; omega
          have e3 : decide ((us.length : Int) ≤ 12) = true := decide_eq_true (by omega)
          have e4 : decide ((1 : Int) ≤ (us.length : Int)) = true := decide_eq_true (by omega)
          have e5 : decide ((0 : Int) ≤ (us.length : Int)) = true := decide_eq_true (by omega)
          (try rw [decide_eq_false h0] at RS); (try rw [decide_eq_true h12] at RS); (try rw [decide_eq_true (show 0 < us.length by omega)] at RS)
          go_wp2_with fail
          go_ret
          exact ⟨ret_b (by rw [RS.out]; rfl), HTr.out.low⟩
        · have e0 : ((us.length : Int) == 0) = false := by rw [beq_eq_false_iff_ne]; omega
          have e3 : decide ((us.length : Int) ≤ 12) = false := decide_eq_false (by omega)
          have e4 : decide ((1 : Int) ≤ (us.length : Int)) = true := decide_eq_true (by omega)
          have e5 : decide ((0 : Int) ≤ (us.length : Int)) = true := decide_eq_true (by omega)
          (try rw [decide_eq_false h0] at RS); (try rw [decide_eq_false h12] at RS); (try rw [decide_eq_true (show 0 < us.length by omega)] at RS)
          go_wp2_with fail
          go_ret
          exact ⟨ret_b (by rw [RS.out]; rfl), HTr.out.low⟩
  · have RS : Hid (res = (eqRl ⟨x3, x4⟩ noR && (decide (us.length ≤ 12) && decide (0 < us.length)))) := Lib.hid (RES.out.trans (by rfl))
    clear RES
    rw [show eqRl ⟨x3, x4⟩ noR = eb from HEB.out] at RS
    have SE := Lib.hid (fun W => query_secondB 2 W)
    have SB := Lib.hid (show secB 2 = false from rfl)
    rw [SB.out] at SE
    have LE := Lib.hid (fun W => query_least 2 W)
    rw [show leastI 2 = 1 from rfl] at LE
    have HNe := fun W => role_neq x3 x4 emp emp W
    rw [show eqRl ⟨x3, x4⟩ ⟨emp, emp⟩ = eb from HEB.out] at HNe
    cases eb with
    | false =>
      simp only [Bool.not_false] at HNe
      go_wp2_with fail
      refine wp_region_held_drew (S := (fun W => ∀ o, W.cell? ⟨w.heap.size, o, none⟩ = (#[.int .i64 2, .string x1, .string x2, .string x3, .string x4, .slice wo us.length wc] : Array Value)[o]?)) (by kernel_rfl) HT.out.drew.a.1 (fun hHeld => ?_)
      have HT := HT.out.drew
      obtain ⟨wk, hwk⟩ : ∃ W, W = wr.drew := ⟨_, rfl⟩
      rw [← hwk] at HT hHeld ⊢
      clear hwk
      (refine hyes 0 ?_); (refine hyes 1 ?_); (refine hyes 3 ?_); (refine hyes 4 ?_); (refine hyes 5 ?_); (refine hyes 6 ?_); (try simp only [Act.put, List.setIfInBounds_toArray, List.set])
      (refine held_call 2 rfl (by kernel_rfl) (fun K hK => ?_); go_simp)
      go_at_call 44; refine (SE.out _).mono ?_; rintro e wz2 ⟨rfl, rfl⟩
      (refine hK.out _ _ ((HT.a.1)) (fun hHeld => ?_); clear hK K; (try simp only [Act.put, List.setIfInBounds_toArray, List.set]))
      (refine hyes 7 ?_); (refine hyes 8 ?_); (try simp only [Act.put, List.setIfInBounds_toArray, List.set])
      (refine hno 9 ?_); (try simp only [Act.put, List.setIfInBounds_toArray, List.set])
      (refine hno 10 ?_); (try simp only [Act.put, List.setIfInBounds_toArray, List.set])
      (refine hno 11 ?_); (try simp only [Act.put, List.setIfInBounds_toArray, List.set])
      (refine hno 12 ?_); (try simp only [Act.put, List.setIfInBounds_toArray, List.set])
      (refine hno 13 ?_); (try simp only [Act.put, List.setIfInBounds_toArray, List.set])
      (refine hno 14 ?_); (try simp only [Act.put, List.setIfInBounds_toArray, List.set])
      (refine hno 15 ?_); (try simp only [Act.put, List.setIfInBounds_toArray, List.set])
      (refine hno 16 ?_); (try simp only [Act.put, List.setIfInBounds_toArray, List.set])
      (refine hno 17 ?_); (try simp only [Act.put, List.setIfInBounds_toArray, List.set])
      (refine hyes 18 ?_); (try simp only [Act.put, List.setIfInBounds_toArray, List.set])
      refine wpAnyH_done (by kernel_rfl) ?_ _
      have HTr := Lib.hid HT
      clear HT
      go_wp2_with fail
      go_ret
      exact ⟨ret_b (by rw [RS.out]; first | rfl | (simp [noR_role]) | (cases rb <;> simp_all)), HTr.out.low⟩
    | true =>
      simp only [Bool.not_true] at HNe
      go_wp2_with fail
      refine wp_region_held_drew (S := (fun W => ∀ o, W.cell? ⟨w.heap.size, o, none⟩ = (#[.int .i64 2, .string x1, .string x2, .string x3, .string x4, .slice wo us.length wc] : Array Value)[o]?)) (by kernel_rfl) HT.out.drew.a.1 (fun hHeld => ?_)
      have HT := HT.out.drew
      obtain ⟨wk, hwk⟩ : ∃ W, W = wr.drew := ⟨_, rfl⟩
      rw [← hwk] at HT hHeld ⊢
      clear hwk
      (refine hyes 0 ?_); (refine hyes 1 ?_); (refine hyes 3 ?_); (refine hyes 4 ?_); (refine hyes 5 ?_); (refine hyes 6 ?_); (try simp only [Act.put, List.setIfInBounds_toArray, List.set])
      (refine held_call 2 rfl (by kernel_rfl) (fun K hK => ?_); go_simp)
      go_at_call 44; refine (SE.out _).mono ?_; rintro e wz2 ⟨rfl, rfl⟩
      (refine hK.out _ _ ((HT.a.1)) (fun hHeld => ?_); clear hK K; (try simp only [Act.put, List.setIfInBounds_toArray, List.set]))
      (refine hyes 7 ?_); (refine hyes 8 ?_); (refine hyes 9 ?_); (refine hyes 10 ?_); (try simp only [Act.put, List.setIfInBounds_toArray, List.set])
      (refine held_call 11 rfl (by kernel_rfl) (fun K hK => ?_); go_simp)
      go_at_call 44; refine (SE.out _).mono ?_; rintro e wz11 ⟨rfl, rfl⟩
      (refine hK.out _ _ ((HT.a.1)) (fun hHeld => ?_); clear hK K; (try simp only [Act.put, List.setIfInBounds_toArray, List.set]))
      (refine hyes 12 ?_); (try simp only [Act.put, List.setIfInBounds_toArray, List.set])
      (refine hno 13 ?_); (try simp only [Act.put, List.setIfInBounds_toArray, List.set])
      (refine hno 14 ?_); (try simp only [Act.put, List.setIfInBounds_toArray, List.set])
      (refine hno 15 ?_); (try simp only [Act.put, List.setIfInBounds_toArray, List.set])
      (refine hno 16 ?_); (try simp only [Act.put, List.setIfInBounds_toArray, List.set])
      (refine hyes 17 ?_); (refine hyes 18 ?_); (try simp only [Act.put, List.setIfInBounds_toArray, List.set])
      refine wpAnyH_done (by kernel_rfl) ?_ _
      have HTr := Lib.hid HT
      clear HT
      obtain ⟨ca, fa, za⟩ := HTr.out.a
      go_wp2_with fail
      refine (LE.out _).mono ?_
      rintro e wl ⟨rfl, rfl⟩
      by_cases h0 : us.length = 0
      · have e0 : ((us.length : Int) == 0) = true := by rw [beq_iff_eq]; omega
        have e3 : decide ((us.length : Int) ≤ 12) = true := decide_eq_true (by omega)
        have e4 : decide ((1 : Int) ≤ (us.length : Int)) = false := decide_eq_false (by omega)
        have e5 : decide ((0 : Int) ≤ (us.length : Int)) = true := decide_eq_true (by omega)
        rw [h0] at RS
        go_wp2_with fail
        go_ret
        exact ⟨ret_b (by rw [RS.out]; rfl), HTr.out.low⟩
      · by_cases h12 : us.length ≤ 12
        · have e0 : ((us.length : Int) == 0) = false := by rw [beq_eq_false_iff_ne]; omega
          have e3 : decide ((us.length : Int) ≤ 12) = true := decide_eq_true (by omega)
          have e4 : decide ((1 : Int) ≤ (us.length : Int)) = true := decide_eq_true (by omega)
          have e5 : decide ((0 : Int) ≤ (us.length : Int)) = true := decide_eq_true (by omega)
          (try rw [decide_eq_false h0] at RS); (try rw [decide_eq_true h12] at RS); (try rw [decide_eq_true (show 0 < us.length by omega)] at RS)
          go_wp2_with fail
          go_ret
          exact ⟨ret_b (by rw [RS.out]; rfl), HTr.out.low⟩
        · have e0 : ((us.length : Int) == 0) = false := by rw [beq_eq_false_iff_ne]; omega
          have e3 : decide ((us.length : Int) ≤ 12) = false := decide_eq_false (by omega)
          have e4 : decide ((1 : Int) ≤ (us.length : Int)) = true := decide_eq_true (by omega)
          have e5 : decide ((0 : Int) ≤ (us.length : Int)) = true := decide_eq_true (by omega)
          (try rw [decide_eq_false h0] at RS); (try rw [decide_eq_false h12] at RS); (try rw [decide_eq_true (show 0 < us.length by omega)] at RS)
          go_wp2_with fail
          go_ret
          exact ⟨ret_b (by rw [RS.out]; rfl), HTr.out.low⟩
  · have RS : Hid (res = (eqRl ⟨x3, x4⟩ noR && (decide (us.length ≤ 12) && true))) := Lib.hid (RES.out.trans (by rfl))
    clear RES
    rw [show eqRl ⟨x3, x4⟩ noR = eb from HEB.out] at RS
    have SE := Lib.hid (fun W => query_secondB 3 W)
    have SB := Lib.hid (show secB 3 = false from rfl)
    rw [SB.out] at SE
    have LE := Lib.hid (fun W => query_least 3 W)
    rw [show leastI 3 = 0 from rfl] at LE
    have HNe := fun W => role_neq x3 x4 emp emp W
    rw [show eqRl ⟨x3, x4⟩ ⟨emp, emp⟩ = eb from HEB.out] at HNe
    cases eb with
    | false =>
      simp only [Bool.not_false] at HNe
      go_wp2_with fail
      refine wp_region_held_drew (S := (fun W => ∀ o, W.cell? ⟨w.heap.size, o, none⟩ = (#[.int .i64 3, .string x1, .string x2, .string x3, .string x4, .slice wo us.length wc] : Array Value)[o]?)) (by kernel_rfl) HT.out.drew.a.1 (fun hHeld => ?_)
      have HT := HT.out.drew
      obtain ⟨wk, hwk⟩ : ∃ W, W = wr.drew := ⟨_, rfl⟩
      rw [← hwk] at HT hHeld ⊢
      clear hwk
      (refine hyes 0 ?_); (refine hyes 1 ?_); (refine hyes 3 ?_); (refine hyes 4 ?_); (refine hyes 5 ?_); (refine hyes 6 ?_); (try simp only [Act.put, List.setIfInBounds_toArray, List.set])
      (refine held_call 2 rfl (by kernel_rfl) (fun K hK => ?_); go_simp)
      go_at_call 44; refine (SE.out _).mono ?_; rintro e wz2 ⟨rfl, rfl⟩
      (refine hK.out _ _ ((HT.a.1)) (fun hHeld => ?_); clear hK K; (try simp only [Act.put, List.setIfInBounds_toArray, List.set]))
      (refine hyes 7 ?_); (refine hyes 8 ?_); (try simp only [Act.put, List.setIfInBounds_toArray, List.set])
      (refine hno 9 ?_); (try simp only [Act.put, List.setIfInBounds_toArray, List.set])
      (refine hno 10 ?_); (try simp only [Act.put, List.setIfInBounds_toArray, List.set])
      (refine hno 11 ?_); (try simp only [Act.put, List.setIfInBounds_toArray, List.set])
      (refine hno 12 ?_); (try simp only [Act.put, List.setIfInBounds_toArray, List.set])
      (refine hno 13 ?_); (try simp only [Act.put, List.setIfInBounds_toArray, List.set])
      (refine hno 14 ?_); (try simp only [Act.put, List.setIfInBounds_toArray, List.set])
      (refine hno 15 ?_); (try simp only [Act.put, List.setIfInBounds_toArray, List.set])
      (refine hno 16 ?_); (try simp only [Act.put, List.setIfInBounds_toArray, List.set])
      (refine hno 17 ?_); (try simp only [Act.put, List.setIfInBounds_toArray, List.set])
      (refine hyes 18 ?_); (try simp only [Act.put, List.setIfInBounds_toArray, List.set])
      refine wpAnyH_done (by kernel_rfl) ?_ _
      have HTr := Lib.hid HT
      clear HT
      go_wp2_with fail
      go_ret
      exact ⟨ret_b (by rw [RS.out]; first | rfl | (simp [noR_role]) | (cases rb <;> simp_all)), HTr.out.low⟩
    | true =>
      simp only [Bool.not_true] at HNe
      go_wp2_with fail
      refine wp_region_held_drew (S := (fun W => ∀ o, W.cell? ⟨w.heap.size, o, none⟩ = (#[.int .i64 3, .string x1, .string x2, .string x3, .string x4, .slice wo us.length wc] : Array Value)[o]?)) (by kernel_rfl) HT.out.drew.a.1 (fun hHeld => ?_)
      have HT := HT.out.drew
      obtain ⟨wk, hwk⟩ : ∃ W, W = wr.drew := ⟨_, rfl⟩
      rw [← hwk] at HT hHeld ⊢
      clear hwk
      (refine hyes 0 ?_); (refine hyes 1 ?_); (refine hyes 3 ?_); (refine hyes 4 ?_); (refine hyes 5 ?_); (refine hyes 6 ?_); (try simp only [Act.put, List.setIfInBounds_toArray, List.set])
      (refine held_call 2 rfl (by kernel_rfl) (fun K hK => ?_); go_simp)
      go_at_call 44; refine (SE.out _).mono ?_; rintro e wz2 ⟨rfl, rfl⟩
      (refine hK.out _ _ ((HT.a.1)) (fun hHeld => ?_); clear hK K; (try simp only [Act.put, List.setIfInBounds_toArray, List.set]))
      (refine hyes 7 ?_); (refine hyes 8 ?_); (refine hyes 9 ?_); (refine hyes 10 ?_); (try simp only [Act.put, List.setIfInBounds_toArray, List.set])
      (refine held_call 11 rfl (by kernel_rfl) (fun K hK => ?_); go_simp)
      go_at_call 44; refine (SE.out _).mono ?_; rintro e wz11 ⟨rfl, rfl⟩
      (refine hK.out _ _ ((HT.a.1)) (fun hHeld => ?_); clear hK K; (try simp only [Act.put, List.setIfInBounds_toArray, List.set]))
      (refine hyes 12 ?_); (try simp only [Act.put, List.setIfInBounds_toArray, List.set])
      (refine hno 13 ?_); (try simp only [Act.put, List.setIfInBounds_toArray, List.set])
      (refine hno 14 ?_); (try simp only [Act.put, List.setIfInBounds_toArray, List.set])
      (refine hno 15 ?_); (try simp only [Act.put, List.setIfInBounds_toArray, List.set])
      (refine hno 16 ?_); (try simp only [Act.put, List.setIfInBounds_toArray, List.set])
      (refine hyes 17 ?_); (refine hyes 18 ?_); (try simp only [Act.put, List.setIfInBounds_toArray, List.set])
      refine wpAnyH_done (by kernel_rfl) ?_ _
      have HTr := Lib.hid HT
      clear HT
      obtain ⟨ca, fa, za⟩ := HTr.out.a
      go_wp2_with fail
      refine (LE.out _).mono ?_
      rintro e wl ⟨rfl, rfl⟩
      by_cases h0 : us.length = 0
      · have e0 : ((us.length : Int) == 0) = true := by rw [beq_iff_eq]; omega
        have e3 : decide ((us.length : Int) ≤ 12) = true := decide_eq_true (by omega)
        have e4 : decide ((1 : Int) ≤ (us.length : Int)) = false := decide_eq_false (by omega)
        have e5 : decide ((0 : Int) ≤ (us.length : Int)) = true := decide_eq_true (by omega)
        rw [h0] at RS
        go_wp2_with fail
        go_ret
        exact ⟨ret_b (by rw [RS.out]; rfl), HTr.out.low⟩
      · by_cases h12 : us.length ≤ 12
        · have e0 : ((us.length : Int) == 0) = false := by rw [beq_eq_false_iff_ne]; omega
          have e3 : decide ((us.length : Int) ≤ 12) = true := decide_eq_true (by omega)
          have e4 : decide ((1 : Int) ≤ (us.length : Int)) = true := decide_eq_true (by omega)
          have e5 : decide ((0 : Int) ≤ (us.length : Int)) = true := decide_eq_true (by omega)
          (try rw [decide_eq_false h0] at RS); (try rw [decide_eq_true h12] at RS); (try rw [decide_eq_true (show 0 < us.length by omega)] at RS)
          go_wp2_with fail
          go_ret
          exact ⟨ret_b (by rw [RS.out]; rfl), HTr.out.low⟩
        · have e0 : ((us.length : Int) == 0) = false := by rw [beq_eq_false_iff_ne]; omega
          have e3 : decide ((us.length : Int) ≤ 12) = false := decide_eq_false (by omega)
          have e4 : decide ((1 : Int) ≤ (us.length : Int)) = true := decide_eq_true (by omega)
          have e5 : decide ((0 : Int) ≤ (us.length : Int)) = true := decide_eq_true (by omega)
          (try rw [decide_eq_false h0] at RS); (try rw [decide_eq_false h12] at RS); (try rw [decide_eq_true (show 0 < us.length by omega)] at RS)
          go_wp2_with fail
          go_ret
          exact ⟨ret_b (by rw [RS.out]; rfl), HTr.out.low⟩
  · have RS : Hid (res = (eqRl ⟨x3, x4⟩ noR && (decide (us.length ≤ 12) && decide (us.length = 0)))) := Lib.hid (RES.out.trans (by rfl))
    clear RES
    rw [show eqRl ⟨x3, x4⟩ noR = eb from HEB.out] at RS
    have SE := Lib.hid (fun W => query_secondB 4 W)
    have SB := Lib.hid (show secB 4 = false from rfl)
    rw [SB.out] at SE
    have LE := Lib.hid (fun W => query_least 4 W)
    rw [show leastI 4 = -1 from rfl] at LE
    have HNe := fun W => role_neq x3 x4 emp emp W
    rw [show eqRl ⟨x3, x4⟩ ⟨emp, emp⟩ = eb from HEB.out] at HNe
    cases eb with
    | false =>
      simp only [Bool.not_false] at HNe
      go_wp2_with fail
      refine wp_region_held_drew (S := (fun W => ∀ o, W.cell? ⟨w.heap.size, o, none⟩ = (#[.int .i64 4, .string x1, .string x2, .string x3, .string x4, .slice wo us.length wc] : Array Value)[o]?)) (by kernel_rfl) HT.out.drew.a.1 (fun hHeld => ?_)
      have HT := HT.out.drew
      obtain ⟨wk, hwk⟩ : ∃ W, W = wr.drew := ⟨_, rfl⟩
      rw [← hwk] at HT hHeld ⊢
      clear hwk
      (refine hyes 0 ?_); (refine hyes 1 ?_); (refine hyes 3 ?_); (refine hyes 4 ?_); (refine hyes 5 ?_); (refine hyes 6 ?_); (try simp only [Act.put, List.setIfInBounds_toArray, List.set])
      (refine held_call 2 rfl (by kernel_rfl) (fun K hK => ?_); go_simp)
      go_at_call 44; refine (SE.out _).mono ?_; rintro e wz2 ⟨rfl, rfl⟩
      (refine hK.out _ _ ((HT.a.1)) (fun hHeld => ?_); clear hK K; (try simp only [Act.put, List.setIfInBounds_toArray, List.set]))
      (refine hyes 7 ?_); (refine hyes 8 ?_); (try simp only [Act.put, List.setIfInBounds_toArray, List.set])
      (refine hno 9 ?_); (try simp only [Act.put, List.setIfInBounds_toArray, List.set])
      (refine hno 10 ?_); (try simp only [Act.put, List.setIfInBounds_toArray, List.set])
      (refine hno 11 ?_); (try simp only [Act.put, List.setIfInBounds_toArray, List.set])
      (refine hno 12 ?_); (try simp only [Act.put, List.setIfInBounds_toArray, List.set])
      (refine hno 13 ?_); (try simp only [Act.put, List.setIfInBounds_toArray, List.set])
      (refine hno 14 ?_); (try simp only [Act.put, List.setIfInBounds_toArray, List.set])
      (refine hno 15 ?_); (try simp only [Act.put, List.setIfInBounds_toArray, List.set])
      (refine hno 16 ?_); (try simp only [Act.put, List.setIfInBounds_toArray, List.set])
      (refine hno 17 ?_); (try simp only [Act.put, List.setIfInBounds_toArray, List.set])
      (refine hyes 18 ?_); (try simp only [Act.put, List.setIfInBounds_toArray, List.set])
      refine wpAnyH_done (by kernel_rfl) ?_ _
      have HTr := Lib.hid HT
      clear HT
      go_wp2_with fail
      go_ret
      exact ⟨ret_b (by rw [RS.out]; first | rfl | (simp [noR_role]) | (cases rb <;> simp_all)), HTr.out.low⟩
    | true =>
      simp only [Bool.not_true] at HNe
      go_wp2_with fail
      refine wp_region_held_drew (S := (fun W => ∀ o, W.cell? ⟨w.heap.size, o, none⟩ = (#[.int .i64 4, .string x1, .string x2, .string x3, .string x4, .slice wo us.length wc] : Array Value)[o]?)) (by kernel_rfl) HT.out.drew.a.1 (fun hHeld => ?_)
      have HT := HT.out.drew
      obtain ⟨wk, hwk⟩ : ∃ W, W = wr.drew := ⟨_, rfl⟩
      rw [← hwk] at HT hHeld ⊢
      clear hwk
      (refine hyes 0 ?_); (refine hyes 1 ?_); (refine hyes 3 ?_); (refine hyes 4 ?_); (refine hyes 5 ?_); (refine hyes 6 ?_); (try simp only [Act.put, List.setIfInBounds_toArray, List.set])
      (refine held_call 2 rfl (by kernel_rfl) (fun K hK => ?_); go_simp)
      go_at_call 44; refine (SE.out _).mono ?_; rintro e wz2 ⟨rfl, rfl⟩
      (refine hK.out _ _ ((HT.a.1)) (fun hHeld => ?_); clear hK K; (try simp only [Act.put, List.setIfInBounds_toArray, List.set]))
      (refine hyes 7 ?_); (refine hyes 8 ?_); (refine hyes 9 ?_); (refine hyes 10 ?_); (try simp only [Act.put, List.setIfInBounds_toArray, List.set])
      (refine held_call 11 rfl (by kernel_rfl) (fun K hK => ?_); go_simp)
      go_at_call 44; refine (SE.out _).mono ?_; rintro e wz11 ⟨rfl, rfl⟩
      (refine hK.out _ _ ((HT.a.1)) (fun hHeld => ?_); clear hK K; (try simp only [Act.put, List.setIfInBounds_toArray, List.set]))
      (refine hyes 12 ?_); (try simp only [Act.put, List.setIfInBounds_toArray, List.set])
      (refine hno 13 ?_); (try simp only [Act.put, List.setIfInBounds_toArray, List.set])
      (refine hno 14 ?_); (try simp only [Act.put, List.setIfInBounds_toArray, List.set])
      (refine hno 15 ?_); (try simp only [Act.put, List.setIfInBounds_toArray, List.set])
      (refine hno 16 ?_); (try simp only [Act.put, List.setIfInBounds_toArray, List.set])
      (refine hyes 17 ?_); (refine hyes 18 ?_); (try simp only [Act.put, List.setIfInBounds_toArray, List.set])
      refine wpAnyH_done (by kernel_rfl) ?_ _
      have HTr := Lib.hid HT
      clear HT
      obtain ⟨ca, fa, za⟩ := HTr.out.a
      go_wp2_with fail
      refine (LE.out _).mono ?_
      rintro e wl ⟨rfl, rfl⟩
      by_cases h0 : us.length = 0
      · have e0 : ((us.length : Int) == 0) = true := by rw [beq_iff_eq]; omega
        have e3 : decide ((us.length : Int) ≤ 12) = true := decide_eq_true (by omega)
        have e4 : decide ((1 : Int) ≤ (us.length : Int)) = false := decide_eq_false (by omega)
        have e5 : decide ((0 : Int) ≤ (us.length : Int)) = true := decide_eq_true (by omega)
        rw [h0] at RS
        go_wp2_with fail
        go_ret
        exact ⟨ret_b (by rw [RS.out]; rfl), HTr.out.low⟩
      · by_cases h12 : us.length ≤ 12
        · have e0 : ((us.length : Int) == 0) = false := by rw [beq_eq_false_iff_ne]; omega
          have e3 : decide ((us.length : Int) ≤ 12) = true := decide_eq_true (by omega)
          have e4 : decide ((1 : Int) ≤ (us.length : Int)) = true := decide_eq_true (by omega)
          have e5 : decide ((0 : Int) ≤ (us.length : Int)) = true := decide_eq_true (by omega)
          (try rw [decide_eq_false h0] at RS); (try rw [decide_eq_true h12] at RS); (try rw [decide_eq_true (show 0 < us.length by omega)] at RS)
          go_wp2_with fail
          go_ret
          exact ⟨ret_b (by rw [RS.out]; rfl), HTr.out.low⟩
        · have e0 : ((us.length : Int) == 0) = false := by rw [beq_eq_false_iff_ne]; omega
          have e3 : decide ((us.length : Int) ≤ 12) = false := decide_eq_false (by omega)
          have e4 : decide ((1 : Int) ≤ (us.length : Int)) = true := decide_eq_true (by omega)
          have e5 : decide ((0 : Int) ≤ (us.length : Int)) = true := decide_eq_true (by omega)
          (try rw [decide_eq_false h0] at RS); (try rw [decide_eq_false h12] at RS); (try rw [decide_eq_true (show 0 < us.length by omega)] at RS)
          go_wp2_with fail
          go_ret
          exact ⟨ret_b (by rw [RS.out]; rfl), HTr.out.low⟩
  · have RS : Hid (res = (isRole ⟨x3, x4⟩ && decide (us.length = 0))) := Lib.hid (RES.out.trans (by rfl))
    clear RES
    generalize isRole ⟨x3, x4⟩ = rb at IB RS RBN
    have SE := Lib.hid (fun W => query_secondB 5 W)
    have SB := Lib.hid (show secB 5 = true from rfl)
    rw [SB.out] at SE
    have LE := Lib.hid (fun W => query_least 5 W)
    rw [show leastI 5 = -1 from rfl] at LE
    have HNe := fun W => role_neq x3 x4 emp emp W
    rw [show eqRl ⟨x3, x4⟩ ⟨emp, emp⟩ = eb from HEB.out] at HNe
    cases eb with
    | false =>
      simp only [Bool.not_false] at HNe
      cases rb with
      | false =>
        go_wp2_with fail
        refine wp_region_held_drew (S := (fun W => ∀ o, W.cell? ⟨w.heap.size, o, none⟩ = (#[.int .i64 5, .string x1, .string x2, .string x3, .string x4, .slice wo us.length wc] : Array Value)[o]?)) (by kernel_rfl) HT.out.drew.a.1 (fun hHeld => ?_)
        have HT := HT.out.drew
        obtain ⟨wk, hwk⟩ : ∃ W, W = wr.drew := ⟨_, rfl⟩
        rw [← hwk] at HT hHeld ⊢
        clear hwk
        (refine hyes 0 ?_); (refine hyes 1 ?_); (refine hyes 3 ?_); (refine hyes 4 ?_); (refine hyes 5 ?_); (refine hyes 6 ?_); (try simp only [Act.put, List.setIfInBounds_toArray, List.set])
        (refine held_call 2 rfl (by kernel_rfl) (fun K hK => ?_); go_simp)
        go_at_call 44; refine (SE.out _).mono ?_; rintro e wz2 ⟨rfl, rfl⟩
        (refine hK.out _ _ ((HT.a.1)) (fun hHeld => ?_); clear hK K; (try simp only [Act.put, List.setIfInBounds_toArray, List.set]))
        (refine hyes 7 ?_); (refine hyes 8 ?_); (refine hyes 9 ?_); (refine hyes 10 ?_); (try simp only [Act.put, List.setIfInBounds_toArray, List.set])
        (refine held_call 11 rfl (by kernel_rfl) (fun K hK => ?_); go_simp)
        go_at_call 44; refine (SE.out _).mono ?_; rintro e wz11 ⟨rfl, rfl⟩
        (refine hK.out _ _ ((HT.a.1)) (fun hHeld => ?_); clear hK K; (try simp only [Act.put, List.setIfInBounds_toArray, List.set]))
        (refine hyes 12 ?_); (refine hyes 13 ?_); (refine hyes 14 ?_); (try simp only [Act.put, List.setIfInBounds_toArray, List.set])
        (refine held_call 15 rfl (by kernel_rfl) (fun K hK => ?_); go_simp)
        go_at_call 55; refine (IB.out _).mono ?_; rintro e wz15 ⟨rfl, hbq⟩
        have HT := HT.later hbq
        clear hbq
        (refine hK.out _ _ ((HT.a.1)) (fun hHeld => ?_); clear hK K; (try simp only [Act.put, List.setIfInBounds_toArray, List.set]))
        (refine hyes 16 ?_); (refine hyes 17 ?_); (refine hyes 18 ?_); (try simp only [Act.put, List.setIfInBounds_toArray, List.set])
        refine wpAnyH_done (by kernel_rfl) ?_ _
        have HTr := Lib.hid HT
        clear HT
        go_wp2_with fail
        go_ret
        exact ⟨ret_b (by rw [RS.out]; rfl), HTr.out.low⟩
      | true =>
        go_wp2_with fail
        refine wp_region_held_drew (S := (fun W => ∀ o, W.cell? ⟨w.heap.size, o, none⟩ = (#[.int .i64 5, .string x1, .string x2, .string x3, .string x4, .slice wo us.length wc] : Array Value)[o]?)) (by kernel_rfl) HT.out.drew.a.1 (fun hHeld => ?_)
        have HT := HT.out.drew
        obtain ⟨wk, hwk⟩ : ∃ W, W = wr.drew := ⟨_, rfl⟩
        rw [← hwk] at HT hHeld ⊢
        clear hwk
        (refine hyes 0 ?_); (refine hyes 1 ?_); (refine hyes 3 ?_); (refine hyes 4 ?_); (refine hyes 5 ?_); (refine hyes 6 ?_); (try simp only [Act.put, List.setIfInBounds_toArray, List.set])
        (refine held_call 2 rfl (by kernel_rfl) (fun K hK => ?_); go_simp)
        go_at_call 44; refine (SE.out _).mono ?_; rintro e wz2 ⟨rfl, rfl⟩
        (refine hK.out _ _ ((HT.a.1)) (fun hHeld => ?_); clear hK K; (try simp only [Act.put, List.setIfInBounds_toArray, List.set]))
        (refine hyes 7 ?_); (refine hyes 8 ?_); (refine hyes 9 ?_); (refine hyes 10 ?_); (try simp only [Act.put, List.setIfInBounds_toArray, List.set])
        (refine held_call 11 rfl (by kernel_rfl) (fun K hK => ?_); go_simp)
        go_at_call 44; refine (SE.out _).mono ?_; rintro e wz11 ⟨rfl, rfl⟩
        (refine hK.out _ _ ((HT.a.1)) (fun hHeld => ?_); clear hK K; (try simp only [Act.put, List.setIfInBounds_toArray, List.set]))
        (refine hyes 12 ?_); (refine hyes 13 ?_); (refine hyes 14 ?_); (try simp only [Act.put, List.setIfInBounds_toArray, List.set])
        (refine held_call 15 rfl (by kernel_rfl) (fun K hK => ?_); go_simp)
        go_at_call 55; refine (IB.out _).mono ?_; rintro e wz15 ⟨rfl, hbq⟩
        have HT := HT.later hbq
        clear hbq
        (refine hK.out _ _ ((HT.a.1)) (fun hHeld => ?_); clear hK K; (try simp only [Act.put, List.setIfInBounds_toArray, List.set]))
        (refine hyes 16 ?_); (refine hyes 17 ?_); (refine hyes 18 ?_); (try simp only [Act.put, List.setIfInBounds_toArray, List.set])
        refine wpAnyH_done (by kernel_rfl) ?_ _
        have HTr := Lib.hid HT
        clear HT
        obtain ⟨ca, fa, za⟩ := HTr.out.a
        go_wp2_with fail
        refine (LE.out _).mono ?_
        rintro e wl ⟨rfl, rfl⟩
        by_cases h0 : us.length = 0
        · have e0 : ((us.length : Int) == 0) = true := by rw [beq_iff_eq]; omega
          have e3 : decide ((us.length : Int) ≤ 12) = true := decide_eq_true (by omega)
          have e4 : decide ((1 : Int) ≤ (us.length : Int)) = false := decide_eq_false (by omega)
          have e5 : decide ((0 : Int) ≤ (us.length : Int)) = true := decide_eq_true (by omega)
          rw [h0] at RS
          go_wp2_with fail
          go_ret
          exact ⟨ret_b (by rw [RS.out]; rfl), HTr.out.low⟩
        · by_cases h12 : us.length ≤ 12
          · have e0 : ((us.length : Int) == 0) = false := by rw [beq_eq_false_iff_ne]; omega
            have e3 : decide ((us.length : Int) ≤ 12) = true := decide_eq_true (by omega)
            have e4 : decide ((1 : Int) ≤ (us.length : Int)) = true := decide_eq_true (by omega)
            have e5 : decide ((0 : Int) ≤ (us.length : Int)) = true := decide_eq_true (by omega)
            (try rw [decide_eq_false h0] at RS); (try rw [decide_eq_true h12] at RS); (try rw [decide_eq_true (show 0 < us.length by omega)] at RS)
            go_wp2_with fail
            go_ret
            exact ⟨ret_b (by rw [RS.out]; rfl), HTr.out.low⟩
          · have e0 : ((us.length : Int) == 0) = false := by rw [beq_eq_false_iff_ne]; omega
            have e3 : decide ((us.length : Int) ≤ 12) = false := decide_eq_false (by omega)
            have e4 : decide ((1 : Int) ≤ (us.length : Int)) = true := decide_eq_true (by omega)
            have e5 : decide ((0 : Int) ≤ (us.length : Int)) = true := decide_eq_true (by omega)
            (try rw [decide_eq_false h0] at RS); (try rw [decide_eq_false h12] at RS); (try rw [decide_eq_true (show 0 < us.length by omega)] at RS)
            go_wp2_with fail
            go_ret
            exact ⟨ret_b (by rw [RS.out]; rfl), HTr.out.low⟩
    | true =>
      simp only [Bool.not_true] at HNe
      go_wp2_with fail
      refine wp_region_held_drew (S := (fun W => ∀ o, W.cell? ⟨w.heap.size, o, none⟩ = (#[.int .i64 5, .string x1, .string x2, .string x3, .string x4, .slice wo us.length wc] : Array Value)[o]?)) (by kernel_rfl) HT.out.drew.a.1 (fun hHeld => ?_)
      have HT := HT.out.drew
      obtain ⟨wk, hwk⟩ : ∃ W, W = wr.drew := ⟨_, rfl⟩
      rw [← hwk] at HT hHeld ⊢
      clear hwk
      (refine hyes 0 ?_); (refine hyes 1 ?_); (refine hyes 3 ?_); (refine hyes 4 ?_); (refine hyes 5 ?_); (refine hyes 6 ?_); (try simp only [Act.put, List.setIfInBounds_toArray, List.set])
      (refine held_call 2 rfl (by kernel_rfl) (fun K hK => ?_); go_simp)
      go_at_call 44; refine (SE.out _).mono ?_; rintro e wz2 ⟨rfl, rfl⟩
      (refine hK.out _ _ ((HT.a.1)) (fun hHeld => ?_); clear hK K; (try simp only [Act.put, List.setIfInBounds_toArray, List.set]))
      (refine hyes 7 ?_); (refine hyes 8 ?_); (try simp only [Act.put, List.setIfInBounds_toArray, List.set])
      (refine hno 9 ?_); (try simp only [Act.put, List.setIfInBounds_toArray, List.set])
      (refine hno 10 ?_); (try simp only [Act.put, List.setIfInBounds_toArray, List.set])
      (refine hno 11 ?_); (try simp only [Act.put, List.setIfInBounds_toArray, List.set])
      (refine hno 12 ?_); (try simp only [Act.put, List.setIfInBounds_toArray, List.set])
      (refine hno 13 ?_); (try simp only [Act.put, List.setIfInBounds_toArray, List.set])
      (refine hno 14 ?_); (try simp only [Act.put, List.setIfInBounds_toArray, List.set])
      (refine hno 15 ?_); (try simp only [Act.put, List.setIfInBounds_toArray, List.set])
      (refine hno 16 ?_); (try simp only [Act.put, List.setIfInBounds_toArray, List.set])
      (refine hno 17 ?_); (try simp only [Act.put, List.setIfInBounds_toArray, List.set])
      (refine hyes 18 ?_); (try simp only [Act.put, List.setIfInBounds_toArray, List.set])
      refine wpAnyH_done (by kernel_rfl) ?_ _
      have HTr := Lib.hid HT
      clear HT
      go_wp2_with fail
      go_ret
      exact ⟨ret_b (by rw [RS.out, RBN.out (by first | rfl | trivial)]; rfl), HTr.out.low⟩
  · have RS : Hid (res = (isRole ⟨x3, x4⟩ && decide (us.length = 0))) := Lib.hid (RES.out.trans (by rfl))
    clear RES
    generalize isRole ⟨x3, x4⟩ = rb at IB RS RBN
    have SE := Lib.hid (fun W => query_secondB 6 W)
    have SB := Lib.hid (show secB 6 = true from rfl)
    rw [SB.out] at SE
    have LE := Lib.hid (fun W => query_least 6 W)
    rw [show leastI 6 = -1 from rfl] at LE
    have HNe := fun W => role_neq x3 x4 emp emp W
    rw [show eqRl ⟨x3, x4⟩ ⟨emp, emp⟩ = eb from HEB.out] at HNe
    cases eb with
    | false =>
      simp only [Bool.not_false] at HNe
      cases rb with
      | false =>
        go_wp2_with fail
        refine wp_region_held_drew (S := (fun W => ∀ o, W.cell? ⟨w.heap.size, o, none⟩ = (#[.int .i64 6, .string x1, .string x2, .string x3, .string x4, .slice wo us.length wc] : Array Value)[o]?)) (by kernel_rfl) HT.out.drew.a.1 (fun hHeld => ?_)
        have HT := HT.out.drew
        obtain ⟨wk, hwk⟩ : ∃ W, W = wr.drew := ⟨_, rfl⟩
        rw [← hwk] at HT hHeld ⊢
        clear hwk
        (refine hyes 0 ?_); (refine hyes 1 ?_); (refine hyes 3 ?_); (refine hyes 4 ?_); (refine hyes 5 ?_); (refine hyes 6 ?_); (try simp only [Act.put, List.setIfInBounds_toArray, List.set])
        (refine held_call 2 rfl (by kernel_rfl) (fun K hK => ?_); go_simp)
        go_at_call 44; refine (SE.out _).mono ?_; rintro e wz2 ⟨rfl, rfl⟩
        (refine hK.out _ _ ((HT.a.1)) (fun hHeld => ?_); clear hK K; (try simp only [Act.put, List.setIfInBounds_toArray, List.set]))
        (refine hyes 7 ?_); (refine hyes 8 ?_); (refine hyes 9 ?_); (refine hyes 10 ?_); (try simp only [Act.put, List.setIfInBounds_toArray, List.set])
        (refine held_call 11 rfl (by kernel_rfl) (fun K hK => ?_); go_simp)
        go_at_call 44; refine (SE.out _).mono ?_; rintro e wz11 ⟨rfl, rfl⟩
        (refine hK.out _ _ ((HT.a.1)) (fun hHeld => ?_); clear hK K; (try simp only [Act.put, List.setIfInBounds_toArray, List.set]))
        (refine hyes 12 ?_); (refine hyes 13 ?_); (refine hyes 14 ?_); (try simp only [Act.put, List.setIfInBounds_toArray, List.set])
        (refine held_call 15 rfl (by kernel_rfl) (fun K hK => ?_); go_simp)
        go_at_call 55; refine (IB.out _).mono ?_; rintro e wz15 ⟨rfl, hbq⟩
        have HT := HT.later hbq
        clear hbq
        (refine hK.out _ _ ((HT.a.1)) (fun hHeld => ?_); clear hK K; (try simp only [Act.put, List.setIfInBounds_toArray, List.set]))
        (refine hyes 16 ?_); (refine hyes 17 ?_); (refine hyes 18 ?_); (try simp only [Act.put, List.setIfInBounds_toArray, List.set])
        refine wpAnyH_done (by kernel_rfl) ?_ _
        have HTr := Lib.hid HT
        clear HT
        go_wp2_with fail
        go_ret
        exact ⟨ret_b (by rw [RS.out]; rfl), HTr.out.low⟩
      | true =>
        go_wp2_with fail
        refine wp_region_held_drew (S := (fun W => ∀ o, W.cell? ⟨w.heap.size, o, none⟩ = (#[.int .i64 6, .string x1, .string x2, .string x3, .string x4, .slice wo us.length wc] : Array Value)[o]?)) (by kernel_rfl) HT.out.drew.a.1 (fun hHeld => ?_)
        have HT := HT.out.drew
        obtain ⟨wk, hwk⟩ : ∃ W, W = wr.drew := ⟨_, rfl⟩
        rw [← hwk] at HT hHeld ⊢
        clear hwk
        (refine hyes 0 ?_); (refine hyes 1 ?_); (refine hyes 3 ?_); (refine hyes 4 ?_); (refine hyes 5 ?_); (refine hyes 6 ?_); (try simp only [Act.put, List.setIfInBounds_toArray, List.set])
        (refine held_call 2 rfl (by kernel_rfl) (fun K hK => ?_); go_simp)
        go_at_call 44; refine (SE.out _).mono ?_; rintro e wz2 ⟨rfl, rfl⟩
        (refine hK.out _ _ ((HT.a.1)) (fun hHeld => ?_); clear hK K; (try simp only [Act.put, List.setIfInBounds_toArray, List.set]))
        (refine hyes 7 ?_); (refine hyes 8 ?_); (refine hyes 9 ?_); (refine hyes 10 ?_); (try simp only [Act.put, List.setIfInBounds_toArray, List.set])
        (refine held_call 11 rfl (by kernel_rfl) (fun K hK => ?_); go_simp)
        go_at_call 44; refine (SE.out _).mono ?_; rintro e wz11 ⟨rfl, rfl⟩
        (refine hK.out _ _ ((HT.a.1)) (fun hHeld => ?_); clear hK K; (try simp only [Act.put, List.setIfInBounds_toArray, List.set]))
        (refine hyes 12 ?_); (refine hyes 13 ?_); (refine hyes 14 ?_); (try simp only [Act.put, List.setIfInBounds_toArray, List.set])
        (refine held_call 15 rfl (by kernel_rfl) (fun K hK => ?_); go_simp)
        go_at_call 55; refine (IB.out _).mono ?_; rintro e wz15 ⟨rfl, hbq⟩
        have HT := HT.later hbq
        clear hbq
        (refine hK.out _ _ ((HT.a.1)) (fun hHeld => ?_); clear hK K; (try simp only [Act.put, List.setIfInBounds_toArray, List.set]))
        (refine hyes 16 ?_); (refine hyes 17 ?_); (refine hyes 18 ?_); (try simp only [Act.put, List.setIfInBounds_toArray, List.set])
        refine wpAnyH_done (by kernel_rfl) ?_ _
        have HTr := Lib.hid HT
        clear HT
        obtain ⟨ca, fa, za⟩ := HTr.out.a
        go_wp2_with fail
        refine (LE.out _).mono ?_
        rintro e wl ⟨rfl, rfl⟩
        by_cases h0 : us.length = 0
        · have e0 : ((us.length : Int) == 0) = true := by rw [beq_iff_eq]; omega
          have e3 : decide ((us.length : Int) ≤ 12) = true := decide_eq_true (by omega)
          have e4 : decide ((1 : Int) ≤ (us.length : Int)) = false := decide_eq_false (by omega)
          have e5 : decide ((0 : Int) ≤ (us.length : Int)) = true := decide_eq_true (by omega)
          rw [h0] at RS
          go_wp2_with fail
          go_ret
          exact ⟨ret_b (by rw [RS.out]; rfl), HTr.out.low⟩
        · by_cases h12 : us.length ≤ 12
          · have e0 : ((us.length : Int) == 0) = false := by rw [beq_eq_false_iff_ne]; omega
            have e3 : decide ((us.length : Int) ≤ 12) = true := decide_eq_true (by omega)
            have e4 : decide ((1 : Int) ≤ (us.length : Int)) = true := decide_eq_true (by omega)
            have e5 : decide ((0 : Int) ≤ (us.length : Int)) = true := decide_eq_true (by omega)
            (try rw [decide_eq_false h0] at RS); (try rw [decide_eq_true h12] at RS); (try rw [decide_eq_true (show 0 < us.length by omega)] at RS)
            go_wp2_with fail
            go_ret
            exact ⟨ret_b (by rw [RS.out]; rfl), HTr.out.low⟩
          · have e0 : ((us.length : Int) == 0) = false := by rw [beq_eq_false_iff_ne]; omega
            have e3 : decide ((us.length : Int) ≤ 12) = false := decide_eq_false (by omega)
            have e4 : decide ((1 : Int) ≤ (us.length : Int)) = true := decide_eq_true (by omega)
            have e5 : decide ((0 : Int) ≤ (us.length : Int)) = true := decide_eq_true (by omega)
            (try rw [decide_eq_false h0] at RS); (try rw [decide_eq_false h12] at RS); (try rw [decide_eq_true (show 0 < us.length by omega)] at RS)
            go_wp2_with fail
            go_ret
            exact ⟨ret_b (by rw [RS.out]; rfl), HTr.out.low⟩
    | true =>
      simp only [Bool.not_true] at HNe
      go_wp2_with fail
      refine wp_region_held_drew (S := (fun W => ∀ o, W.cell? ⟨w.heap.size, o, none⟩ = (#[.int .i64 6, .string x1, .string x2, .string x3, .string x4, .slice wo us.length wc] : Array Value)[o]?)) (by kernel_rfl) HT.out.drew.a.1 (fun hHeld => ?_)
      have HT := HT.out.drew
      obtain ⟨wk, hwk⟩ : ∃ W, W = wr.drew := ⟨_, rfl⟩
      rw [← hwk] at HT hHeld ⊢
      clear hwk
      (refine hyes 0 ?_); (refine hyes 1 ?_); (refine hyes 3 ?_); (refine hyes 4 ?_); (refine hyes 5 ?_); (refine hyes 6 ?_); (try simp only [Act.put, List.setIfInBounds_toArray, List.set])
      (refine held_call 2 rfl (by kernel_rfl) (fun K hK => ?_); go_simp)
      go_at_call 44; refine (SE.out _).mono ?_; rintro e wz2 ⟨rfl, rfl⟩
      (refine hK.out _ _ ((HT.a.1)) (fun hHeld => ?_); clear hK K; (try simp only [Act.put, List.setIfInBounds_toArray, List.set]))
      (refine hyes 7 ?_); (refine hyes 8 ?_); (try simp only [Act.put, List.setIfInBounds_toArray, List.set])
      (refine hno 9 ?_); (try simp only [Act.put, List.setIfInBounds_toArray, List.set])
      (refine hno 10 ?_); (try simp only [Act.put, List.setIfInBounds_toArray, List.set])
      (refine hno 11 ?_); (try simp only [Act.put, List.setIfInBounds_toArray, List.set])
      (refine hno 12 ?_); (try simp only [Act.put, List.setIfInBounds_toArray, List.set])
      (refine hno 13 ?_); (try simp only [Act.put, List.setIfInBounds_toArray, List.set])
      (refine hno 14 ?_); (try simp only [Act.put, List.setIfInBounds_toArray, List.set])
      (refine hno 15 ?_); (try simp only [Act.put, List.setIfInBounds_toArray, List.set])
      (refine hno 16 ?_); (try simp only [Act.put, List.setIfInBounds_toArray, List.set])
      (refine hno 17 ?_); (try simp only [Act.put, List.setIfInBounds_toArray, List.set])
      (refine hyes 18 ?_); (try simp only [Act.put, List.setIfInBounds_toArray, List.set])
      refine wpAnyH_done (by kernel_rfl) ?_ _
      have HTr := Lib.hid HT
      clear HT
      go_wp2_with fail
      go_ret
      exact ⟨ret_b (by rw [RS.out, RBN.out (by first | rfl | trivial)]; rfl), HTr.out.low⟩
end Go.Proofs.YtedkkegjiikcmaaDoor
namespace Go.Proofs.YtedkkegjiikcmaaDoor

def wAlways : ByteArray := ⟨#[97, 108, 119, 97, 121, 115]⟩
def wCan : ByteArray := ⟨#[99, 97, 110]⟩
def wHas : ByteArray := ⟨#[104, 97, 115]⟩
def wHave : ByteArray := ⟨#[104, 97, 118, 101]⟩
def wWithin : ByteArray := ⟨#[119, 105, 116, 104, 105, 110]⟩
def wBe : ByteArray := ⟨#[98, 101]⟩
def wEmpty : ByteArray := ⟨#[101, 109, 112, 116, 121]⟩
def wApart : ByteArray := ⟨#[97, 112, 97, 114, 116]⟩
def wIn : ByteArray := ⟨#[105, 110]⟩
def wBeEmpty : ByteArray := ⟨#[98, 101, 32, 101, 109, 112, 116, 121]⟩
structure Qd where
  k : Int
  a : Rl
  b : Rl
  us : List ByteArray
def noQd : Qd := ⟨0, noR, noR, []⟩
def Tok.tx (t : Tok) : ByteArray := ⟨t.text.toArray⟩
def Rd.want (r : Rd) (f : Tok → Bool) : ByteArray × Rd :=
  if r.why ≠ 0 then (emp, r) else
  match r.l with
  | [] => (emp, r.fail r.e 3)
  | t :: _ => if f t = true then (t.tx, r.drop1) else (emp, r.fail t.col 2)
def wordIn (ws : List ByteArray) (t : Tok) : Bool := decide (t.kind = 2) && hasB ws t.tx
def Rd.word (r : Rd) (ws : List ByteArray) : ByteArray × Rd := r.want (wordIn ws)
def askW (u : Bool) : List ByteArray := if u = true then [wHas, wWithin, wApart, wIn] else [wHave, wBe]
def kindW (s : ByteArray) : Int := if s = wHas then 1 else if s = wHave then 2 else if s = wWithin then 3 else if s = wBe then 4 else if s = wApart then 5 else if s = wIn then 6 else 0
def Rd.ask (r : Rd) (u : Bool) : Int × Rd := (kindW (r.word (askW u)).1, if kindW (r.word (askW u)).1 = 4 then ((r.word (askW u)).2.word [wEmpty]).2 else (r.word (askW u)).2)
def whoT (few : Int) : List Tok → Nat → List ByteArray → Int → Int → List ByteArray × Rd
  | [], n, acc, e, p => if (n : Int) < few then (insSB acc emp, ⟨[], e, e, 3⟩) else (acc, ⟨[], e, p, 0⟩)
  | t :: l, n, acc, e, p =>
    if t.kind = 1 then if acc.length = 12 ∧ hasB acc t.tx = false then ([], ⟨t :: l, e, t.col, 5⟩) else whoT few l (n + 1) (insSB acc t.tx) e p
    else (insSB acc emp, ⟨t :: l, e, t.col, 2⟩)
def Rd.who (r : Rd) (few : Int) : List ByteArray × Rd := if r.why ≠ 0 then ([], r) else whoT few r.l 0 [] r.e r.p
def Rd.endQ (r : Rd) (q : Qd) : Qd × Int × Int :=
  if r.why ≠ 0 then (noQd, r.p, r.why) else match r.l with | [] => (q, 0, 0) | t :: _ => (noQd, t.col, 2)
def Rd.roleB (r : Rd) (k : Int) : Rl × Rd := if secB k = true then r.role else (noR, r)
def Rd.whoB (r : Rd) (k : Int) : List ByteArray × Rd := if 0 ≤ leastI k then r.who (leastI k) else ([], r)
def tailQ (k : Int) (a : Rl) (r : Rd) : Qd × Int × Int := ((r.roleB k).2.whoB k).2.endQ ⟨k, a, (r.roleB k).1, ((r.roleB k).2.whoB k).1⟩
def midQ (u : Bool) (r : Rd) : Qd × Int × Int := tailQ (r.role.2.ask u).1 r.role.1 (r.role.2.ask u).2
def readQ (l : List Tok) (e : Int) : Qd × Int × Int := midQ (decide (((Rd.mk l e 0 0).word [wAlways, wCan]).1 = wAlways)) ((Rd.mk l e 0 0).word [wAlways, wCan]).2

/-! The document's answer. -/
def nameT (t : Tok) (s : ByteArray) : Bool := decide (t.kind = 2) && decide (t.tx = s)
def wordsQ (k : Int) : ByteArray := if k = 1 then wHas else if k = 2 then wHave else if k = 3 then wWithin else if k = 4 then wBeEmpty else if k = 5 then wApart else if k = 6 then wIn else emp
def goesQ (k : Int) (i : Nat) (t : Tok) : Bool :=
  if i = 0 then (univB k && nameT t wAlways) || (!univB k && nameT t wCan)
  else if i = 1 then decide (t.kind = 1) else if i = 2 then decide (t.kind = 3) else if i = 3 then decide (t.kind = 2)
  else if i = 4 then (decide (k = 4) && nameT t wBe) || (!decide (k = 4) && nameT t (wordsQ k))
  else if i = 5 then (decide (k = 4) && nameT t wEmpty) || (decide (5 ≤ k) && decide (t.kind = 1))
  else if i = 6 then decide (5 ≤ k) && decide (t.kind = 3)
  else if i = 7 then decide (5 ≤ k) && decide (t.kind = 2) else false
def frontQ (k : Int) : Nat := if k = 4 then 6 else if 5 ≤ k then 8 else 5
theorem insS_len1 {l : List ByteArray} {x : ByteArray} (h : hasB l x = false) : (insSB l x).length = l.length + 1 := by
  rw [insS_notB h, insAt_lenB (pos_leB l x)]
  have := pos_leB l x
  omega
end Go.Proofs.YtedkkegjiikcmaaDoor
namespace Go.Proofs.YtedkkegjiikcmaaDoor

theorem want_why (l : List Tok) (e p y : Int) (f : Tok → Bool) (h : y ≠ 0) : (Rd.mk l e p y).want f = (emp, ⟨l, e, p, y⟩) := if_pos h
theorem want_no (t : Tok) (l : List Tok) (e p : Int) (f : Tok → Bool) (h : f t = false) : (Rd.mk (t :: l) e p 0).want f = (emp, ⟨t :: l, e, t.col, 2⟩) := by
  simp only [Rd.want, ne_eq, not_true_eq_false, if_false, h]; rfl
theorem want_yes (t : Tok) (l : List Tok) (e p : Int) (f : Tok → Bool) (h : f t = true) : (Rd.mk (t :: l) e p 0).want f = (t.tx, ⟨l, e, p, 0⟩) := by
  simp only [Rd.want, ne_eq, not_true_eq_false, if_false, if_pos h]; rfl
theorem endQ_why (l : List Tok) (e p y : Int) (q : Qd) (h : y ≠ 0) : (Rd.mk l e p y).endQ q = (noQd, p, y) := if_pos h
theorem endQ_nil (e p : Int) (q : Qd) : (Rd.mk [] e p 0).endQ q = (q, 0, 0) := rfl
theorem endQ_cons (t : Tok) (l : List Tok) (e p : Int) (q : Qd) : (Rd.mk (t :: l) e p 0).endQ q = (noQd, t.col, 2) := rfl
theorem g0 (k : Int) (t : Tok) : goesQ k 0 t = ((univB k && nameT t wAlways) || (!univB k && nameT t wCan)) := rfl
theorem g1 (k : Int) (t : Tok) : goesQ k 1 t = decide (t.kind = 1) := rfl
theorem f1 : frontQ 1 = 5 := rfl
theorem f2 : frontQ 2 = 5 := rfl
theorem f3 : frontQ 3 = 5 := rfl
theorem u2 : univB 2 = false := rfl
end Go.Proofs.YtedkkegjiikcmaaDoor
namespace Go.Proofs.YtedkkegjiikcmaaDoor

theorem word_isP (lo hi : Int) (c : UInt8) (r : List UInt8) (hb : btw c.toNat lo hi = true) (ha : alnum c = true) (h8 : ¬ 8 < (wordOf (c :: r)).length) : isP lo hi (wordOf (c :: r)) = true := by
  have e : wordOf (c :: r) = c :: wordOf r := by simp [wordOf, List.takeWhile, ha]
  rw [e] at h8 ⊢
  have hall : (wordOf r).all alnum = true := by
    rw [List.all_eq_true]
    intro x hx
    exact List.all_eq_true.1 (List.all_takeWhile (p := alnum) (l := r)) x hx
  simp only [List.length_cons] at h8
  simp only [isP, hb, List.all_cons, ha, hall, List.length_cons, Bool.and_true, Bool.and_self, decide_eq_true_iff]
  omega
theorem bl_mk (l : List UInt8) : bl ⟨l.toArray⟩ = l := by simp [bl]
theorem isP_len {lo hi : Int} {w : List UInt8} (h : isP lo hi w = true) : 1 ≤ w.length ∧ w.length ≤ 8 := by
  match w, h with
  | c :: w, h =>
    simp only [isP, Bool.and_eq_true, decide_eq_true_iff] at h
    exact ⟨by simp, h.1.1⟩
theorem isP_plain {lo hi : Int} {w : List UInt8} (h : isP lo hi w = true) : ∀ c ∈ w, ¬ c = 35 := by
  match w, h with
  | c :: w, h =>
    simp only [isP, Bool.and_eq_true, decide_eq_true_iff] at h
    intro x hx e
    have := List.all_eq_true.1 h.2 x hx
    rw [e] at this
    exact absurd this (by decide)
end Go.Proofs.YtedkkegjiikcmaaDoor
namespace Go.Proofs.YtedkkegjiikcmaaDoor
open Go.RowKit Go.Shelf

theorem sb_size : (Tryd.prog.info? 89).map (·.size) = some 2 := by kernel_rfl
theorem sb_lies : liesAt Tryd.prog Tryd.prog.depth 89 (2 / Tryd.prog.cellsOf 89) 0 89 1 = true := by kernel_rfl
theorem sb_byte : (Tryd.prog.info? 5).map (fun i => (i.zero, i.size, i.bytes)) = some (some (.int .u8 0), 1, 1) := by kernel_rfl

set_option maxRecDepth 100000 in
set_option maxHeartbeats 1000000 in
theorem sb_copyCheck_used (b : Nat) (w : World) (h0 : w.cell? ⟨b, 0, none⟩ = some (.pointer (some ⟨b, 0, none⟩))) :
    Calls Tryd.prog 101 #[.pointer (some ⟨b, 0, none⟩)] w fun e w' => e = .returned (.tuple #[]) ∧ w' = w := by
  obtain ⟨j, hj, _⟩ := Option.map_eq_some_iff.1 sb_size
  go_enter Tryd.func101, Tryd.ntmps101
  go_wp2
  rw [Lib.run_neq_ptr_same w _ Tryd.underlying86 hj]
  go_wp2
  go_end0
  exact ⟨rfl, rfl⟩

set_option maxRecDepth 100000 in
set_option maxHeartbeats 1000000 in
theorem sb_copyCheck_fresh (b : Nat) (w : World) (h0 : w.cell? ⟨b, 0, none⟩ = some (.pointer none)) (hsh : w.shape? b = some (89, 2)) (hfz : w.frozen? ⟨b, 0, none⟩ = false) :
    Calls Tryd.prog 101 #[.pointer (some ⟨b, 0, none⟩)] w fun e w' => e = .returned (.tuple #[]) ∧ w' = w.setCell ⟨b, 0, none⟩ (.pointer (some ⟨b, 0, none⟩)) := by
  obtain ⟨j, hj, hjs⟩ := Option.map_eq_some_iff.1 sb_size
  go_enter Tryd.func101, Tryd.ntmps101
  go_wp2
  rw [Lib.run_to_unsafe w ⟨b, 0, none⟩ Tryd.underlying86 Tryd.underlying116 hj (by rw [hjs]; decide) hsh (Nat.zero_lt_succ 1)]
  simp only [Result.andThen]
  rw [Oper.upon_value]
  go_wp2
  rw [run_callFunc_extern Tryd.func119 (by kernel_rfl) (by kernel_rfl) (by kernel_rfl) (e := Extern.AbiNoEscape.same) (by kernel_rfl)]
  rw [Lib.run_noEscape]
  simp only [Result.andThen]
  rw [Oper.upon_value]
  go_wp2
  rw [Lib.run_from_unsafe w ⟨b, 0, none⟩ Tryd.underlying116 Tryd.underlying86 hj hsh sb_lies]
  simp only [Result.andThen]
  rw [Oper.upon_value]
  go_wp2
  go_end0
  exact ⟨rfl, rfl⟩

abbrev SbAt (B b : Nat) (l : List UInt8) (w : World) : Prop := Lib.IsBuilderF 89 5 B b (Lib.byteCells l) w

theorem sb_copyCheck (B b : Nat) (bs : List Value) (w : World) (h : Lib.IsBuilderF 89 5 B b bs w) :
    Calls Tryd.prog 101 #[.pointer (some ⟨b, 0, none⟩)] w fun e w' => e = .returned (.tuple #[]) ∧ (Lib.BuilderAtF 89 5 B b (.pointer (some ⟨b, 0, none⟩)) bs w' ∧ Below B w w' ∧ Lib.OthersKept 5 (some b) w w') := by
  rcases h with h | h
  · refine (sb_copyCheck_fresh b w h.cell0 h.shape h.frozen0).mono ?_
    rintro e w' ⟨rfl, rfl⟩
    exact ⟨rfl, h.used _, (Below.refl B w).setCell (p := ⟨b, 0, none⟩) h.1 _, (Lib.OthersKept.refl _ _ w).setCell ⟨b, 0, none⟩ rfl _⟩
  · refine (sb_copyCheck_used b w h.cell0).mono ?_
    rintro e w' ⟨rfl, rfl⟩
    exact ⟨rfl, h, Below.refl B _, Lib.OthersKept.refl _ _ _⟩

theorem strCells_eq (s : ByteArray) : Lib.strCells s = Lib.byteCells (bl s) := rfl

set_option maxHeartbeats 2000000 in
set_option maxRecDepth 100000 in
theorem sb_WriteString (B b : Nat) (l : List UInt8) (s : ByteArray) (w : World) (h : SbAt B b l w) (hlen : l.length + s.size ≤ 140737488355328) (hBw : B ≤ w.heap.size) :
    Calls Tryd.prog 77 #[.pointer (some ⟨b, 0, none⟩), .string s] w fun e w' => e = .returned (.tuple #[.int .i64 s.size, .nilIface]) ∧ (SbAt B b (l ++ bl s) w' ∧ Below B w w' ∧ Lib.OthersKept 5 (some b) w w') := by
  obtain ⟨i0, hi, hz0, hz1, hz2⟩ := info_parts sb_byte
  have hlen' : (Lib.byteCells l).length + s.size ≤ 140737488355328 := by simpa [Lib.byteCells] using hlen
  have H := Lib.hid h
  have HL := Lib.hid hlen'
  clear h hlen hlen'
  go_enter Tryd.func77, Tryd.ntmps77
  go_wp2_with (go_at_call 101; refine (sb_copyCheck B b _ _ H.out).mono ?_)
  rintro e w1 ⟨rfl, h1, hb1, hk1⟩
  obtain ⟨hB, v, hbk, hown, hne⟩ := h1
  have c0 : w1.cell? ⟨b, 0, none⟩ = some (.pointer (some ⟨b, 0, none⟩)) := by rw [Lib.cell_of_heap hbk]; rfl
  have c1 : w1.cell? ⟨b, 1, none⟩ = some v := by rw [Lib.cell_of_heap hbk]; rfl
  go_wp2_with (at_builtin; refine Lib.wpList_append_own_stringF _ rfl _ _ 87 9 rfl B 5 i0 Tryd.underlying87 Tryd.underlying9 hi hz0 hz1 hz2 _ _ _ rfl hown s rfl ?c3 ?c4 ?c5 ?_)
  case c3 => have := HL.out; unfold maxLen; omega
  case c4 => exact HL.out
  case c5 => have := hb1.size; omega
  intro v' w2 hown' hgrow _
  have hlt : b < w1.heap.size := by
    rcases Nat.lt_or_ge b w1.heap.size with h' | h'
    · exact h'
    · simp [Array.getElem?_eq_none h'] at hbk
  have hb2 : w2.heap[b]? = some (.cells #[.pointer (some ⟨b, 0, none⟩), v] 89 (0, 0)) := by
    rw [hgrow.block b hlt (fun e => hne e.symm)]
    exact hbk
  have d0 : w2.cell? ⟨b, 0, none⟩ = some (.pointer (some ⟨b, 0, none⟩)) := by rw [Lib.cell_of_heap hb2]; rfl
  have d1 : w2.cell? ⟨b, 1, none⟩ = some v := by rw [Lib.cell_of_heap hb2]; rfl
  have f1 : w2.frozen? ⟨b, 1, none⟩ = false := Lib.frozen_of_heap hb2 1
  obtain ⟨ao, n', cap, rfl⟩ : ∃ ao n' cap, v' = .slice ao n' cap := by
    rcases hown'.2 with ⟨hv, _⟩ | ⟨g, cap, cur, fz, hv, _⟩
    · exact ⟨_, _, _, hv⟩
    · exact ⟨_, _, _, hv⟩
  go_wp2
  go_ret2
  refine ⟨rfl, ?_, ?_, (hk1.grown hgrow (Lib.ownsRowF_kind hown)).setCell ⟨b, 1, none⟩ rfl _⟩
  · have e1 : Lib.byteCells (l ++ bl s) = Lib.byteCells l ++ Lib.strCells s := by rw [strCells_eq]; simp [Lib.byteCells]
    unfold SbAt
    rw [e1]
    exact .inr (Lib.BuilderAtF.put (T := 89) (e := 5) hB hb2 (bs' := Lib.byteCells l ++ Lib.strCells s) (by simpa [Lib.strCells_length] using hown') (by decide))
  · exact (hb1.grown hgrow (by have := hb1.size; omega) (fun k hk => (hown.lt k hk).1)).setCell (p := ⟨b, 1, none⟩) hB _
end Go.Proofs.YtedkkegjiikcmaaDoor
namespace Go.Proofs.YtedkkegjiikcmaaDoor
open Go.RowKit Go.Shelf

set_option maxHeartbeats 2000000 in
set_option maxRecDepth 1000000 in
theorem sb_grow_fresh (B b n : Nat) (w : World) (hB : B ≤ b) (hbk : w.heap[b]? = some (.cells #[.pointer (some ⟨b, 0, none⟩), .slice none 0 0] 89 (0, 0))) (hBw : B ≤ w.heap.size) (hn : n ≤ 281474976710656) :
    Calls Tryd.prog 112 #[.pointer (some ⟨b, 0, none⟩), .int .i64 n] w fun e w' => e = .returned (.tuple #[]) ∧ (Lib.BuilderAt 89 5 B b (.pointer (some ⟨b, 0, none⟩)) [] w' ∧ Below B w w') := by
  obtain ⟨i0, hi, hz0, hz1, hz2⟩ := info_parts sb_byte
  obtain ⟨cs, hrun, hle, hmax⟩ := Lib.run_makeNoZero (P := Tryd.prog) w.drew #[3] 87 5 Tryd.underlying87 n hn
  have hw : IntKind.i64.wrap (IntKind.i64.wrap 0 + (n : Int)) = n := by
    rw [IntKind.wrap_i64, IntKind.wrap_i64]
    omega
  have hcall : (callFunc 127 #[.int .i64 (IntKind.i64.wrap (IntKind.i64.wrap 0 + (n : Int)))]).run Tryd.prog w.drew = .ok (.value (.slice (some ⟨w.drew.heap.size, 0, none⟩) n cs.size)) (w.drew.drew.drew.alloc (.cells cs 5)) := by
    rw [hw, run_callFunc_extern Tryd.func127 (by kernel_rfl) (by kernel_rfl) (by kernel_rfl) (e := Extern.BytealgMakeNoZero.makeNoZero #[3] #[87]) (by kernel_rfl), hrun]
    rfl
  have c1 : w.drew.cell? ⟨b, 1, none⟩ = some (.slice none 0 0) := by
    have : w.drew.heap[b]? = _ := hbk
    rw [Lib.cell_of_heap this]; rfl
  have c2 : (w.alloc (.cells cs 5)).cell? ⟨b, 1, none⟩ = some (.slice none 0 0) := by
    have hlt : b < w.heap.size := by
      rcases Nat.lt_or_ge b w.heap.size with h' | h'
      · exact h'
      · simp [Array.getElem?_eq_none h'] at hbk
    have : (w.alloc (.cells cs 5)).heap[b]? = _ := (Lib.alloc_old w _ b hlt).trans hbk
    rw [Lib.cell_of_heap this]; rfl
  have f2 : (w.alloc (.cells cs 5)).frozen? ⟨b, 1, none⟩ = false := by
    have hlt : b < w.heap.size := by
      rcases Nat.lt_or_ge b w.heap.size with h' | h'
      · exact h'
      · simp [Array.getElem?_eq_none h'] at hbk
    exact Lib.frozen_of_heap ((Lib.alloc_old w _ b hlt).trans hbk) 1
  have hcopy : ∀ W : World, (Builtin.copy_ #[87, 87] 3 #[.slice (some ⟨w.heap.size, 0, none⟩) 0 cs.size, .slice none 0 0]).run Tryd.prog W = .ok (goInt 0) W :=
    fun W => run_copy_none W 87 87 3 5 _ _ 0 cs.size 0 0 Tryd.underlying87 (by rw [hi]; exact congrArg some hz1) rfl
  clear hw
  go_enter Tryd.func112, Tryd.ntmps112
  go_wp2
  have hfin := Lib.grown_fresh (T := 89) (e := 5) (cs := cs) hB hbk hBw (hmax (by unfold maxLen; omega)) (by decide)
  go_region
  all_goals (go_wp2; go_end0; exact ⟨rfl, hfin⟩)

set_option maxHeartbeats 2000000 in
set_option maxRecDepth 1000000 in
theorem sb_Grow_fresh (B b n : Nat) (w : World) (hB : B ≤ b) (hbk : w.heap[b]? = some (.cells #[.pointer none, .slice none 0 0] 89 (0, 0))) (hBw : B ≤ w.heap.size) (hn : n ≤ 281474976710656) :
    Calls Tryd.prog 90 #[.pointer (some ⟨b, 0, none⟩), .int .i64 n] w fun e w' => e = .returned (.tuple #[]) ∧ (Lib.BuilderAt 89 5 B b (.pointer (some ⟨b, 0, none⟩)) [] w' ∧ Below B w w') := by
  have hbk1 : (w.setCell ⟨b, 0, none⟩ (.pointer (some ⟨b, 0, none⟩))).heap[b]? = some (.cells #[.pointer (some ⟨b, 0, none⟩), .slice none 0 0] 89 (0, 0)) := by
    simp [World.setCell, Array.getElem?_modify, hbk]
  have c1 : (w.setCell ⟨b, 0, none⟩ (.pointer (some ⟨b, 0, none⟩))).cell? ⟨b, 1, none⟩ = some (.slice none 0 0) := by rw [Lib.cell_of_heap hbk1]; rfl
  have hb1 : Below B w (w.setCell ⟨b, 0, none⟩ (.pointer (some ⟨b, 0, none⟩))) := (Below.refl B w).setCell (p := ⟨b, 0, none⟩) hB _
  go_enter Tryd.func90, Tryd.ntmps90
  have hU : Lib.BuilderAt 89 5 B b (.pointer (some ⟨b, 0, none⟩)) [] (w.setCell ⟨b, 0, none⟩ (.pointer (some ⟨b, 0, none⟩))) := ⟨hB, .slice none 0 0, hbk1, World.ownsRow_nil _ _ _ _, by simp [Value.ownBlock]⟩
  have c1' : (w.setCell ⟨b, 0, none⟩ (.pointer (some ⟨b, 0, none⟩))).drew.cell? ⟨b, 1, none⟩ = some (.slice none 0 0) := c1
  go_wp2_with (go_at_call 101; refine (sb_copyCheck_fresh b w (by rw [Lib.cell_of_heap hbk]; rfl) (by simp [World.shape?, hbk]) (Lib.frozen_of_heap hbk 0)).mono ?_; rintro e w' ⟨rfl, rfl⟩)
  go_region
  all_goals go_wp2_with (go_at_call 112; refine (sb_grow_fresh B b n (w.setCell ⟨b, 0, none⟩ (.pointer (some ⟨b, 0, none⟩))).drew hB hbk1 (by simpa [World.setCell, World.drew, -World.drew_eq] using hBw) hn).mono ?_; rintro e w' ⟨rfl, h1, h2⟩)
  all_goals first
    | (go_end0; exact ⟨rfl, h1, hb1.drew.trans h2⟩)
    | (go_end0; exact ⟨rfl, hU.drew, hb1.drew⟩)

def joinB (xs : List ByteArray) (sep : ByteArray) : ByteArray := ⟨(Lib.join (xs.map bl) (bl sep)).toArray⟩
set_option maxRecDepth 100000 in
set_option maxHeartbeats 1000000 in
theorem str_Join_none (a : Option Addr) (c : Nat) (sep : ByteArray) (w : World) :
    Calls Tryd.prog 60 #[.slice a 0 c, .string sep] w fun e w' => e = .returned (.string ⟨#[]⟩) ∧ w' = w := by
  go_enter Tryd.func60, Tryd.ntmps60
  go_wp2
  go_ret
  exact ⟨rfl, rfl⟩
set_option maxRecDepth 100000 in
set_option maxHeartbeats 1000000 in
theorem str_Join_one (bk o c : Nat) (x sep : ByteArray) (w : World) (hc : w.cell? ⟨bk, o, none⟩ = some (.string x)) :
    Calls Tryd.prog 60 #[.slice (some ⟨bk, o, none⟩) 1 c, .string sep] w fun e w' => e = .returned (.string x) ∧ w' = w := by
  go_enter Tryd.func60, Tryd.ntmps60
  go_wp2
  go_ret
  exact ⟨rfl, rfl⟩
set_option maxHeartbeats 8000000 in
set_option maxRecDepth 100000 in
theorem str_Join_many (bk o c : Nat) (xs : List ByteArray) (sep : ByteArray) (w : World)
    (hcells : ∀ (j : Nat) x, xs[j]? = some x → w.cell? ⟨bk, o + j, none⟩ = some (.string x))
    (hbk : bk < w.heap.size) (h2 : 2 ≤ xs.length) (hN : xs.length ≤ 140737488355328) (hcap : xs.length ≤ c)
    (hlen : (Lib.join (xs.map (·.data.toList)) sep.data.toList).length ≤ 140737488355328) :
    Calls Tryd.prog 60 #[.slice (some ⟨bk, o, none⟩) xs.length c, .string sep] w fun e w' => e = .returned (.string ⟨(Lib.join (xs.map (·.data.toList)) sep.data.toList).toArray⟩) ∧ Below w.heap.size w w' := by
  have HC := Any.hidJ hcells
  clear hcells
  obtain ⟨x0, r, hxs⟩ : ∃ x0 r, xs = x0 :: r := by
    cases xs with
    | nil => simp at h2
    | cons a t => exact ⟨a, t, rfl⟩
  have hjl : sep.size * (xs.length - 1) + Lib.lens (xs.map (·.data.toList)) ≤ 140737488355328 := by
    have := Lib.join_length x0.data.toList (r.map (·.data.toList)) sep.data.toList
    rw [hxs] at hlen ⊢
    simp only [List.map_cons] at hlen ⊢
    rw [this, List.length_map] at hlen
    rw [Lib.size_eq, List.length_cons, Nat.add_sub_cancel]
    exact hlen
  have hmul : sep.size * (xs.length - 1) ≤ 140737488355328 := by omega
  generalize hM : sep.size * (xs.length - 1) = M at hjl hmul
  have hcast : ((xs.length : Int) - 1) = ((xs.length - 1 : Nat) : Int) := by omega
  have hlt : sep.size < 9223372036854775807 / (xs.length - 1) := by
    have : sep.size + 1 ≤ 9223372036854775807 / (xs.length - 1) := by
      rw [Nat.le_div_iff_mul_le (by omega), Nat.add_mul, hM]
      omega
    omega
  have hdv : ¬ (9223372036854775807 / ((xs.length : Int) - 1) ≤ (sep.size : Int)) := by
    have e : (9223372036854775807 : Int) / ((xs.length - 1 : Nat) : Int) = ((9223372036854775807 / (xs.length - 1) : Nat) : Int) := IntWalk.up_div (x := 9223372036854775807) rfl rfl
    rw [hcast, e]
    generalize 9223372036854775807 / (xs.length - 1) = q at hlt
    omega
  have hprod : wrap64 ((sep.size : Int) * ((xs.length : Int) - 1)) = (M : Int) := by
    have e : (sep.size : Int) * ((xs.length - 1 : Nat) : Int) = ((sep.size * (xs.length - 1) : Nat) : Int) := IntWalk.up_mul rfl rfl
    rw [hcast, e, hM]
    exact IntWalk.wrap64_in _ ⟨by omega, by omega⟩
  have hM0 : sep.size = 0 → M = 0 := fun h => by rw [← hM, h, Nat.zero_mul]
  clear hlt hcast
  have hne0 : ((xs.length : Int) == 0) = false := beq_eq_false_iff_ne.2 (by omega)
  have hne1 : ((xs.length : Int) == 1) = false := beq_eq_false_iff_ne.2 (by omega)
  have Hxs := Any.hidJ hxs
  have Hlen := Any.hidJ hlen
  clear hxs hlen
  go_enter Tryd.func60, Tryd.ntmps60
  go_wp2_with fail
  all_goals (
    go_loop [5, 41] (fun n i => ∃ k : Nat, k ≤ xs.length ∧ i = .int .i64 k ∧ n = .int .i64 ((M + Lib.lens ((xs.map (·.data.toList)).take k) : Nat) : Int)) (fun _ i => xs.length - (intOf i).toNat)
    case atStart => exact ⟨0, Nat.zero_le _, rfl, by first | (simp [Lib.lens]; done) | (have := hM0 (by omega); simp [Lib.lens, this])⟩
    case round =>
      obtain ⟨k, hk, rfl, rfl⟩ := hrel
      by_cases hkn : k < xs.length
      · obtain ⟨x, hx⟩ : ∃ x, xs[k]? = some x := ⟨xs[k], List.getElem?_eq_getElem hkn⟩
        have hc := HC.out k x hx
        have hstep := Lib.lens_take_succ (xs.map (·.data.toList)) k x.data.toList (by simp [hx])
        have hbound : Lib.lens ((xs.map (·.data.toList)).take (k + 1)) ≤ Lib.lens (xs.map (·.data.toList)) := Lib.lens_take_le _ _
        rw [← Lib.size_eq] at hstep
        generalize hA1 : Lib.lens ((xs.map (·.data.toList)).take (k + 1)) = A1 at hstep hbound
        generalize Lib.lens ((xs.map (·.data.toList)).take k) = A0 at hstep
        have HA1 := Any.hidJ hA1
        clear hA1
        go_wp2
        exact ⟨⟨k + 1, by omega, by go_num, by rw [HA1.out]; refine congrArg _ ?_; omega⟩, by simp [intOf]; omega⟩
      · have hke : k = xs.length := by omega
        subst hke
        have hall : (xs.map (·.data.toList)).take xs.length = xs.map (·.data.toList) := List.take_of_length_le (by simp)
        rw [hall]
        generalize hT : Lib.lens (xs.map (·.data.toList)) = T at hjl
        have HT := Any.hidJ hT
        clear hT hall
        go_wp2_with fail
        have hMT : ((M : Int) + (T : Int)) = ((M + T : Nat) : Int) := by omega
        rw [hMT]
        refine (sb_Grow_fresh w.heap.size w.heap.size (M + T) _ (Nat.le_refl _) (heap_alloc_new w _) (by simp) (by omega)).mono ?_
        rintro e w1 ⟨rfl, h1, hb1⟩
        have hb1' : Below w.heap.size w w1 := ((Below.refl w.heap.size w).alloc (Nat.le_refl _) _).trans hb1
        have hx0 : xs[0]? = some x0 := by rw [Hxs.out]; rfl
        have hc0 : w1.cell? ⟨bk, o, none⟩ = some (.string x0) := by
          rw [hb1'.cell (p := ⟨bk, o, none⟩) hbk]
          exact HC.out 0 x0 hx0
        have H1 := Any.hidJ (Or.inr (Lib.BuilderAtF.of h1) : SbAt w.heap.size w.heap.size [] w1)
        have Hb1 := Any.hidJ hb1'
        have hBw1 : w.heap.size ≤ w1.heap.size := hb1'.size
        clear h1 hb1 hb1' hMT
        have hwhole : Lib.join (xs.map (·.data.toList)) sep.data.toList = x0.data.toList ++ Lib.joinTail sep.data.toList (r.map (·.data.toList)) := by
          rw [Hxs.out, List.map_cons, Lib.join_cons]
        have hCle : ∀ k, (x0.data.toList ++ Lib.joinTail sep.data.toList ((r.map (·.data.toList)).take k)).length ≤ 140737488355328 := fun k => by
          have h1 := Hlen.out
          rw [hwhole, List.length_append] at h1
          have h2 := Lib.joinTail_take_le sep.data.toList (r.map (·.data.toList)) k
          rw [List.length_append]
          omega
        have HCle := Any.hidJ hCle
        have Hwhole := Any.hidJ hwhole
        clear hCle hwhole
        go_wp2_with fail
        refine (sb_WriteString w.heap.size w.heap.size [] x0 w1 H1.out (by have := HCle.out 0; simp [Lib.joinTail] at this ⊢; omega) hBw1).mono ?_
        rintro e w2 ⟨rfl, h2', hb2, _⟩
        have hstart : ([] : List UInt8) ++ bl x0 = x0.data.toList ++ Lib.joinTail sep.data.toList ((r.map (·.data.toList)).take 0) := by
          simp [Lib.joinTail, bl]
        rw [hstart] at h2'
        have H2 := Any.hidJ h2'
        have Hb2 := Any.hidJ (Hb1.out.trans hb2)
        clear h2' hb2 hstart
        have hrl : r.length = xs.length - 1 := by rw [Hxs.out]; simp
        go_wp2_with fail
        go_loopw [65] (fun i wr => ∃ k : Nat, k ≤ r.length ∧ i = .int .i64 k ∧ Hid (SbAt w.heap.size w.heap.size (x0.data.toList ++ Lib.joinTail sep.data.toList ((r.map (·.data.toList)).take k)) wr) ∧ Hid (Below w.heap.size w wr)) (fun i _ => r.length - (intOf i).toNat)
        case atStart => exact ⟨0, Nat.zero_le _, rfl, H2, Hb2⟩
        case round =>
          obtain ⟨k, hk', rfl, HB, HW⟩ := hrel
          by_cases hkr : k < r.length
          · obtain ⟨y, hy⟩ : ∃ y, r[k]? = some y := ⟨r[k], List.getElem?_eq_getElem hkr⟩
            have hxy : xs[k + 1]? = some y := by rw [Hxs.out]; simpa using hy
            have hcy : wr.cell? ⟨bk, o + 1 + k, none⟩ = some (.string y) := by
              rw [HW.out.cell (p := ⟨bk, o + 1 + k, none⟩) hbk, show o + 1 + k = o + (k + 1) by omega]
              exact HC.out (k + 1) y hxy
            have hBw : w.heap.size ≤ wr.heap.size := HW.out.size
            have hnext : x0.data.toList ++ Lib.joinTail sep.data.toList ((r.map (·.data.toList)).take k) ++ bl sep ++ bl y = x0.data.toList ++ Lib.joinTail sep.data.toList ((r.map (·.data.toList)).take (k + 1)) := by
              rw [Lib.joinTail_take_succ sep.data.toList (r.map (·.data.toList)) k y.data.toList (by simp [hy])]
              simp only [bl, List.append_assoc]
            have hl1 := HCle.out (k + 1)
            rw [Lib.joinTail_take_succ sep.data.toList (r.map (·.data.toList)) k y.data.toList (by simp [hy])] at hl1
            simp only [List.length_append, ← Lib.size_eq] at hl1
            have hl0 : (x0.data.toList ++ Lib.joinTail sep.data.toList ((r.map (·.data.toList)).take k)).length = x0.size + (Lib.joinTail sep.data.toList ((r.map (·.data.toList)).take k)).length := by
              rw [List.length_append, ← Lib.size_eq]
            have hl2 : (x0.data.toList ++ Lib.joinTail sep.data.toList ((r.map (·.data.toList)).take k) ++ bl sep).length = x0.size + (Lib.joinTail sep.data.toList ((r.map (·.data.toList)).take k)).length + sep.size := by
              rw [List.length_append, hl0, Lib.size_eq sep]
            generalize (Lib.joinTail sep.data.toList ((r.map (·.data.toList)).take k)).length = J at hl0 hl1 hl2
            have Hn := Any.hidJ hnext
            have HL0 := Any.hidJ hl0
            have HL2 := Any.hidJ hl2
            clear hnext hy hxy hl0 hl2
            go_wp2_with fail
            refine (sb_WriteString w.heap.size w.heap.size _ sep wr HB.out (by rw [HL0.out]; omega) hBw).mono ?_
            rintro e w3 ⟨rfl, h3, hb3, _⟩
            have hBw3 : w.heap.size ≤ w3.heap.size := Nat.le_trans hBw hb3.size
            have H3 := Any.hidJ h3
            have Hb3 := Any.hidJ hb3
            clear h3 hb3
            go_wp2_with fail
            refine (sb_WriteString w.heap.size w.heap.size _ y w3 H3.out (by rw [HL2.out]; omega) hBw3).mono ?_
            rintro e w4 ⟨rfl, h4, hb4, _⟩
            rw [Hn.out] at h4
            have H4 := Any.hidJ h4
            have Hb4 := Any.hidJ ((HW.out.trans Hb3.out).trans hb4)
            clear h4 hb4
            go_wp2
            exact ⟨⟨k + 1, by omega, by go_num, H4, Hb4⟩, by simp [intOf]; omega⟩
          · have hke : k = r.length := by omega
            subst hke
            have hfull : (r.map (·.data.toList)).take r.length = r.map (·.data.toList) := List.take_of_length_le (by simp)
            have hB' := HB.out
            rw [hfull, ← Hwhole.out] at hB'
            have hBw : w.heap.size ≤ wr.heap.size := HW.out.size
            go_wp2_with fail
            refine (Tryd.Builder_String_any_f w.heap.size w.heap.size _ wr hB' hBw).mono ?_
            rintro e w5 ⟨rfl, _, hb5⟩
            have Hb5 := Any.hidJ (HW.out.trans hb5)
            clear hb5 hB'
            go_wp2
            go_ret
            exact ⟨rfl, Hb5.out⟩)
theorem joinB_one (x sep : ByteArray) : joinB [x] sep = x := by unfold joinB; rw [List.map_cons, List.map_nil, Lib.join_one]
end Go.Proofs.YtedkkegjiikcmaaDoor
namespace Go.Proofs.YtedkkegjiikcmaaDoor
open Go.RowKit

def wordsL (k : Int) : List ByteArray := if k = 1 then [wHas] else if k = 2 then [wHave] else if k = 3 then [wWithin] else if k = 4 then [wBe, wEmpty] else if k = 5 then [wApart] else if k = 6 then [wIn] else []
def headW (k : Int) : ByteArray := if univB k = true then wAlways else wCan
def partsQ (q : Qd) : List ByteArray := headW q.k :: roleT q.a :: (wordsL q.k ++ ((if secB q.k = true then [roleT q.b] else []) ++ q.us))
def tailL (xs : List ByteArray) : List UInt8 := (xs.map (fun x => 32 :: bl x)).flatten
theorem tailL_app (xs ys : List ByteArray) : tailL (xs ++ ys) = tailL xs ++ tailL ys := by simp [tailL]
theorem tailL_cons (x : ByteArray) (xs : List ByteArray) : tailL (x :: xs) = 32 :: (bl x ++ tailL xs) := by simp [tailL]
theorem word_isP' : ∀ x ∈ [wAlways, wCan, wHas, wHave, wWithin, wBe, wEmpty, wApart, wIn], isP 97 122 (bl x) = true := by decide
def lineQ (q : Qd) : List UInt8 := bl (headW q.k) ++ tailL (roleT q.a :: (wordsL q.k ++ ((if secB q.k = true then [roleT q.b] else []) ++ q.us)))
theorem parts_line (q : Qd) : bl (joinB (partsQ q) ⟨#[32]⟩) = lineQ q := by
  unfold joinB partsQ lineQ tailL
  rw [List.map_cons, Lib.join_cons, bl_mk]
  unfold Lib.joinTail
  rw [List.map_map]
  rfl
end Go.Proofs.YtedkkegjiikcmaaDoor
