/- crupperref05.Fits, crupperref04.Right, crupperref05.Right, to the letter (printed by gen_right6.py). Plain laws: the greatest state. slices.Compact and slices.SortFunc at rows of roles; policy.SortRoles (printed by gen_rlall.py out of Compact, SynSort). -/
import Derived.Test.YtnnieegddbcfcaaGreatDoorPart14
import Derived.Test.YtnnieegddbcfcaaGreatDoorPart7
import Derived.Test.YtnnieegddbcfcaaGreatDoorPart13
import Derived.Test.YtnnieegddbcfcaaGreatDoorPart5
namespace Go.Proofs.YtnnieegddbcfcaaGreatDoor
open Go.RowKit Go.Shelf

/-- Few enough queries, principals and names. -/
def fitsP (l : List St) (g h : List Rl) (qs : List Qv) (F : Qv → List ByteArray) : Bool := decide (qs.length ≤ 16) && (decide ((newB (allPrins l g h qs F)).length ≤ 16) && decide ((newB (allNames l g h qs)).length ≤ 12))
set_option maxRecDepth 100000 in
set_option maxHeartbeats 8000000 in
theorem ref5_FitsL (v0 v1 v2 v3 : Value) (l : List St) (g h : List Rl) (qs : List Qv) (w : World) (hp : PolAt w v0 v1 v2 v3 l g h qs) (hl : l.length ≤ 80) (hg : g.length ≤ 40) (hh : h.length ≤ 40) (hq : qs.length ≤ 100) (F : Qv → List ByteArray) (hF : WhoF w qs F) :
    Calls Tryz.prog 77 #[pv v0 v1 v2 v3] w fun e w' => e = .returned (.bool (fitsP l g h qs F)) ∧ Below w.heap.size w w' := by
  have PR := Lib.hid (fun W (hb : Below w.heap.size w W) => ref5_PrinsL v0 v1 v2 v3 l g h qs W (hp.below hb) (by omega) (by omega) (by omega) hq F (hF.below hb))
  have NA := Lib.hid (fun W (hb : Below w.heap.size w W) => ref5_NamesL v0 v1 v2 v3 l g h qs W (hp.below hb) (by omega) (by omega) (by omega) hq)
  obtain ⟨a0, c0, rfl⟩ := hp.rs.form
  obtain ⟨a1, c1, rfl⟩ := hp.rg.form
  obtain ⟨a2, c2, rfl⟩ := hp.rh.form
  obtain ⟨a3, c3, rfl⟩ := hp.rq.form
  have HT := Lib.hid (show OneAt w #[.slice a0 l.length c0, .slice a1 g.length c1, .slice a2 h.length c2, .slice a3 qs.length c3] (w.alloc (.cells #[.slice a0 l.length c0, .slice a1 g.length c1, .slice a2 h.length c2, .slice a3 qs.length c3] 26)) from ⟨Blk.new w _ _, (Below.refl _ _).alloc (Nat.le_refl _) _⟩)
  have d0 : decide ((80 : Int) < (l.length : Int)) = false := by (rw [decide_eq_false_iff_not]; omega)
  have d1 : decide ((40 : Int) < (g.length : Int)) = false := by (rw [decide_eq_false_iff_not]; omega)
  have d2 : decide ((40 : Int) < (h.length : Int)) = false := by (rw [decide_eq_false_iff_not]; omega)
  have RES := Lib.hid (show fitsP l g h qs F = (decide (qs.length ≤ 16) && (decide ((newB (allPrins l g h qs F)).length ≤ 16) && decide ((newB (allNames l g h qs)).length ≤ 12))) from rfl)
  clear hp hF
  go_enter Tryz.func77, Tryz.ntmps77
  by_cases t3 : 16 < qs.length
  · have d3 : decide ((16 : Int) < (qs.length : Int)) = true := by (rw [decide_eq_true_iff]; omega)
    go_wp2
    go_ret
    exact ⟨ret_b (by rw [RES.out, decide_eq_false (by omega)]; rfl), HT.out.low⟩
  have hq16 : decide (qs.length ≤ 16) = true := by rw [decide_eq_true_iff]; omega
  have d3 : decide ((16 : Int) < (qs.length : Int)) = false := by (rw [decide_eq_false_iff_not]; omega)
  go_wp2_with fail
  refine (PR.out _ HT.out.low).mono ?_
  rintro e w1 ⟨x1, rfl, hx1, hb1⟩
  have HT := Lib.hid (HT.out.later hb1)
  obtain ⟨hs1, _⟩ := hx1
  have HA1 := Lib.hid hs1.max
  generalize newB (allPrins l g h qs F) = ss at *
  obtain ⟨xo, xc, rfl⟩ := hs1.form
  obtain ⟨ca, fa, za⟩ := HT.out.a
  clear hb1 hs1
  by_cases t4 : ss.length ≤ 16
  · have d4 : decide ((ss.length : Int) ≤ 16) = true := by (rw [decide_eq_true_iff]; omega)
    have d4' : decide (ss.length ≤ 16) = true := by (rw [decide_eq_true_iff]; omega)
    go_wp2_with fail
    refine (NA.out _ HT.out.low).mono ?_
    rintro e w2 ⟨x2, rfl, hx2, hb2⟩
    have HT2 := Lib.hid (HT.out.later hb2)
    obtain ⟨hu1, _⟩ := hx2
    generalize newB (allNames l g h qs) = us at *
    obtain ⟨yo, yc, rfl⟩ := hu1.form
    clear hb2 hu1
    by_cases t5 : us.length ≤ 12
    · have d5 : decide ((us.length : Int) ≤ 12) = true := by (rw [decide_eq_true_iff]; omega)
      have d5' : decide (us.length ≤ 12) = true := by (rw [decide_eq_true_iff]; omega)
      go_wp2
      go_ret
      exact ⟨ret_b (by rw [RES.out, hq16, d4', d5']; rfl), HT2.out.low⟩
    · have d5 : decide ((us.length : Int) ≤ 12) = false := by (rw [decide_eq_false_iff_not]; omega)
      have d5' : decide (us.length ≤ 12) = false := by (rw [decide_eq_false_iff_not]; omega)
      go_wp2
      go_ret
      exact ⟨ret_b (by rw [RES.out, hq16, d4', d5']; rfl), HT2.out.low⟩
  · have d4 : decide ((ss.length : Int) ≤ 16) = false := by (rw [decide_eq_false_iff_not]; omega)
    have d4' : decide (ss.length ≤ 16) = false := by (rw [decide_eq_false_iff_not]; omega)
    go_wp2
    go_ret
    exact ⟨ret_b (by rw [RES.out, hq16, d4']; rfl), HT.out.low⟩

/-- Is the text of a place a principal, above the one ahead of it? -/
def risesAt (us : List ByteArray) (i : Nat) : Bool := isP 65 90 (bl (us.getD i emp)) && (decide (i = 0) || Op.bytesLess (us.getD (i - 1) emp).toList (us.getD i emp).toList)
def rises (us : List ByteArray) : Bool := (List.range us.length).all (risesAt us)
theorem rises_yes {us : List ByteArray} {k : Nat} (hk : ¬ k < us.length) (h : ∀ j, j < k → risesAt us j = true) : rises us = true := by
  unfold rises; rw [List.all_eq_true]
  intro j hj
  exact h j (by have := List.mem_range.1 hj; omega)
theorem rises_no {us : List ByteArray} {k : Nat} (hk : k < us.length) (h : risesAt us k = false) : rises us = false := by
  cases hr : rises us with
  | false => rfl
  | true =>
    unfold rises at hr
    rw [List.all_eq_true] at hr
    rw [hr k (List.mem_range.2 hk)] at h; cases h
theorem getD_at {us : List ByteArray} {k : Nat} (hk : k < us.length) : us.getD k emp = us[k] := by rw [List.getD_eq_getElem?_getD, List.getElem?_eq_getElem hk]; rfl
/-- Which queries may be, of the texts that they name. -/
def rightQ (q : Qv) (us : List ByteArray) : Bool :=
  decide (1 ≤ q.k) && (decide (q.k ≤ 6) && (isRole q.a && (rises us &&
  (if 5 ≤ q.k then isRole q.b && decide (us.length = 0) else eqRl q.b noR && (decide (us.length ≤ 12) && (if q.k = 4 then decide (us.length = 0) else decide (q.k = 3) || decide (0 < us.length)))))))
set_option maxRecDepth 100000 in
set_option maxHeartbeats 8000000 in
theorem ref4_RightL (q : Qv) (us : List ByteArray) (w : World) (hla : q.a.le 9223372036854775807) (hlb : q.b.le 9223372036854775807) (hu1 : SlA w 1 q.w us.length (strs us)) (hu3 : ∀ s ∈ us, s.size ≤ 9223372036854775807) : Calls Tryz.prog 66 #[qv q] w fun e w' => e = .returned (.bool (rightQ q us)) ∧ Below w.heap.size w w' := by
  have RES := Lib.hid (show rightQ q us = (decide (1 ≤ q.k) && (decide (q.k ≤ 6) && (isRole q.a && (rises us && (if 5 ≤ q.k then isRole q.b && decide (us.length = 0) else eqRl q.b noR && (decide (us.length ≤ 12) && (if q.k = 4 then decide (us.length = 0) else decide (q.k = 3) || decide (0 < us.length)))))))) from rfl)
  generalize rightQ q us = res at RES ⊢
  obtain ⟨xk, ⟨x1, x2⟩, ⟨x3, x4⟩, wv⟩ := q
  have HU := Lib.hid hu1
  have HUZ := Lib.hid hu3
  have hmax := hu1.max
  dsimp only at RES hu1 hla hlb
  have IA := Lib.hid (fun W => ref3_IsRoleM ⟨x1, x2⟩ W hla)
  have IB := Lib.hid (fun W => ref3_IsRoleM ⟨x3, x4⟩ W hlb)
  generalize isRole ⟨x1, x2⟩ = ra at IA RES
  generalize isRole ⟨x3, x4⟩ = rb at IB RES
  obtain ⟨wo, wc, rfl⟩ := hu1.form
  have HT := Lib.hid (show OneAt w #[.int .i64 xk, .string x1, .string x2, .string x3, .string x4, .slice wo us.length wc] (w.alloc (.cells #[.int .i64 xk, .string x1, .string x2, .string x3, .string x4, .slice wo us.length wc] 71)) from ⟨Blk.new w _ _, (Below.refl _ _).alloc (Nat.le_refl _) _⟩)
  clear hla hlb hu1 hu3
  go_enter Tryz.func66, Tryz.ntmps66
  by_cases k1 : xk < 1
  · have d1 : decide (xk < 1) = true := decide_eq_true k1
    have R := Lib.hid (show res = false by rw [RES.out, decide_eq_false (show ¬ 1 ≤ xk by omega)]; rfl)
    clear k1
    go_wp2
    go_ret
    exact ⟨ret_b R.out.symm, HT.out.low⟩
  have d1 : decide (xk < 1) = false := decide_eq_false k1
  by_cases k6 : 6 < xk
  · have d6 : decide (6 < xk) = true := decide_eq_true k6
    have R := Lib.hid (show res = false by rw [RES.out, decide_eq_true (show 1 ≤ xk by omega), decide_eq_false (show ¬ xk ≤ 6 by omega)]; rfl)
    clear k1 k6
    go_wp2
    go_ret
    exact ⟨ret_b R.out.symm, HT.out.low⟩
  have d6 : decide (6 < xk) = false := decide_eq_false k6
  rw [decide_eq_true (show 1 ≤ xk by omega), decide_eq_true (show xk ≤ 6 by omega), Bool.true_and, Bool.true_and] at RES
  have HK := Lib.hid (And.intro k1 k6)
  clear k1 k6
  go_wp2_with fail
  refine (IA.out _).mono ?_
  rintro e w1 ⟨rfl, hb1⟩
  have HT := Lib.hid (HT.out.later hb1)
  clear hb1
  cases ra with
  | false =>
    go_wp2
    go_ret
    exact ⟨ret_b (by rw [RES.out]; rfl), HT.out.low⟩
  | true =>
  rw [Bool.true_and] at RES
  obtain ⟨ca, fa, za⟩ := HT.out.a
  go_wp2_with fail
  clear ca fa za
  go_loopw [22] (fun i wr => ∃ k : Nat, k ≤ us.length ∧ i = .int .i64 k ∧ Hid (OneAt w #[.int .i64 xk, .string x1, .string x2, .string x3, .string x4, .slice wo us.length wc] wr) ∧ Hid (∀ j, j < k → risesAt us j = true)) (fun i _ => us.length - (intOf i).toNat)
  case atStart => exact ⟨0, by omega, rfl, HT, Lib.hid (fun j h => absurd h (by omega))⟩
  case round =>
    clear HT
    obtain ⟨k, hk, rfl, HT, HJ⟩ := hrel
    obtain ⟨ca, fa, za⟩ := HT.out.a
    by_cases hlt : k < us.length
    · obtain ⟨b1, o1, c1, he1, hc1, hm1, hb1, hx1⟩ := HU.out.pos (by omega)
      simp only [Value.slice.injEq, true_and] at he1
      obtain ⟨rfl, rfl⟩ := he1
      have p0 := (HT.out.low.cell (p := ⟨b1, o1 + k, none⟩) hb1).trans (hx1 k _ (strs_get hlt))
      have hbr : b1 < wr.heap.size := Nat.lt_of_lt_of_le hb1 HT.out.low.size
      have IP := Lib.hid (fun W => ref1_IsPrin us[k] W (HUZ.out _ (List.getElem_mem hlt)))
      have HRA := Lib.hid (show risesAt us k = (isP 65 90 (bl us[k]) && (decide (k = 0) || Op.bytesLess (us.getD (k - 1) emp).toList us[k].toList)) by unfold risesAt; rw [getD_at hlt])
      have HJS : Hid (risesAt us k = true → ∀ j, j < k + 1 → risesAt us j = true) := Lib.hid (fun h j hj => by
        by_cases e : j = k
        · rw [e]; exact h
        · exact HJ.out j (by omega))
      have HNO := Lib.hid (fun (h : risesAt us k = false) => show res = false by rw [RES.out, rises_no hlt h]; rfl)
      generalize isP 65 90 (bl us[k]) = rp at IP HRA
      cases rp with
      | false =>
        clear hx1
        go_wp2_with fail
        refine (IP.out _).mono ?_
        rintro e w2 ⟨rfl, rfl⟩
        go_wp2
        go_ret
        exact ⟨ret_b (HNO.out (by rw [HRA.out]; rfl)).symm, HT.out.low⟩
      | true =>
        by_cases hk0 : k = 0
        · have dk : decide (0 < k) = false := by (rw [decide_eq_false_iff_not]; omega)
          have HS := Lib.hid (HJS.out (by rw [HRA.out, decide_eq_true hk0]; rfl))
          clear hx1 hk0
          go_wp2_with fail
          refine (IP.out _).mono ?_
          rintro e w2 ⟨rfl, rfl⟩
          go_wp2
          exact ⟨⟨k + 1, by omega, by go_num, HT, HS⟩, by simp [intOf]; omega⟩
        · obtain ⟨m, hm⟩ : ∃ m, k = m + 1 := ⟨k - 1, by omega⟩
          have dk : decide (0 < k) = true := by (rw [decide_eq_true_iff]; omega)
          have hw1 : IntKind.i64.wrap ((k : Int) - 1) = (m : Int) := by rw [show (k : Int) - 1 = (m : Int) by omega]; exact Go.IntWalk.i64_in _ (by omega)
          have hml : m < us.length := by omega
          have hmi : (0 : Int) ≤ (m : Int) := by omega
          have q0 := (HT.out.low.cell (p := ⟨b1, o1 + m, none⟩) hb1).trans (hx1 m _ (strs_get hml))
          rw [decide_eq_false hk0, Bool.false_or, show k - 1 = m by omega, getD_at hml, Bool.true_and] at HRA
          clear hx1 hk0 hm
          go_wp2_with fail
          refine (IP.out _).mono ?_
          rintro e w2 ⟨rfl, rfl⟩
          generalize us[k] = sk at *
          generalize us[m] = sm at *
          cases hbl : Op.bytesLess sm.toList sk.toList with
          | false =>
            have hle : Op.bytesLess sm.toList sk.toList = false := hbl
            go_wp2
            go_ret
            exact ⟨ret_b (HNO.out (by rw [HRA.out]; exact hbl)).symm, HT.out.low⟩
          | true =>
            have hle : Op.bytesLess sm.toList sk.toList = true := hbl
            have HS := Lib.hid (HJS.out (by rw [HRA.out]; exact hbl))
            go_wp2
            exact ⟨⟨k + 1, by omega, by go_num, HT, HS⟩, by simp [intOf]; omega⟩
    · rw [rises_yes hlt HJ.out, Bool.true_and] at RES
      obtain ⟨k1, k6⟩ := HK.out
      by_cases h0 : us.length = 0
      · have e0 : ((us.length : Int) == 0) = true := by rw [beq_iff_eq]; omega
        have e1 : decide (0 < us.length) = false := decide_eq_false (by omega)
        have e1' : decide ((0 : Int) < (us.length : Int)) = false := decide_eq_false (by omega)
        have e2 : decide (us.length = 0) = true := decide_eq_true h0
        have e3 : decide (us.length ≤ 12) = true := decide_eq_true (by omega)
        have e3' : decide ((12 : Int) < (us.length : Int)) = false := decide_eq_false (by omega)
        rw [e1, e2, e3] at RES
        clear HJ
        by_cases k5 : 5 ≤ xk
        · have d5 : decide (5 ≤ xk) = true := decide_eq_true k5
          rw [if_pos k5] at RES
          clear k5 k1 k6
          go_wp2_with fail
          refine (IB.out _).mono ?_
          rintro e w2 ⟨rfl, hb2⟩
          have HT2 := Lib.hid (HT.out.later hb2)
          obtain ⟨ca, fa, za⟩ := HT2.out.a
          clear hb2
          cases rb with
          | false =>
            go_wp2
            go_ret
            exact ⟨ret_b (by rw [RES.out]; rfl), HT2.out.low⟩
          | true =>
            go_wp2
            go_ret
            exact ⟨ret_b (by rw [RES.out]; rfl), HT2.out.low⟩
        · have d5 : decide (5 ≤ xk) = false := decide_eq_false k5
          rw [if_neg k5] at RES
          have hNe : ∀ W, (binOp .neq 28 (.agg #[.string x3, .string x4]) (.agg #[.string emp, .string emp])).run Tryz.prog W = .ok (.bool (!eqRl ⟨x3, x4⟩ noR)) W := fun W => role_neq x3 x4 emp emp W
          generalize eqRl ⟨x3, x4⟩ noR = ern at hNe RES
          by_cases k4 : xk = 4
          · have d4 : (xk == 4) = true := beq_iff_eq.2 k4
            rw [if_pos k4] at RES
            clear k5 k1 k6 k4
            cases ern with
            | false =>
              go_wp2
              go_ret
              exact ⟨ret_b (by rw [RES.out]; rfl), HT.out.low⟩
            | true =>
              go_wp2
              go_ret
              exact ⟨ret_b (by rw [RES.out]; rfl), HT.out.low⟩
          · have d4 : (xk == 4) = false := beq_eq_false_iff_ne.2 k4
            rw [if_neg k4] at RES
            by_cases k3 : xk = 3
            · have d3 : (xk == 3) = true := beq_iff_eq.2 k3
              rw [decide_eq_true k3] at RES
              clear k5 k1 k6 k4 k3
              cases ern with
              | false =>
                go_wp2
                go_ret
                exact ⟨ret_b (by rw [RES.out]; rfl), HT.out.low⟩
              | true =>
                go_wp2
                go_ret
                exact ⟨ret_b (by rw [RES.out]; rfl), HT.out.low⟩
            · have d3 : (xk == 3) = false := beq_eq_false_iff_ne.2 k3
              rw [decide_eq_false k3] at RES
              clear k5 k1 k6 k4 k3
              cases ern with
              | false =>
                go_wp2
                go_ret
                exact ⟨ret_b (by rw [RES.out]; rfl), HT.out.low⟩
              | true =>
                go_wp2
                go_ret
                exact ⟨ret_b (by rw [RES.out]; rfl), HT.out.low⟩
      · have e0 : ((us.length : Int) == 0) = false := by rw [beq_eq_false_iff_ne]; omega
        have e1 : decide (0 < us.length) = true := decide_eq_true (by omega)
        have e1' : decide ((0 : Int) < (us.length : Int)) = true := decide_eq_true (by omega)
        have e2 : decide (us.length = 0) = false := decide_eq_false h0
        by_cases h12 : us.length ≤ 12
        · have e3 : decide (us.length ≤ 12) = true := decide_eq_true (by omega)
          have e3' : decide ((12 : Int) < (us.length : Int)) = false := decide_eq_false (by omega)
          rw [e1, e2, e3] at RES
          clear HJ
          by_cases k5 : 5 ≤ xk
          · have d5 : decide (5 ≤ xk) = true := decide_eq_true k5
            rw [if_pos k5] at RES
            clear k5 k1 k6
            go_wp2_with fail
            refine (IB.out _).mono ?_
            rintro e w2 ⟨rfl, hb2⟩
            have HT2 := Lib.hid (HT.out.later hb2)
            obtain ⟨ca, fa, za⟩ := HT2.out.a
            clear hb2
            cases rb with
            | false =>
              go_wp2
              go_ret
              exact ⟨ret_b (by rw [RES.out]; rfl), HT2.out.low⟩
            | true =>
              go_wp2
              go_ret
              exact ⟨ret_b (by rw [RES.out]; rfl), HT2.out.low⟩
          · have d5 : decide (5 ≤ xk) = false := decide_eq_false k5
            rw [if_neg k5] at RES
            have hNe : ∀ W, (binOp .neq 28 (.agg #[.string x3, .string x4]) (.agg #[.string emp, .string emp])).run Tryz.prog W = .ok (.bool (!eqRl ⟨x3, x4⟩ noR)) W := fun W => role_neq x3 x4 emp emp W
            generalize eqRl ⟨x3, x4⟩ noR = ern at hNe RES
            by_cases k4 : xk = 4
            · have d4 : (xk == 4) = true := beq_iff_eq.2 k4
              rw [if_pos k4] at RES
              clear k5 k1 k6 k4
              cases ern with
              | false =>
                go_wp2
                go_ret
                exact ⟨ret_b (by rw [RES.out]; rfl), HT.out.low⟩
              | true =>
                go_wp2
                go_ret
                exact ⟨ret_b (by rw [RES.out]; rfl), HT.out.low⟩
            · have d4 : (xk == 4) = false := beq_eq_false_iff_ne.2 k4
              rw [if_neg k4] at RES
              by_cases k3 : xk = 3
              · have d3 : (xk == 3) = true := beq_iff_eq.2 k3
                rw [decide_eq_true k3] at RES
                clear k5 k1 k6 k4 k3
                cases ern with
                | false =>
                  go_wp2
                  go_ret
                  exact ⟨ret_b (by rw [RES.out]; rfl), HT.out.low⟩
                | true =>
                  go_wp2
                  go_ret
                  exact ⟨ret_b (by rw [RES.out]; rfl), HT.out.low⟩
              · have d3 : (xk == 3) = false := beq_eq_false_iff_ne.2 k3
                rw [decide_eq_false k3] at RES
                clear k5 k1 k6 k4 k3
                cases ern with
                | false =>
                  go_wp2
                  go_ret
                  exact ⟨ret_b (by rw [RES.out]; rfl), HT.out.low⟩
                | true =>
                  go_wp2
                  go_ret
                  exact ⟨ret_b (by rw [RES.out]; rfl), HT.out.low⟩
        · have e3 : decide (us.length ≤ 12) = false := decide_eq_false (by omega)
          have e3' : decide ((12 : Int) < (us.length : Int)) = true := decide_eq_true (by omega)
          rw [e1, e2, e3] at RES
          clear HJ
          by_cases k5 : 5 ≤ xk
          · have d5 : decide (5 ≤ xk) = true := decide_eq_true k5
            rw [if_pos k5] at RES
            clear k5 k1 k6
            go_wp2_with fail
            refine (IB.out _).mono ?_
            rintro e w2 ⟨rfl, hb2⟩
            have HT2 := Lib.hid (HT.out.later hb2)
            obtain ⟨ca, fa, za⟩ := HT2.out.a
            clear hb2
            cases rb with
            | false =>
              go_wp2
              go_ret
              exact ⟨ret_b (by rw [RES.out]; rfl), HT2.out.low⟩
            | true =>
              go_wp2
              go_ret
              exact ⟨ret_b (by rw [RES.out]; rfl), HT2.out.low⟩
          · have d5 : decide (5 ≤ xk) = false := decide_eq_false k5
            rw [if_neg k5] at RES
            have hNe : ∀ W, (binOp .neq 28 (.agg #[.string x3, .string x4]) (.agg #[.string emp, .string emp])).run Tryz.prog W = .ok (.bool (!eqRl ⟨x3, x4⟩ noR)) W := fun W => role_neq x3 x4 emp emp W
            generalize eqRl ⟨x3, x4⟩ noR = ern at hNe RES
            by_cases k4 : xk = 4
            · have d4 : (xk == 4) = true := beq_iff_eq.2 k4
              rw [if_pos k4] at RES
              clear k5 k1 k6 k4
              cases ern with
              | false =>
                go_wp2
                go_ret
                exact ⟨ret_b (by rw [RES.out]; rfl), HT.out.low⟩
              | true =>
                go_wp2
                go_ret
                exact ⟨ret_b (by rw [RES.out]; rfl), HT.out.low⟩
            · have d4 : (xk == 4) = false := beq_eq_false_iff_ne.2 k4
              rw [if_neg k4] at RES
              by_cases k3 : xk = 3
              · have d3 : (xk == 3) = true := beq_iff_eq.2 k3
                rw [decide_eq_true k3] at RES
                clear k5 k1 k6 k4 k3
                cases ern with
                | false =>
                  go_wp2
                  go_ret
                  exact ⟨ret_b (by rw [RES.out]; rfl), HT.out.low⟩
                | true =>
                  go_wp2
                  go_ret
                  exact ⟨ret_b (by rw [RES.out]; rfl), HT.out.low⟩
              · have d3 : (xk == 3) = false := beq_eq_false_iff_ne.2 k3
                rw [decide_eq_false k3] at RES
                clear k5 k1 k6 k4 k3
                cases ern with
                | false =>
                  go_wp2
                  go_ret
                  exact ⟨ret_b (by rw [RES.out]; rfl), HT.out.low⟩
                | true =>
                  go_wp2
                  go_ret
                  exact ⟨ret_b (by rw [RES.out]; rfl), HT.out.low⟩
/-- Which policies may be. -/
def RightP (l : List St) (g h : List Rl) (qs : List Qv) (F : Qv → List ByteArray) : Prop := (∀ x ∈ l, rightS x = true) ∧ (∀ x ∈ g ++ h, isRole x = true) ∧ (∀ q ∈ qs, rightQ q (F q) = true) ∧ l = insAll [] l ∧ g = insAllR [] g ∧ h = insAllR [] h ∧ fitsP l g h qs F = true
def RightI (l : List St) (g h : List Rl) (qs : List Qv) (F : Qv → List ByteArray) (e : Ending) : Prop := ∃ b, e = .returned (.bool b) ∧ (b = true ↔ RightP l g h qs F)
theorem rightI_no {l : List St} {g h : List Rl} {qs : List Qv} {F : Qv → List ByteArray} (hn : ¬ RightP l g h qs F) : RightI l g h qs F (.returned (.bool false)) := ⟨false, rfl, ⟨(fun h => by cases h), fun h => absurd h hn⟩⟩
set_option maxRecDepth 100000 in
set_option maxHeartbeats 8000000 in
theorem ref5_RightL (v0 v1 v2 v3 : Value) (l : List St) (g h : List Rl) (qs : List Qv) (w : World) (hp : PolAt w v0 v1 v2 v3 l g h qs) (hl : l.length ≤ 30) (hg : g.length ≤ 30) (hh : h.length ≤ 30) (hq : qs.length ≤ 30) (hl4 : allLe l 40) (F : Qv → List ByteArray) (hF : WhoF w qs F) (hFs : ∀ q ∈ qs, ∀ s ∈ F q, s.size ≤ 9223372036854775807) :
    Calls Tryz.prog 15 #[pv v0 v1 v2 v3] w fun e w' => RightI l g h qs F e ∧ Below w.heap.size w w' := by
  have HP := Lib.hid hp
  have FI := Lib.hid (fun W (hb : Below w.heap.size w W) => ref5_FitsL v0 v1 v2 v3 l g h qs W (hp.below hb) (by omega) (by omega) (by omega) (by omega) F (hF.below hb))
  have S3 := Lib.hid (fun W (hb : Below w.heap.size w W) => ref3_Sort v0 l W (hp.rs.below hb) (by omega))
  have SG := Lib.hid (fun W (hb : Below w.heap.size w W) => sortR_row v1 g W (hp.rg.below hb) (by omega))
  have SH := Lib.hid (fun W (hb : Below w.heap.size w W) => sortR_row v2 h W (hp.rh.below hb) (by omega))
  have RI := Lib.hid (fun k (hk : k < l.length) W => ref3_Right l[k] W ((hl4 _ (List.getElem_mem hk)).mono (by decide)))
  have RQ := Lib.hid (fun k (hk : k < qs.length) W (hb : Below w.heap.size w W) => ref4_RightL qs[k] (F qs[k]) W (hp.lq _ (List.getElem_mem hk)).1 (hp.lq _ (List.getElem_mem hk)).2.1 ((hF _ (List.getElem_mem hk)).1.below hb) (hFs _ (List.getElem_mem hk)))
  obtain ⟨a0, c0, rfl⟩ := hp.rs.form
  obtain ⟨a1, c1, rfl⟩ := hp.rg.form
  obtain ⟨a2, c2, rfl⟩ := hp.rh.form
  obtain ⟨a3, c3, rfl⟩ := hp.rq.form
  have HT := Lib.hid (show OneAt w #[.slice a0 l.length c0, .slice a1 g.length c1, .slice a2 h.length c2, .slice a3 qs.length c3] (w.alloc (.cells #[.slice a0 l.length c0, .slice a1 g.length c1, .slice a2 h.length c2, .slice a3 qs.length c3] 26)) from ⟨Blk.new w _ _, (Below.refl _ _).alloc (Nat.le_refl _) _⟩)
  have HD := Lib.hid (show RightP l g h qs F ↔ (∀ x ∈ l, rightS x = true) ∧ (∀ x ∈ g ++ h, isRole x = true) ∧ (∀ q ∈ qs, rightQ q (F q) = true) ∧ l = insAll [] l ∧ g = insAllR [] g ∧ h = insAllR [] h ∧ fitsP l g h qs F = true from Iff.rfl)
  clear hp hF hFs hl4
  generalize fitsP l g h qs F = ff at FI HD
  go_enter Tryz.func15, Tryz.ntmps15
  go_wp2_with fail
  go_loopw [12] (fun i wr => ∃ k : Nat, k ≤ l.length ∧ i = .int .i64 k ∧ Hid (OneAt w #[.slice a0 l.length c0, .slice a1 g.length c1, .slice a2 h.length c2, .slice a3 qs.length c3] wr) ∧ Hid (∀ j (hj : j < l.length), j < k → rightS l[j] = true)) (fun i _ => l.length - (intOf i).toNat)
  case atStart => exact ⟨0, by omega, rfl, HT, Lib.hid (fun _ _ h => absurd h (by omega))⟩
  case round =>
    clear HT
    obtain ⟨k, hk, rfl, HT, HJ⟩ := hrel
    by_cases hlt : k < l.length
    · obtain ⟨b1, o1, e1, he1, hc1, hm1', hb1, hx1⟩ := HP.out.rs.pos (by omega)
      simp only [Value.slice.injEq, true_and] at he1
      obtain ⟨rfl, rfl⟩ := he1
      obtain ⟨p0, p1, p2, p3, p4, p5, p6, p7, p8⟩ := st_cell (w := wr) (fun j u hu => (HT.out.low.cell (p := ⟨b1, o1 + j, none⟩) hb1).trans (hx1 j u hu)) k hlt
      have hbr : b1 < wr.heap.size := Nat.lt_of_lt_of_le hb1 HT.out.low.size
      have RK := Lib.hid (fun W => RI.out k hlt W)
      have HJ2 : Hid (rightS l[k] = true → ∀ j (hj : j < l.length), j < k + 1 → rightS l[j] = true) := Lib.hid (fun hpk j hj hjk => by
        by_cases h : j < k
        · exact HJ.out j hj h
        · obtain rfl : j = k := by omega
          exact hpk)
      have hek : l[k] = ⟨l[k].k, ⟨l[k].h.o, l[k].h.n⟩, l[k].who, ⟨l[k].a.o, l[k].a.n⟩, ⟨l[k].b.o, l[k].b.n⟩, l[k].via⟩ := rfl
      have HN1 : Hid (rightS l[k] = false → ¬ RightP l g h qs F) := Lib.hid (fun hf hr => by rw [(HD.out.1 hr).1 _ (List.getElem_mem hlt)] at hf; cases hf)
      clear hx1
      generalize rightS l[k] = rr at RK HJ2 HN1
      generalize l[k] = x at *
      obtain ⟨xk, ⟨x1, x2⟩, xw, ⟨x3, x4⟩, ⟨x5, x6⟩, xv⟩ := x
      clear hek
      have HT1 := Lib.hid (HT.out.alloc (.cells #[.int .i64 xk, .string x1, .string x2, .string xw, .string x3, .string x4, .string x5, .string x6, .string xv] 35))
      go_wp2_with fail
      refine (RK.out _).mono ?_
      rintro e w2 ⟨rfl, hb2⟩
      have HT2 := Lib.hid (HT1.out.later hb2)
      clear hb2
      cases rr with
      | false =>
        go_wp2
        go_ret
        exact ⟨rightI_no (HN1.out (by first | rfl | trivial)), HT2.out.low⟩
      | true =>
        have HJ3 := Lib.hid (HJ2.out (by first | rfl | trivial))
        go_wp2
        exact ⟨⟨k + 1, by omega, by go_num, HT2, HJ3⟩, by simp [intOf]; omega⟩
    · have HALL := Lib.hid (show ∀ x ∈ l, rightS x = true from fun x hx => by
        obtain ⟨j, hj, rfl⟩ := List.getElem_of_mem hx
        exact HJ.out j hj (by omega))
      clear HJ
      obtain ⟨inf, hi, hz0, hz1, hz2⟩ := info_parts rl_info'
      have HINF := Lib.hid hi
      have T2 := HT.out.drew
      have hown : (wr.drew.alloc (.cells #[] 28)).ownsRow wr.heap.size 28 2 (.slice (some ⟨wr.heap.size, 0, none⟩) 0 0) 0 [] := World.ownsRow_made wr.drew #[] 0 (Nat.le_refl _) (Nat.zero_le _) (by simp)
      have hlow : Below wr.heap.size wr (wr.drew.alloc (.cells #[] 28)) := (below_drew (Below.refl _ _)).alloc (Nat.le_refl _) _
      have T4 := HT.out.later hlow
      obtain ⟨ca, fa, za⟩ := HT.out.a
      have hza : w.heap.size < wr.heap.size := za
      clear hi fa za
      go_wp2_with fail
      go_region_held3 (fun W => ∀ o, W.cell? ⟨w.heap.size, o, none⟩ = (#[.slice a0 l.length c0, .slice a1 g.length c1, .slice a2 h.length c2, .slice a3 qs.length c3] : Array Value)[o]?)
        (first | exact T2.a.1 | exact T4.a.1 | exact T5.a.1 | exact T6.a.1 | go_keep)
        (first
          | (refine step_row rfl _ _ 23 rfl wr.heap.size 28 inf _ 2 32 Tryz.underlying23 HINF.out hz0 hz1 hz2 (Nat.le_of_ble_eq_true rfl) rfl (Nat.le_of_ble_eq_true rfl) _ 0 [] rfl hown _ g.length _ rfl (HP.out.rg.below T4.low) (rls_one _) ?_ hlow.size ?_; omega; intro a5 c5 w5 hown5 hg5; have hb5 := below_own hlow hown hg5 hlow.size (Nat.le_refl _); have T5 := HT.out.later hb5; obtain ⟨n5, hn5⟩ : ∃ n5, n5 = 0 + g.length := ⟨_, rfl⟩; rw [← hn5] at hown5 ⊢; have hn5m : n5 ≤ 30 := (by omega); have HN5 := Lib.hid hn5; clear hn5)
          | (refine step_row rfl _ _ 23 rfl wr.heap.size 28 inf _ 2 32 Tryz.underlying23 HINF.out hz0 hz1 hz2 (Nat.le_of_ble_eq_true rfl) rfl (Nat.le_of_ble_eq_true rfl) _ n5 _ rfl hown5 _ h.length _ rfl (HP.out.rh.below T5.low) (rls_one _) ?_ hb5.size ?_; omega; intro a6 c6 w6 hown6 hg6; have hb6 := below_own hb5 hown5 hg6 hb5.size (Nat.le_refl _); have T6 := HT.out.later hb6; obtain ⟨n6, hn6⟩ : ∃ n6, n6 = n5 + h.length := ⟨_, rfl⟩; rw [← hn6] at hown6 ⊢; have HN6 := Lib.hid hn6; clear hn6))
      have HS6 := Lib.hid (show Sl w6 2 (.slice a6 n6 c6) n6 ((g ++ h).flatMap Rl.cells) by have := Sl.of_own hown6; rw [rl_flat]; simpa using this)
      have HLe := Lib.hid (show ∀ x ∈ g ++ h, x.le 9223372036854775807 from fun x hx => by
        rcases List.mem_append.1 hx with hx | hx
        · exact HP.out.lg x hx
        · exact HP.out.lh x hx)
      have HN := Lib.hid (show n6 = (g ++ h).length by rw [HN6.out, HN5.out, List.length_append]; omega)
      have HT6 := Lib.hid T6
      have hn6m : n6 ≤ 1000 := by have := HN6.out; omega
      clear hn5m
      have HD := Lib.hid (show RightP l g h qs F ↔ (∀ x ∈ g ++ h, isRole x = true) ∧ (∀ q ∈ qs, rightQ q (F q) = true) ∧ l = insAll [] l ∧ g = insAllR [] g ∧ h = insAllR [] h ∧ ff = true from HD.out.trans ⟨fun h => h.2, fun h => ⟨HALL.out, h⟩⟩)
      generalize g ++ h = gh at HS6 HLe HN HD
      clear hown5 hown6 hg5 hg6 hb5 hb6 T2 T4 T5 T6 hlow hown ca hza HT HN6 HN5 hlt hk
      go_wp2_with fail
      go_loopw [28] (fun i wr => ∃ k : Nat, k ≤ n6 ∧ i = .int .i64 k ∧ Hid (OneAt w #[.slice a0 l.length c0, .slice a1 g.length c1, .slice a2 h.length c2, .slice a3 qs.length c3] wr) ∧ Hid (Below w6.heap.size w6 wr) ∧ Hid (∀ j (hj : j < gh.length), j < k → isRole gh[j] = true)) (fun i _ => n6 - (intOf i).toNat)
      case atStart => exact ⟨0, by omega, rfl, HT6, Lib.hid (Below.refl _ _), Lib.hid (fun _ _ h => absurd h (by omega))⟩
      case round =>
        clear HT6
        obtain ⟨k, hk, rfl, HT, HB, HJ⟩ := hrel
        by_cases hlt : k < n6
        · obtain ⟨b1, o1, e1, he1, hc1, hm1', hb1, hx1⟩ := HS6.out.pos (by omega)
          simp only [Value.slice.injEq, true_and] at he1
          obtain ⟨rfl, rfl⟩ := he1
          have hlt2 : k < gh.length := by have := HN.out; omega
          obtain ⟨p0, p1⟩ := rl_cell (w := wr) (fun j u hu => (HB.out.cell (p := ⟨b1, o1 + j, none⟩) hb1).trans (hx1 j u hu)) k hlt2
          have hbr : b1 < wr.heap.size := Nat.lt_of_lt_of_le hb1 HB.out.size
          have IR := Lib.hid (fun W => ref3_IsRoleM gh[k] W (HLe.out _ (List.getElem_mem hlt2)))
          clear hx1
          have HJ2 : Hid (isRole gh[k] = true → ∀ j (hj : j < gh.length), j < k + 1 → isRole gh[j] = true) := Lib.hid (fun hpk j hj hjk => by
            by_cases h : j < k
            · exact HJ.out j hj h
            · obtain rfl : j = k := by omega
              exact hpk)
          have HN1 : Hid (isRole gh[k] = false → ¬ RightP l g h qs F) := Lib.hid (fun hf hr => by rw [(HD.out.1 hr).1 _ (List.getElem_mem hlt2)] at hf; cases hf)
          generalize isRole gh[k] = ri at IR HJ2 HN1
          generalize gh[k] = x at *
          obtain ⟨x1, x2⟩ := x
          have HT2 := Lib.hid (HT.out.alloc (.cells #[.string x1, .string x2] 28))
          have HB2 := Lib.hid (HB.out.alloc HB.out.size (.cells #[.string x1, .string x2] 28))
          go_wp2_with fail
          refine (IR.out _).mono ?_
          rintro e w7 ⟨rfl, hb7⟩
          have HT3 := Lib.hid (HT2.out.later hb7)
          have HB3 := Lib.hid (HB2.out.trans (hb7.mono HB2.out.size))
          clear hb7
          cases ri with
          | false =>
            go_wp2
            go_ret
            exact ⟨rightI_no (HN1.out (by first | rfl | trivial)), HT3.out.low⟩
          | true =>
            have HJ3 := Lib.hid (HJ2.out (by first | rfl | trivial))
            go_wp2
            exact ⟨⟨k + 1, by omega, by go_num, HT3, HB3, HJ3⟩, by simp [intOf]; omega⟩
        · obtain ⟨ca, fa, za⟩ := HT.out.a
          have HALL2 := Lib.hid (show ∀ x ∈ gh, isRole x = true from fun x hx => by
            obtain ⟨j, hj, rfl⟩ := List.getElem_of_mem hx
            exact HJ.out j hj (by have := HN.out; omega))
          have HD := Lib.hid (show RightP l g h qs F ↔ (∀ q ∈ qs, rightQ q (F q) = true) ∧ l = insAll [] l ∧ g = insAllR [] g ∧ h = insAllR [] h ∧ ff = true from HD.out.trans ⟨fun h => h.2, fun h => ⟨HALL2.out, h⟩⟩)
          clear HS6 HLe HN HB HJ HALL2
          go_wp2_with fail
          clear ca fa za
          go_loopw [39] (fun i wr => ∃ k : Nat, k ≤ qs.length ∧ i = .int .i64 k ∧ Hid (OneAt w #[.slice a0 l.length c0, .slice a1 g.length c1, .slice a2 h.length c2, .slice a3 qs.length c3] wr) ∧ Hid (∀ j (hj : j < qs.length), j < k → rightQ qs[j] (F qs[j]) = true)) (fun i _ => qs.length - (intOf i).toNat)
          case atStart => exact ⟨0, by omega, rfl, HT, Lib.hid (fun _ _ h => absurd h (by omega))⟩
          case round =>
            clear HT
            obtain ⟨k, hk, rfl, HT, HJ⟩ := hrel
            by_cases hlt : k < qs.length
            · obtain ⟨b1, o1, e1, he1, hc1, hm1', hb1, hx1⟩ := HP.out.rq.pos (by omega)
              simp only [Value.slice.injEq, true_and] at he1
              obtain ⟨rfl, rfl⟩ := he1
              obtain ⟨p0, p1, p2, p3, p4, p5⟩ := q_cell (w := wr) (fun j u hu => (HT.out.low.cell (p := ⟨b1, o1 + j, none⟩) hb1).trans (hx1 j u hu)) k hlt
              have hbr : b1 < wr.heap.size := Nat.lt_of_lt_of_le hb1 HT.out.low.size
              have hqo := HP.out.lq _ (List.getElem_mem hlt)
              have QR := Lib.hid (fun W hb => RQ.out k hlt W hb)
              have HJ2 : Hid (rightQ qs[k] (F qs[k]) = true → ∀ j (hj : j < qs.length), j < k + 1 → rightQ qs[j] (F qs[j]) = true) := Lib.hid (fun hpk j hj hjk => by
                by_cases h : j < k
                · exact HJ.out j hj h
                · obtain rfl : j = k := by omega
                  exact hpk)
              have HN1 : Hid (rightQ qs[k] (F qs[k]) = false → ¬ RightP l g h qs F) := Lib.hid (fun hf hr => by rw [(HD.out.1 hr).1 _ (List.getElem_mem hlt)] at hf; cases hf)
              generalize rightQ qs[k] (F qs[k]) = rq at QR HJ2 HN1
              obtain ⟨wo, wc, hw5⟩ : ∃ a c, qs[k].w = .slice a ((hqo.2.2).choose).length c := ((hqo.2.2).choose_spec.1).form
              generalize (hqo.2.2).choose.length = nw at hw5
              clear hx1 hqo
              generalize qs[k] = x at *
              obtain ⟨xk, ⟨x1, x2⟩, ⟨x3, x4⟩, xw⟩ := x
              dsimp only at hw5
              subst hw5
              have HT1 := Lib.hid (HT.out.alloc (.cells #[.int .i64 xk, .string x1, .string x2, .string x3, .string x4, .slice wo nw wc] 71))
              go_wp2_with fail
              refine (QR.out _ HT1.out.low).mono ?_
              rintro e w7 ⟨rfl, hb7⟩
              have HT3 := Lib.hid (HT1.out.later hb7)
              clear hb7
              cases rq with
              | false =>
                go_wp2
                go_ret
                exact ⟨rightI_no (HN1.out (by first | rfl | trivial)), HT3.out.low⟩
              | true =>
                have HJ3 := Lib.hid (HJ2.out (by first | rfl | trivial))
                go_wp2
                exact ⟨⟨k + 1, by omega, by go_num, HT3, HJ3⟩, by simp [intOf]; omega⟩
            · have M1 := Lib.hid (fun v W (hb : Below w.heap.size w W) (hv : Sl W 9 v (insAll [] l).length ((insAll [] l).flatMap St.cells)) => ref3_SameB (.slice a0 l.length c0) v l (insAll [] l) W (HP.out.rs.below hb) hv.a)
              have M2 := Lib.hid (fun v W (hb : Below w.heap.size w W) (hv : Sl W 2 v (insAllR [] g).length ((insAllR [] g).flatMap Rl.cells)) => ref3_SameRolesE (.slice a1 g.length c1) v g (insAllR [] g) W (HP.out.rg.below hb) hv.a)
              have M3 := Lib.hid (fun v W (hb : Below w.heap.size w W) (hv : Sl W 2 v (insAllR [] h).length ((insAllR [] h).flatMap Rl.cells)) => ref3_SameRolesE (.slice a2 h.length c2) v h (insAllR [] h) W (HP.out.rh.below hb) hv.a)
              have HALL3 := Lib.hid (show ∀ q ∈ qs, rightQ q (F q) = true from fun x hx => by
                obtain ⟨j, hj, rfl⟩ := List.getElem_of_mem hx
                exact HJ.out j hj (by omega))
              have HD := Lib.hid (show RightP l g h qs F ↔ decide (l = insAll [] l) = true ∧ decide (g = insAllR [] g) = true ∧ decide (h = insAllR [] h) = true ∧ ff = true from HD.out.trans ⟨fun h => by simpa only [decide_eq_true_iff] using h.2, fun h => ⟨HALL3.out, by simpa only [decide_eq_true_iff] using h⟩⟩)
              clear HJ HALL3
              generalize decide (l = insAll [] l) = r1 at M1 HD
              generalize decide (g = insAllR [] g) = r2 at M2 HD
              generalize decide (h = insAllR [] h) = r3 at M3 HD
              have HT := HT.out
              go_wp2_with fail
              refine wp_region_held_drew (S := (fun W => ∀ o, W.cell? ⟨w.heap.size, o, none⟩ = (#[.slice a0 l.length c0, .slice a1 g.length c1, .slice a2 h.length c2, .slice a3 qs.length c3] : Array Value)[o]?)) (by kernel_rfl) HT.drew.a.1 (fun hHeld => ?_)
              have HT := HT.drew
              (refine held_yes (v := ?_) 0 rfl (by kernel_rfl) (by kernel_rfl) (by kernel_rfl) (fun _ _ _ h => h) (by rfl) (by assumption) ?_ ?_; rotate_left; (focus ((intro w hSw); (try dsimp only at hSw); go_simp; (try with_reducible rfl))); (try simp only [Act.put, List.setIfInBounds_toArray, List.set_cons_zero, List.set_cons_succ])); (refine held_yes (v := ?_) 1 rfl (by kernel_rfl) (by kernel_rfl) (by kernel_rfl) (fun _ _ _ h => h) (by rfl) (by assumption) ?_ ?_; rotate_left; (focus ((intro w hSw); (try dsimp only at hSw); go_simp; (try with_reducible rfl))); (try simp only [Act.put, List.setIfInBounds_toArray, List.set_cons_zero, List.set_cons_succ])); (refine held_yes (v := ?_) 2 rfl (by kernel_rfl) (by kernel_rfl) (by kernel_rfl) (fun _ _ _ h => h) (by rfl) (by assumption) ?_ ?_; rotate_left; (focus ((intro w hSw); (try dsimp only at hSw); go_simp; (try with_reducible rfl))); (try simp only [Act.put, List.setIfInBounds_toArray, List.set_cons_zero, List.set_cons_succ])); (refine held_yes (v := ?_) 3 rfl (by kernel_rfl) (by kernel_rfl) (by kernel_rfl) (fun _ _ _ h => h) (by rfl) (by assumption) ?_ ?_; rotate_left; (focus ((intro w hSw); (try dsimp only at hSw); go_simp; (try with_reducible rfl))); (try simp only [Act.put, List.setIfInBounds_toArray, List.set_cons_zero, List.set_cons_succ]))
              (refine held_call 4 rfl (by kernel_rfl) (fun K hK => ?_); go_simp)
              go_at_call 76; refine (S3.out _ HT.low).mono ?_; rintro e wq ⟨y1, rfl, hy1, hbq⟩; have HT := HT.later hbq; have cq := HT.a.1; have HY1 := Lib.hid hy1
              (refine hK.out _ _ (HT.a.1) (fun hHeld => ?_); clear hK K; (try simp only [Act.put, List.setIfInBounds_toArray, List.set_cons_zero, List.set_cons_succ]))
              (refine held_call 5 rfl (by kernel_rfl) (fun K hK => ?_); go_simp)
              go_at_call 30; refine (M1.out _ _ HT.low HY1.out).mono ?_; rintro e wq ⟨rfl, hbq⟩; have HT := HT.later hbq; have cq := HT.a.1
              (refine hK.out _ _ (HT.a.1) (fun hHeld => ?_); clear hK K; (try simp only [Act.put, List.setIfInBounds_toArray, List.set_cons_zero, List.set_cons_succ]))
              (refine held_yes (v := ?_) 6 rfl (by kernel_rfl) (by kernel_rfl) (by kernel_rfl) (fun _ _ _ h => h) (by rfl) (by assumption) ?_ ?_; rotate_left; (focus ((intro w hSw); (try dsimp only at hSw); go_simp; (try with_reducible rfl))); (try simp only [Act.put, List.setIfInBounds_toArray, List.set_cons_zero, List.set_cons_succ]))
              cases r1 with
              | false =>
                (refine held_no 7 rfl (by kernel_rfl) (by kernel_rfl) (by kernel_rfl) (fun _ _ _ h => h) (by rfl) (by assumption) ?_; (try simp only [Act.put, List.setIfInBounds_toArray, List.set_cons_zero, List.set_cons_succ])); (refine held_no 8 rfl (by kernel_rfl) (by kernel_rfl) (by kernel_rfl) (fun _ _ _ h => h) (by rfl) (by assumption) ?_; (try simp only [Act.put, List.setIfInBounds_toArray, List.set_cons_zero, List.set_cons_succ])); (refine held_no 9 rfl (by kernel_rfl) (by kernel_rfl) (by kernel_rfl) (fun _ _ _ h => h) (by rfl) (by assumption) ?_; (try simp only [Act.put, List.setIfInBounds_toArray, List.set_cons_zero, List.set_cons_succ])); (refine held_no 10 rfl (by kernel_rfl) (by kernel_rfl) (by kernel_rfl) (fun _ _ _ h => h) (by rfl) (by assumption) ?_; (try simp only [Act.put, List.setIfInBounds_toArray, List.set_cons_zero, List.set_cons_succ])); (refine held_no 11 rfl (by kernel_rfl) (by kernel_rfl) (by kernel_rfl) (fun _ _ _ h => h) (by rfl) (by assumption) ?_; (try simp only [Act.put, List.setIfInBounds_toArray, List.set_cons_zero, List.set_cons_succ])); (refine held_no 12 rfl (by kernel_rfl) (by kernel_rfl) (by kernel_rfl) (fun _ _ _ h => h) (by rfl) (by assumption) ?_; (try simp only [Act.put, List.setIfInBounds_toArray, List.set_cons_zero, List.set_cons_succ]))
                (refine held_yes (v := ?_) 13 rfl (by kernel_rfl) (by kernel_rfl) (by kernel_rfl) (fun _ _ _ h => h) (by rfl) (by assumption) ?_ ?_; rotate_left; (focus ((intro w hSw); (try dsimp only at hSw); go_simp; (try with_reducible rfl))); (try simp only [Act.put, List.setIfInBounds_toArray, List.set_cons_zero, List.set_cons_succ])); (refine held_yes (v := ?_) 14 rfl (by kernel_rfl) (by kernel_rfl) (by kernel_rfl) (fun _ _ _ h => h) (by rfl) (by assumption) ?_ ?_; rotate_left; (focus ((intro w hSw); (try dsimp only at hSw); go_simp; (try with_reducible rfl))); (try simp only [Act.put, List.setIfInBounds_toArray, List.set_cons_zero, List.set_cons_succ]))
                (refine held_no 15 rfl (by kernel_rfl) (by kernel_rfl) (by kernel_rfl) (fun _ _ _ h => h) (by rfl) (by assumption) ?_; (try simp only [Act.put, List.setIfInBounds_toArray, List.set_cons_zero, List.set_cons_succ])); (refine held_no 16 rfl (by kernel_rfl) (by kernel_rfl) (by kernel_rfl) (fun _ _ _ h => h) (by rfl) (by assumption) ?_; (try simp only [Act.put, List.setIfInBounds_toArray, List.set_cons_zero, List.set_cons_succ])); (refine held_no 17 rfl (by kernel_rfl) (by kernel_rfl) (by kernel_rfl) (fun _ _ _ h => h) (by rfl) (by assumption) ?_; (try simp only [Act.put, List.setIfInBounds_toArray, List.set_cons_zero, List.set_cons_succ])); (refine held_no 18 rfl (by kernel_rfl) (by kernel_rfl) (by kernel_rfl) (fun _ _ _ h => h) (by rfl) (by assumption) ?_; (try simp only [Act.put, List.setIfInBounds_toArray, List.set_cons_zero, List.set_cons_succ])); (refine held_no 19 rfl (by kernel_rfl) (by kernel_rfl) (by kernel_rfl) (fun _ _ _ h => h) (by rfl) (by assumption) ?_; (try simp only [Act.put, List.setIfInBounds_toArray, List.set_cons_zero, List.set_cons_succ])); (refine held_no 20 rfl (by kernel_rfl) (by kernel_rfl) (by kernel_rfl) (fun _ _ _ h => h) (by rfl) (by assumption) ?_; (try simp only [Act.put, List.setIfInBounds_toArray, List.set_cons_zero, List.set_cons_succ]))
                (refine held_yes (v := ?_) 21 rfl (by kernel_rfl) (by kernel_rfl) (by kernel_rfl) (fun _ _ _ h => h) (by rfl) (by assumption) ?_ ?_; rotate_left; (focus ((intro w hSw); (try dsimp only at hSw); go_simp; (try with_reducible rfl))); (try simp only [Act.put, List.setIfInBounds_toArray, List.set_cons_zero, List.set_cons_succ])); (refine held_yes (v := ?_) 22 rfl (by kernel_rfl) (by kernel_rfl) (by kernel_rfl) (fun _ _ _ h => h) (by rfl) (by assumption) ?_ ?_; rotate_left; (focus ((intro w hSw); (try dsimp only at hSw); go_simp; (try with_reducible rfl))); (try simp only [Act.put, List.setIfInBounds_toArray, List.set_cons_zero, List.set_cons_succ]))
                (refine held_no 23 rfl (by kernel_rfl) (by kernel_rfl) (by kernel_rfl) (fun _ _ _ h => h) (by rfl) (by assumption) ?_; (try simp only [Act.put, List.setIfInBounds_toArray, List.set_cons_zero, List.set_cons_succ])); (refine held_no 24 rfl (by kernel_rfl) (by kernel_rfl) (by kernel_rfl) (fun _ _ _ h => h) (by rfl) (by assumption) ?_; (try simp only [Act.put, List.setIfInBounds_toArray, List.set_cons_zero, List.set_cons_succ]))
                (refine held_yes (v := ?_) 25 rfl (by kernel_rfl) (by kernel_rfl) (by kernel_rfl) (fun _ _ _ h => h) (by rfl) (by assumption) ?_ ?_; rotate_left; (focus ((intro w hSw); (try dsimp only at hSw); go_simp; (try with_reducible rfl))); (try simp only [Act.put, List.setIfInBounds_toArray, List.set_cons_zero, List.set_cons_succ])); (refine held_yes (v := ?_) 26 rfl (by kernel_rfl) (by kernel_rfl) (by kernel_rfl) (fun _ _ _ h => h) (by rfl) (by assumption) ?_ ?_; rotate_left; (focus ((intro w hSw); (try dsimp only at hSw); go_simp; (try with_reducible rfl))); (try simp only [Act.put, List.setIfInBounds_toArray, List.set_cons_zero, List.set_cons_succ]))
                refine wpAnyH_done (by kernel_rfl) ?_ _
                go_wp2
                go_ret
                exact ⟨rightI_no (fun hr => by have := HD.out.1 hr; simp at this), HT.low⟩
              | true =>
                (refine held_yes (v := ?_) 7 rfl (by kernel_rfl) (by kernel_rfl) (by kernel_rfl) (fun _ _ _ h => h) (by rfl) (by assumption) ?_ ?_; rotate_left; (focus ((intro w hSw); (try dsimp only at hSw); go_simp; (try with_reducible rfl))); (try simp only [Act.put, List.setIfInBounds_toArray, List.set_cons_zero, List.set_cons_succ])); (refine held_yes (v := ?_) 8 rfl (by kernel_rfl) (by kernel_rfl) (by kernel_rfl) (fun _ _ _ h => h) (by rfl) (by assumption) ?_ ?_; rotate_left; (focus ((intro w hSw); (try dsimp only at hSw); go_simp; (try with_reducible rfl))); (try simp only [Act.put, List.setIfInBounds_toArray, List.set_cons_zero, List.set_cons_succ])); (refine held_yes (v := ?_) 9 rfl (by kernel_rfl) (by kernel_rfl) (by kernel_rfl) (fun _ _ _ h => h) (by rfl) (by assumption) ?_ ?_; rotate_left; (focus ((intro w hSw); (try dsimp only at hSw); go_simp; (try with_reducible rfl))); (try simp only [Act.put, List.setIfInBounds_toArray, List.set_cons_zero, List.set_cons_succ])); (refine held_yes (v := ?_) 10 rfl (by kernel_rfl) (by kernel_rfl) (by kernel_rfl) (fun _ _ _ h => h) (by rfl) (by assumption) ?_ ?_; rotate_left; (focus ((intro w hSw); (try dsimp only at hSw); go_simp; (try with_reducible rfl))); (try simp only [Act.put, List.setIfInBounds_toArray, List.set_cons_zero, List.set_cons_succ]))
                (refine held_call 11 rfl (by kernel_rfl) (fun K hK => ?_); go_simp)
                go_at_call 49; refine (SG.out _ HT.low).mono ?_; rintro e wq ⟨y2, rfl, hy2, hbq⟩; have HT := HT.later hbq; have cq := HT.a.1; have HY2 := Lib.hid hy2
                (refine hK.out _ _ (HT.a.1) (fun hHeld => ?_); clear hK K; (try simp only [Act.put, List.setIfInBounds_toArray, List.set_cons_zero, List.set_cons_succ]))
                (refine held_call 12 rfl (by kernel_rfl) (fun K hK => ?_); go_simp)
                go_at_call 42; refine (M2.out _ _ HT.low HY2.out).mono ?_; rintro e wq ⟨rfl, hbq⟩; have HT := HT.later hbq; have cq := HT.a.1
                (refine hK.out _ _ (HT.a.1) (fun hHeld => ?_); clear hK K; (try simp only [Act.put, List.setIfInBounds_toArray, List.set_cons_zero, List.set_cons_succ]))
                (refine held_yes (v := ?_) 13 rfl (by kernel_rfl) (by kernel_rfl) (by kernel_rfl) (fun _ _ _ h => h) (by rfl) (by assumption) ?_ ?_; rotate_left; (focus ((intro w hSw); (try dsimp only at hSw); go_simp; (try with_reducible rfl))); (try simp only [Act.put, List.setIfInBounds_toArray, List.set_cons_zero, List.set_cons_succ])); (refine held_yes (v := ?_) 14 rfl (by kernel_rfl) (by kernel_rfl) (by kernel_rfl) (fun _ _ _ h => h) (by rfl) (by assumption) ?_ ?_; rotate_left; (focus ((intro w hSw); (try dsimp only at hSw); go_simp; (try with_reducible rfl))); (try simp only [Act.put, List.setIfInBounds_toArray, List.set_cons_zero, List.set_cons_succ]))
                cases r2 with
                | false =>
                  (refine held_no 15 rfl (by kernel_rfl) (by kernel_rfl) (by kernel_rfl) (fun _ _ _ h => h) (by rfl) (by assumption) ?_; (try simp only [Act.put, List.setIfInBounds_toArray, List.set_cons_zero, List.set_cons_succ])); (refine held_no 16 rfl (by kernel_rfl) (by kernel_rfl) (by kernel_rfl) (fun _ _ _ h => h) (by rfl) (by assumption) ?_; (try simp only [Act.put, List.setIfInBounds_toArray, List.set_cons_zero, List.set_cons_succ])); (refine held_no 17 rfl (by kernel_rfl) (by kernel_rfl) (by kernel_rfl) (fun _ _ _ h => h) (by rfl) (by assumption) ?_; (try simp only [Act.put, List.setIfInBounds_toArray, List.set_cons_zero, List.set_cons_succ])); (refine held_no 18 rfl (by kernel_rfl) (by kernel_rfl) (by kernel_rfl) (fun _ _ _ h => h) (by rfl) (by assumption) ?_; (try simp only [Act.put, List.setIfInBounds_toArray, List.set_cons_zero, List.set_cons_succ])); (refine held_no 19 rfl (by kernel_rfl) (by kernel_rfl) (by kernel_rfl) (fun _ _ _ h => h) (by rfl) (by assumption) ?_; (try simp only [Act.put, List.setIfInBounds_toArray, List.set_cons_zero, List.set_cons_succ])); (refine held_no 20 rfl (by kernel_rfl) (by kernel_rfl) (by kernel_rfl) (fun _ _ _ h => h) (by rfl) (by assumption) ?_; (try simp only [Act.put, List.setIfInBounds_toArray, List.set_cons_zero, List.set_cons_succ]))
                  (refine held_yes (v := ?_) 21 rfl (by kernel_rfl) (by kernel_rfl) (by kernel_rfl) (fun _ _ _ h => h) (by rfl) (by assumption) ?_ ?_; rotate_left; (focus ((intro w hSw); (try dsimp only at hSw); go_simp; (try with_reducible rfl))); (try simp only [Act.put, List.setIfInBounds_toArray, List.set_cons_zero, List.set_cons_succ])); (refine held_yes (v := ?_) 22 rfl (by kernel_rfl) (by kernel_rfl) (by kernel_rfl) (fun _ _ _ h => h) (by rfl) (by assumption) ?_ ?_; rotate_left; (focus ((intro w hSw); (try dsimp only at hSw); go_simp; (try with_reducible rfl))); (try simp only [Act.put, List.setIfInBounds_toArray, List.set_cons_zero, List.set_cons_succ]))
                  (refine held_no 23 rfl (by kernel_rfl) (by kernel_rfl) (by kernel_rfl) (fun _ _ _ h => h) (by rfl) (by assumption) ?_; (try simp only [Act.put, List.setIfInBounds_toArray, List.set_cons_zero, List.set_cons_succ])); (refine held_no 24 rfl (by kernel_rfl) (by kernel_rfl) (by kernel_rfl) (fun _ _ _ h => h) (by rfl) (by assumption) ?_; (try simp only [Act.put, List.setIfInBounds_toArray, List.set_cons_zero, List.set_cons_succ]))
                  (refine held_yes (v := ?_) 25 rfl (by kernel_rfl) (by kernel_rfl) (by kernel_rfl) (fun _ _ _ h => h) (by rfl) (by assumption) ?_ ?_; rotate_left; (focus ((intro w hSw); (try dsimp only at hSw); go_simp; (try with_reducible rfl))); (try simp only [Act.put, List.setIfInBounds_toArray, List.set_cons_zero, List.set_cons_succ])); (refine held_yes (v := ?_) 26 rfl (by kernel_rfl) (by kernel_rfl) (by kernel_rfl) (fun _ _ _ h => h) (by rfl) (by assumption) ?_ ?_; rotate_left; (focus ((intro w hSw); (try dsimp only at hSw); go_simp; (try with_reducible rfl))); (try simp only [Act.put, List.setIfInBounds_toArray, List.set_cons_zero, List.set_cons_succ]))
                  refine wpAnyH_done (by kernel_rfl) ?_ _
                  go_wp2
                  go_ret
                  exact ⟨rightI_no (fun hr => by have := HD.out.1 hr; simp at this), HT.low⟩
                | true =>
                  (refine held_yes (v := ?_) 15 rfl (by kernel_rfl) (by kernel_rfl) (by kernel_rfl) (fun _ _ _ h => h) (by rfl) (by assumption) ?_ ?_; rotate_left; (focus ((intro w hSw); (try dsimp only at hSw); go_simp; (try with_reducible rfl))); (try simp only [Act.put, List.setIfInBounds_toArray, List.set_cons_zero, List.set_cons_succ])); (refine held_yes (v := ?_) 16 rfl (by kernel_rfl) (by kernel_rfl) (by kernel_rfl) (fun _ _ _ h => h) (by rfl) (by assumption) ?_ ?_; rotate_left; (focus ((intro w hSw); (try dsimp only at hSw); go_simp; (try with_reducible rfl))); (try simp only [Act.put, List.setIfInBounds_toArray, List.set_cons_zero, List.set_cons_succ])); (refine held_yes (v := ?_) 17 rfl (by kernel_rfl) (by kernel_rfl) (by kernel_rfl) (fun _ _ _ h => h) (by rfl) (by assumption) ?_ ?_; rotate_left; (focus ((intro w hSw); (try dsimp only at hSw); go_simp; (try with_reducible rfl))); (try simp only [Act.put, List.setIfInBounds_toArray, List.set_cons_zero, List.set_cons_succ])); (refine held_yes (v := ?_) 18 rfl (by kernel_rfl) (by kernel_rfl) (by kernel_rfl) (fun _ _ _ h => h) (by rfl) (by assumption) ?_ ?_; rotate_left; (focus ((intro w hSw); (try dsimp only at hSw); go_simp; (try with_reducible rfl))); (try simp only [Act.put, List.setIfInBounds_toArray, List.set_cons_zero, List.set_cons_succ]))
                  (refine held_call 19 rfl (by kernel_rfl) (fun K hK => ?_); go_simp)
                  go_at_call 49; refine (SH.out _ HT.low).mono ?_; rintro e wq ⟨y3, rfl, hy3, hbq⟩; have HT := HT.later hbq; have cq := HT.a.1; have HY3 := Lib.hid hy3
                  (refine hK.out _ _ (HT.a.1) (fun hHeld => ?_); clear hK K; (try simp only [Act.put, List.setIfInBounds_toArray, List.set_cons_zero, List.set_cons_succ]))
                  (refine held_call 20 rfl (by kernel_rfl) (fun K hK => ?_); go_simp)
                  go_at_call 42; refine (M3.out _ _ HT.low HY3.out).mono ?_; rintro e wq ⟨rfl, hbq⟩; have HT := HT.later hbq; have cq := HT.a.1
                  (refine hK.out _ _ (HT.a.1) (fun hHeld => ?_); clear hK K; (try simp only [Act.put, List.setIfInBounds_toArray, List.set_cons_zero, List.set_cons_succ]))
                  (refine held_yes (v := ?_) 21 rfl (by kernel_rfl) (by kernel_rfl) (by kernel_rfl) (fun _ _ _ h => h) (by rfl) (by assumption) ?_ ?_; rotate_left; (focus ((intro w hSw); (try dsimp only at hSw); go_simp; (try with_reducible rfl))); (try simp only [Act.put, List.setIfInBounds_toArray, List.set_cons_zero, List.set_cons_succ])); (refine held_yes (v := ?_) 22 rfl (by kernel_rfl) (by kernel_rfl) (by kernel_rfl) (fun _ _ _ h => h) (by rfl) (by assumption) ?_ ?_; rotate_left; (focus ((intro w hSw); (try dsimp only at hSw); go_simp; (try with_reducible rfl))); (try simp only [Act.put, List.setIfInBounds_toArray, List.set_cons_zero, List.set_cons_succ]))
                  cases r3 with
                  | false =>
                    (refine held_no 23 rfl (by kernel_rfl) (by kernel_rfl) (by kernel_rfl) (fun _ _ _ h => h) (by rfl) (by assumption) ?_; (try simp only [Act.put, List.setIfInBounds_toArray, List.set_cons_zero, List.set_cons_succ])); (refine held_no 24 rfl (by kernel_rfl) (by kernel_rfl) (by kernel_rfl) (fun _ _ _ h => h) (by rfl) (by assumption) ?_; (try simp only [Act.put, List.setIfInBounds_toArray, List.set_cons_zero, List.set_cons_succ]))
                    (refine held_yes (v := ?_) 25 rfl (by kernel_rfl) (by kernel_rfl) (by kernel_rfl) (fun _ _ _ h => h) (by rfl) (by assumption) ?_ ?_; rotate_left; (focus ((intro w hSw); (try dsimp only at hSw); go_simp; (try with_reducible rfl))); (try simp only [Act.put, List.setIfInBounds_toArray, List.set_cons_zero, List.set_cons_succ])); (refine held_yes (v := ?_) 26 rfl (by kernel_rfl) (by kernel_rfl) (by kernel_rfl) (fun _ _ _ h => h) (by rfl) (by assumption) ?_ ?_; rotate_left; (focus ((intro w hSw); (try dsimp only at hSw); go_simp; (try with_reducible rfl))); (try simp only [Act.put, List.setIfInBounds_toArray, List.set_cons_zero, List.set_cons_succ]))
                    refine wpAnyH_done (by kernel_rfl) ?_ _
                    go_wp2
                    go_ret
                    exact ⟨rightI_no (fun hr => by have := HD.out.1 hr; simp at this), HT.low⟩
                  | true =>
                    (refine held_yes (v := ?_) 23 rfl (by kernel_rfl) (by kernel_rfl) (by kernel_rfl) (fun _ _ _ h => h) (by rfl) (by assumption) ?_ ?_; rotate_left; (focus ((intro w hSw); (try dsimp only at hSw); go_simp; (try with_reducible rfl))); (try simp only [Act.put, List.setIfInBounds_toArray, List.set_cons_zero, List.set_cons_succ]))
                    (refine held_call 24 rfl (by kernel_rfl) (fun K hK => ?_); go_simp)
                    go_at_call 77; refine (FI.out _ HT.low).mono ?_; rintro e wq ⟨rfl, hbq⟩; have HT := HT.later hbq; have cq := HT.a.1
                    (refine hK.out _ _ (HT.a.1) (fun hHeld => ?_); clear hK K; (try simp only [Act.put, List.setIfInBounds_toArray, List.set_cons_zero, List.set_cons_succ]))
                    (refine held_yes (v := ?_) 25 rfl (by kernel_rfl) (by kernel_rfl) (by kernel_rfl) (fun _ _ _ h => h) (by rfl) (by assumption) ?_ ?_; rotate_left; (focus ((intro w hSw); (try dsimp only at hSw); go_simp; (try with_reducible rfl))); (try simp only [Act.put, List.setIfInBounds_toArray, List.set_cons_zero, List.set_cons_succ])); (refine held_yes (v := ?_) 26 rfl (by kernel_rfl) (by kernel_rfl) (by kernel_rfl) (fun _ _ _ h => h) (by rfl) (by assumption) ?_ ?_; rotate_left; (focus ((intro w hSw); (try dsimp only at hSw); go_simp; (try with_reducible rfl))); (try simp only [Act.put, List.setIfInBounds_toArray, List.set_cons_zero, List.set_cons_succ]))
                    refine wpAnyH_done (by kernel_rfl) ?_ _
                    go_wp2
                    go_ret
                    exact ⟨⟨ff, rfl, ⟨fun hff => HD.out.2 ⟨(by first | rfl | trivial), (by first | rfl | trivial), (by first | rfl | trivial), hff⟩, fun hr => (HD.out.1 hr).2.2.2⟩⟩, HT.low⟩
end Go.Proofs.YtnnieegddbcfcaaGreatDoor
namespace Go.Proofs.YtnnieegddbcfcaaGreatDoor
open Go.RowKit Go.Shelf

/-- A statement that makes one a member. -/
def memS (r : Rl) (x : ByteArray) : St := ⟨1, r, x, noR, noR, emp⟩
/-- All roles of principals and names. -/
def allR (A B : List ByteArray) : List Rl := A.flatMap (fun a => B.map (fun n => ⟨a, n⟩))
/-- Principals, and a fresh one. -/
def putX (A : List ByteArray) : List ByteArray := insSB A (freshB A)
def rolesX (A B : List ByteArray) (g : List Rl) : List Rl := ordR ((allR (putX A) B).filter (fun r => !hasR g r))
def memsX (R : List Rl) (A : List ByteArray) : List St := R.flatMap (fun r => A.map (memS r))
/-- The greatest state. -/
def maxS (l : List St) (g : List Rl) (A B : List ByteArray) : List St := ord (l ++ memsX (rolesX A B g) (putX A))
theorem allR_mem {A B : List ByteArray} {r : Rl} : r ∈ allR A B ↔ r.o ∈ A ∧ r.n ∈ B := by
  unfold allR
  rw [List.mem_flatMap]
  constructor
  · rintro ⟨a, ha, hr⟩
    obtain ⟨n, hn, rfl⟩ := List.mem_map.1 hr
    exact ⟨ha, hn⟩
  · rintro ⟨h1, h2⟩
    exact ⟨r.o, h1, List.mem_map.2 ⟨r.n, h2, rfl⟩⟩
theorem allR_len (A B : List ByteArray) : (allR A B).length = A.length * B.length := by
  unfold allR
  induction A with
  | nil => simp
  | cons a r ih => rw [List.flatMap_cons, List.length_append, ih, List.length_map, List.length_cons, Nat.add_mul, Nat.one_mul, Nat.add_comm]
theorem putX_mem {A : List ByteArray} {x : ByteArray} : x ∈ putX A ↔ x ∈ A ∨ x = freshB A := insS_memB A _ x
theorem putX_len (A : List ByteArray) : (putX A).length ≤ A.length + 1 := insS_lenB A _
theorem putX_asc {A : List ByteArray} (h : AscB A) : AscB (putX A) := insS_ascB h _
theorem hasR_no {l : List Rl} {r : Rl} : (!hasR l r) = true ↔ r ∉ l := by
  rw [← hasR_mem]; cases hasR l r <;> simp
theorem rolesX_mem {A B : List ByteArray} {g : List Rl} {r : Rl} : r ∈ rolesX A B g ↔ (r.o ∈ putX A ∧ r.n ∈ B) ∧ r ∉ g := by
  unfold rolesX
  rw [ord_memR, List.mem_filter, allR_mem, hasR_no]
theorem rolesX_len (A B : List ByteArray) (g : List Rl) : (rolesX A B g).length ≤ (A.length + 1) * B.length := by
  unfold rolesX
  refine Nat.le_trans (ord_lenR _) (Nat.le_trans (List.length_filter_le _ _) ?_)
  rw [allR_len]
  exact Nat.mul_le_mul (putX_len A) (Nat.le_refl _)
theorem memsX_mem {R : List Rl} {A : List ByteArray} {s : St} : s ∈ memsX R A ↔ ∃ r x, s = memS r x ∧ r ∈ R ∧ x ∈ A := by
  unfold memsX
  rw [List.mem_flatMap]
  constructor
  · rintro ⟨r, hr, hs⟩
    obtain ⟨x, hx, rfl⟩ := List.mem_map.1 hs
    exact ⟨r, x, rfl, hr, hx⟩
  · rintro ⟨r, x, rfl, hr, hx⟩
    exact ⟨r, hr, List.mem_map.2 ⟨x, hx, rfl⟩⟩
theorem memsX_len (R : List Rl) (A : List ByteArray) : (memsX R A).length = R.length * A.length := by
  unfold memsX
  induction R with
  | nil => simp
  | cons a r ih => rw [List.flatMap_cons, List.length_append, ih, List.length_map, List.length_cons, Nat.add_mul, Nat.one_mul, Nat.add_comm]
theorem maxS_mem {l : List St} {g : List Rl} {A B : List ByteArray} {s : St} : s ∈ maxS l g A B ↔ s ∈ l ∨ ∃ r x, s = memS r x ∧ ((r.o ∈ putX A ∧ r.n ∈ B) ∧ r ∉ g) ∧ x ∈ putX A := by
  unfold maxS
  rw [ord_mem, List.mem_append, memsX_mem]
  constructor
  · rintro (h | ⟨r, x, h1, h2, h3⟩)
    · exact .inl h
    · exact .inr ⟨r, x, h1, rolesX_mem.1 h2, h3⟩
  · rintro (h | ⟨r, x, h1, h2, h3⟩)
    · exact .inl h
    · exact .inr ⟨r, x, h1, rolesX_mem.2 h2, h3⟩
theorem maxS_len (l : List St) (g : List Rl) (A B : List ByteArray) : (maxS l g A B).length ≤ l.length + (A.length + 1) * (A.length + 1) * B.length := by
  unfold maxS
  refine Nat.le_trans (ord_len _) ?_
  rw [List.length_append, memsX_len]
  have h1 := Nat.mul_le_mul (rolesX_len A B g) (putX_len A)
  have h2 : (A.length + 1) * B.length * (A.length + 1) = (A.length + 1) * (A.length + 1) * B.length := by rw [Nat.mul_right_comm]
  omega
/-- All that the greatest state names stands in the two rows, with the fresh one. -/
theorem maxS_in {l : List St} {g : List Rl} {A B : List ByteArray} (h : ∀ s ∈ l, InAB A B s) : ∀ s ∈ maxS l g A B, InAB (putX A) B s := by
  intro s hs
  rcases maxS_mem.1 hs with h1 | ⟨r, x, rfl, ⟨⟨h2, h3⟩, _⟩, h4⟩
  · have := h s h1
    exact ⟨fun x hx => ⟨putX_mem.2 (.inl (this.r x hx).1), (this.r x hx).2⟩, fun x hx => putX_mem.2 (.inl (this.w x hx)), this.v⟩
  · refine ⟨fun y hy => ?_, fun y hy => ?_, fun y hy => ?_⟩
    · have : y ∈ [r] := hy
      rw [List.mem_singleton.1 this]; exact ⟨h2, h3⟩
    · have : y ∈ [x] := hy
      rw [List.mem_singleton.1 this]; exact h4
    · have : y ∈ ([] : List ByteArray) := hy
      cases this
theorem maxS_sub {l : List St} {g g' : List Rl} {A B : List ByteArray} (h : ∀ r ∈ g, r ∈ g') : ∀ s ∈ maxS l g' A B, s ∈ maxS l g A B := by
  intro s hs
  rcases maxS_mem.1 hs with h1 | ⟨r, x, rfl, ⟨h2, h3⟩, h4⟩
  · exact maxS_mem.2 (.inl h1)
  · exact maxS_mem.2 (.inr ⟨r, x, rfl, ⟨h2, fun hm => h3 (h r hm)⟩, h4⟩)
theorem digit_alnum {n : Nat} : ∀ c ∈ decL n, alnum c = true := by
  induction n using Nat.strongRecOn with
  | ind n ih =>
    have hc : ∀ d, d < 10 → alnum (UInt8.ofNat (48 + d)) = true := fun d hd => by
      have : d = 0 ∨ d = 1 ∨ d = 2 ∨ d = 3 ∨ d = 4 ∨ d = 5 ∨ d = 6 ∨ d = 7 ∨ d = 8 ∨ d = 9 := by omega
      rcases this with rfl | rfl | rfl | rfl | rfl | rfl | rfl | rfl | rfl | rfl <;> decide
    by_cases h : n < 10
    · rw [decL_small h]
      intro c hm
      rw [List.mem_singleton.1 hm]
      exact hc n h
    · rw [decL, if_neg h]
      intro c hm
      rcases List.mem_append.1 hm with hm | hm
      · exact ih (n / 10) (by omega) c hm
      · rw [List.mem_singleton.1 hm]
        exact hc _ (by omega)
theorem fresh_prin {A : List ByteArray} (h : A.length ≤ 6) : isP 65 90 (bl (freshB A)) = true := by
  obtain ⟨k, h1, h2, _, e⟩ := freshB_is A
  have hk := xdec_few h2
  rw [e]
  unfold xdec
  rw [bl_toBA]
  unfold isP
  have hl : (decL k).length = 1 := by rw [decL_small (by omega)]; rfl
  rw [Bool.and_eq_true, Bool.and_eq_true, List.all_cons, Bool.and_eq_true]
  refine ⟨⟨?_, by decide⟩, by decide, List.all_eq_true.2 (fun c hc => digit_alnum c hc)⟩
  rw [decide_eq_true_iff, List.length_cons, hl]; omega
theorem right_mem {r : Rl} {x : ByteArray} (h1 : isRole r = true) (h2 : isP 65 90 (bl x) = true) : rightS (memS r x) = true := by
  unfold memS; rw [rightS1, h1, h2]; simp [eqSt]
/-- The greatest state may be. -/
theorem maxS_right {l : List St} {g : List Rl} {A B : List ByteArray} (hl : ∀ s ∈ l, rightS s = true) (hA : ∀ a ∈ A, isP 65 90 (bl a) = true) (hB : ∀ n ∈ B, isP 97 122 (bl n) = true) (h6 : A.length ≤ 6) : ∀ s ∈ maxS l g A B, rightS s = true := by
  have hX : ∀ a ∈ putX A, isP 65 90 (bl a) = true := fun a ha => by
    rcases putX_mem.1 ha with h | rfl
    · exact hA a h
    · exact fresh_prin h6
  intro s hs
  rcases maxS_mem.1 hs with h1 | ⟨r, x, rfl, ⟨⟨h2, h3⟩, _⟩, h4⟩
  · exact hl s h1
  · exact right_mem (by unfold isRole; rw [hX _ h2, hB _ h3]; rfl) (hX _ h4)
/-- All names of a policy that may be may be. -/
theorem isP_size {lo hi : Int} {x : ByteArray} (h : isP lo hi (bl x) = true) : x.size ≤ 8 := by
  unfold isP at h
  split at h
  · cases h
  · rename_i c r e
    rw [Bool.and_eq_true, Bool.and_eq_true, decide_eq_true_iff] at h
    have := bl_len x
    rw [e] at this
    omega
theorem right_roles {s : St} (h : rightS s = true) : (∀ r ∈ rolesS s, isRole r = true) ∧ (∀ x ∈ whoS s, isP 65 90 (bl x) = true) ∧ ∀ x ∈ viaS s, isP 97 122 (bl x) = true := by
  have hk := right_kinds h
  unfold rightS at h
  rw [Bool.and_eq_true] at h
  obtain ⟨hh, h⟩ := h
  unfold rolesS whoS viaS
  rcases hk with e | e | e | e
  · rw [if_pos e] at h
    simp only [Bool.and_eq_true] at h
    rw [if_neg (by omega), if_neg (by omega), if_pos e, if_neg (by omega)]
    exact ⟨fun r hr => by rw [List.mem_singleton.1 hr]; exact hh, fun x hx => by rw [List.mem_singleton.1 hx]; exact h.1.1.1, fun x hx => by cases hx⟩
  · rw [if_neg (by omega), if_pos e] at h
    simp only [Bool.and_eq_true] at h
    rw [if_pos (.inl e), if_neg (by omega), if_neg (by omega)]
    refine ⟨fun r hr => ?_, fun x hx => (by cases hx), fun x hx => (by cases hx)⟩
    simp only [List.mem_cons, List.not_mem_nil, or_false] at hr
    rcases hr with rfl | rfl
    · exact hh
    · exact h.1.1.2
  · rw [if_neg (by omega), if_neg (by omega), if_pos e] at h
    simp only [Bool.and_eq_true] at h
    rw [if_pos (.inr e), if_neg (by omega), if_pos e]
    refine ⟨fun r hr => ?_, fun x hx => (by cases hx), fun x hx => by rw [List.mem_singleton.1 hx]; exact h.2⟩
    simp only [List.mem_cons, List.not_mem_nil, or_false] at hr
    rcases hr with rfl | rfl
    · exact hh
    · exact h.1.1.2
  · rw [if_neg (by omega), if_neg (by omega), if_neg (by omega), if_pos e] at h
    simp only [Bool.and_eq_true] at h
    rw [if_neg (by omega), if_pos e, if_neg (by omega), if_neg (by omega)]
    refine ⟨fun r hr => ?_, fun x hx => (by cases hx), fun x hx => (by cases hx)⟩
    simp only [List.mem_cons, List.not_mem_nil, or_false] at hr
    rcases hr with rfl | rfl | rfl
    · exact hh
    · exact h.1.1.1.2
    · exact h.1.1.2
theorem role_parts {r : Rl} (h : isRole r = true) : isP 65 90 (bl r.o) = true ∧ isP 97 122 (bl r.n) = true := by
  unfold isRole at h; rwa [Bool.and_eq_true] at h
theorem rightQ_parts {q : Qv} {us : List ByteArray} (h : rightQ q us = true) : (1 ≤ q.k ∧ q.k ≤ 6) ∧ (∀ r ∈ rolesQ q, isRole r = true) ∧ ∀ x ∈ us, isP 65 90 (bl x) = true := by
  unfold rightQ at h
  simp only [Bool.and_eq_true, decide_eq_true_iff] at h
  obtain ⟨h1, h2, h3, h4, h5⟩ := h
  refine ⟨⟨h1, h2⟩, fun r hr => ?_, fun x hx => ?_⟩
  · unfold rolesQ at hr
    by_cases e : q.k = 5 ∨ q.k = 6
    · rw [if_pos e] at hr
      rw [if_pos (by omega)] at h5
      simp only [Bool.and_eq_true] at h5
      simp only [List.mem_cons, List.not_mem_nil, or_false] at hr
      rcases hr with rfl | rfl
      · exact h3
      · exact h5.1
    · rw [if_neg e] at hr
      rw [List.mem_singleton.1 hr]; exact h3
  · obtain ⟨i, hi, rfl⟩ := List.getElem_of_mem hx
    unfold rises at h4
    rw [List.all_eq_true] at h4
    have := h4 i (List.mem_range.2 hi)
    unfold risesAt at this
    rw [Bool.and_eq_true] at this
    rw [List.getD_eq_getElem?_getD, List.getElem?_eq_getElem hi] at this
    exact this.1
theorem RightP.names {l : List St} {g h : List Rl} {qs : List Qv} {F : Qv → List ByteArray} (hr : RightP l g h qs F) : (∀ x ∈ newB (allPrins l g h qs F), isP 65 90 (bl x) = true) ∧ ∀ x ∈ newB (allNames l g h qs), isP 97 122 (bl x) = true := by
  obtain ⟨h1, h2, h3, _⟩ := hr
  have hroles : ∀ r ∈ allRoles l g h qs, isRole r = true := by
    intro r hr
    unfold allRoles at hr
    rw [List.mem_append, List.mem_append, List.mem_append] at hr
    rcases hr with ((hr | hr) | hr) | hr
    · obtain ⟨s, hs, hr⟩ := List.mem_flatMap.1 hr
      exact (right_roles (h1 s hs)).1 r hr
    · exact h2 r (List.mem_append.2 (.inl hr))
    · exact h2 r (List.mem_append.2 (.inr hr))
    · obtain ⟨q, hq, hr⟩ := List.mem_flatMap.1 hr
      exact (rightQ_parts (h3 q hq)).2.1 r hr
  refine ⟨fun x hx => ?_, fun x hx => ?_⟩
  · rw [new_mem] at hx
    unfold allPrins at hx
    rw [List.mem_append, List.mem_append] at hx
    rcases hx with (hx | hx) | hx
    · obtain ⟨r, hr, rfl⟩ := List.mem_map.1 hx
      exact (role_parts (hroles r hr)).1
    · obtain ⟨s, hs, hx⟩ := List.mem_flatMap.1 hx
      exact (right_roles (h1 s hs)).2.1 x hx
    · obtain ⟨q, hq, hx⟩ := List.mem_flatMap.1 hx
      exact (rightQ_parts (h3 q hq)).2.2 x hx
  · rw [new_mem] at hx
    unfold allNames at hx
    rw [List.mem_append] at hx
    rcases hx with hx | hx
    · obtain ⟨r, hr, rfl⟩ := List.mem_map.1 hx
      exact (role_parts (hroles r hr)).2
    · obtain ⟨s, hs, hx⟩ := List.mem_flatMap.1 hx
      exact (right_roles (h1 s hs)).2.2 x hx
theorem maxS_le {l : List St} {g : List Rl} {A B : List ByteArray} (hl : allLe l 4294967) (hA : ∀ a ∈ A, isP 65 90 (bl a) = true) (hB : ∀ n ∈ B, isP 97 122 (bl n) = true) (h60 : A.length ≤ 60) : allLe (maxS l g A B) 4294967 := by
  have hX : ∀ a ∈ putX A, a.size ≤ 4294967 := fun a ha => by
    rcases putX_mem.1 ha with h | rfl
    · have := isP_size (hA a h); omega
    · have := freshB_size A; omega
  intro s hs
  rcases maxS_mem.1 hs with h1 | ⟨r, x, rfl, ⟨⟨h2, h3⟩, _⟩, h4⟩
  · exact hl s h1
  · have := isP_size (hB _ h3)
    exact ⟨⟨hX _ h2, by dsimp only [memS]; omega⟩, hX _ h4, ⟨Nat.zero_le 4294967, Nat.zero_le 4294967⟩, ⟨Nat.zero_le 4294967, Nat.zero_le 4294967⟩, Nat.zero_le 4294967⟩
end Go.Proofs.YtnnieegddbcfcaaGreatDoor
namespace Go.Proofs.YtnnieegddbcfcaaGreatDoor
open Go.RowKit Go.Shelf

theorem frozen_sets {b i : Nat} : ∀ (vs : List Value) (o : Nat) (w' : World), w'.frozen? ⟨b, i, none⟩ = false → (w'.setCells b o vs).frozen? ⟨b, i, none⟩ = false
  | [], _, _, h => h
  | v :: vs, o, w', h => by
    rw [World.setCells]
    exact frozen_sets vs (o + 1) _ (by simpa using h)

theorem dedup_snocR : ∀ (p : List Rl) (y z : Rl), dedupR (p ++ [y, z]) = if y = z then dedupR (p ++ [y]) else dedupR (p ++ [y]) ++ [z]
  | [], y, z => by
    show dedupR [y, z] = if y = z then dedupR [y] else dedupR [y] ++ [z]
    unfold dedupR
    by_cases h : y = z
    · rw [if_pos h, if_pos h, h]; rfl
    · rw [if_neg h, if_neg h]; rfl
  | [x], y, z => by
    have ih := dedup_snocR [] y z
    simp only [List.nil_append] at ih
    show dedupR (x :: y :: [z]) = if y = z then dedupR (x :: y :: []) else dedupR (x :: y :: []) ++ [z]
    have e1 : dedupR (x :: y :: [z]) = if x = y then dedupR [y, z] else x :: dedupR [y, z] := rfl
    have e2 : dedupR (x :: y :: []) = if x = y then dedupR [y] else x :: dedupR [y] := rfl
    rw [e1, e2, ih]
    by_cases h1 : x = y <;> by_cases h2 : y = z <;> simp [h1, h2]
  | x :: x' :: p, y, z => by
    have ih := dedup_snocR (x' :: p) y z
    simp only [List.cons_append] at ih ⊢
    have e1 : ∀ r, dedupR (x :: x' :: r) = if x = x' then dedupR (x' :: r) else x :: dedupR (x' :: r) := fun _ => rfl
    rw [e1, e1, ih]
    by_cases h1 : x = x' <;> by_cases h2 : y = z <;> simp [h1, h2]
theorem take_twoR (l : List Rl) (m : Nat) (h : m + 1 < l.length) : l.take (m + 2) = l.take m ++ [l[m], l[m + 1]] := by
  rw [List.take_succ_eq_append_getElem h, List.take_succ_eq_append_getElem (by omega), List.append_assoc]; rfl
theorem dedup_sameR (l : List Rl) (m : Nat) (h : m + 1 < l.length) (e : l[m] = l[m + 1]) : dedupR (l.take (m + 2)) = dedupR (l.take (m + 1)) := by
  rw [take_twoR l m h, dedup_snocR, if_pos e, List.take_succ_eq_append_getElem (by omega)]
theorem dedup_moreR (l : List Rl) (m : Nat) (h : m + 1 < l.length) (e : ¬ l[m] = l[m + 1]) : dedupR (l.take (m + 2)) = dedupR (l.take (m + 1)) ++ [l[m + 1]] := by
  rw [take_twoR l m h, dedup_snocR, if_neg e, List.take_succ_eq_append_getElem (by omega)]
theorem dedup_lenR : ∀ (l : List Rl), (dedupR l).length ≤ l.length
  | [] => Nat.le_refl _
  | [_] => Nat.le_refl _
  | x :: y :: r => by
    have ih := dedup_lenR (y :: r)
    unfold dedupR
    split <;> simp at ih ⊢ <;> omega
theorem dedup_oneR (l : List Rl) (h : 0 < l.length) : dedupR (l.take 1) = l.take 1 := by
  match l, h with
  | x :: r, _ => rfl
/-- The first k of a row that Compact works on are what stays of its first m; the rest is as it was. -/
structure HalfR (w : World) (b o : Nat) (l : List Rl) (m k : Nat) : Prop where
  len : (dedupR (l.take m)).length = k
  low : ∀ i (hi : i < (dedupR (l.take m)).length), Two w b (o + i * 2) (dedupR (l.take m))[i]
  high : ∀ i (hi : i < l.length), k ≤ i → Two w b (o + i * 2) l[i]
def W2 (w : World) (b a : Nat) (s : Rl) : World := (w.setCell ⟨b, a, none⟩ (.string s.o)).setCell ⟨b, a + 1, none⟩ (.string s.n)
theorem w2_far (w : World) (b a i : Nat) (s : Rl) (h : i < a ∨ a + 2 ≤ i) : (W2 w b a s).cell? ⟨b, i, none⟩ = w.cell? ⟨b, i, none⟩ := by
  unfold W2
  rw [set_far _ _ _ _ _ (by omega), set_far _ _ _ _ _ (by omega)]
theorem w2_new {w : World} {b a : Nat} (s s0 : Rl) (h : Two w b a s0) : Two (W2 w b a s) b a s := by
  obtain ⟨h0, h1⟩ := h
  refine ⟨?_, ?_⟩
  · unfold W2; rw [set_far _ _ _ _ _ (by omega)]; exact World.cell?_setCell_same _ _ _ (u := _) h0
  · unfold W2; refine World.cell?_setCell_same _ _ _ (u := .string s0.n) ?_; rw [set_far _ _ _ _ _ (by omega)]; exact h1
theorem Two.drop1 {w w' : World} {b x : Nat} {s : Rl} (h : Two w b x s) (hw : ∀ i, x ≤ i → i < x + 2 → w'.cell? ⟨b, i, none⟩ = w.cell? ⟨b, i, none⟩) : Two w' b x s := by
  obtain ⟨h0, h1⟩ := h
  exact ⟨(hw _ (by omega) (by omega)).trans h0, (hw _ (by omega) (by omega)).trans h1⟩
theorem HalfR.put {w : World} {b o m kk : Nat} {l : List Rl} (h : HalfR w b o l (m + 1) kk) (hm : m + 1 < l.length) (hk : kk ≤ m) (e : ¬ l[m] = l[m + 1]) : HalfR (W2 w b (o + kk * 2) l[m + 1]) b o l (m + 2) (kk + 1) := by
  have hd := dedup_moreR l m hm e
  refine ⟨by rw [hd, List.length_append, h.len]; rfl, fun i hi => ?_, fun i hi hik => ?_⟩
  · rw [hd, List.length_append, h.len] at hi
    simp only [List.length_cons, List.length_nil] at hi
    by_cases hik : i < kk
    · have e1 : (dedupR (l.take (m + 2)))[i]'(by rw [hd, List.length_append, h.len]; simp; omega) = (dedupR (l.take (m + 1)))[i]'(by rw [h.len]; exact hik) := by
        simp only [hd]; rw [List.getElem_append_left]
      rw [e1]
      exact (h.low i (by rw [h.len]; exact hik)).drop1 (fun j _ _ => w2_far _ _ _ _ _ (by omega))
    · obtain rfl : i = kk := by omega
      have e1 : (dedupR (l.take (m + 2)))[i]'(by rw [hd, List.length_append, h.len]; simp) = l[m + 1] := by
        simp only [hd]; rw [List.getElem_append_right (by rw [h.len]; exact Nat.le_refl _)]; simp [h.len]
      rw [e1]
      exact w2_new _ _ (h.high i (by omega) (Nat.le_refl _))
  · exact (h.high i hi (by omega)).drop1 (fun j _ _ => w2_far _ _ _ _ _ (by omega))
theorem HalfR.same {w : World} {b o m kk : Nat} {l : List Rl} (h : HalfR w b o l (m + 1) kk) (hm : m + 1 < l.length) (e : l[m] = l[m + 1]) : HalfR w b o l (m + 2) kk := by
  have hd := dedup_sameR l m hm e
  exact ⟨by rw [hd]; exact h.len, fun i hi => by simp only [hd]; exact h.low i (by rw [← hd]; exact hi), h.high⟩
theorem HalfR.drewN {w : World} {b o m k : Nat} {l : List Rl} (h : HalfR w b o l m k) (n : Nat) : HalfR (w.drewN n) b o l m k := ⟨h.len, h.low, h.high⟩
theorem grown_w9R {w w' : World} {b a : Nat} {s : Rl} (h : w.grownBy w' (some b)) : w.grownBy (W2 w' b a s) (some b) := by
  unfold W2
  exact grown_set (grown_set h)
theorem run_clear2R {P : Program} (w : World) (t e ty : TypeId) (z : Value) (ht : P.underlying t = some (.slice e)) (hv : ∀ w, (zeroValue e).run P w = .ok z w) (b o n c : Nat) (hn : 0 < n) (hs : z.cells.size = 2)
    (hc : ∀ j, j < n * 2 → (w.cell? ⟨b, o + j, none⟩).isSome = true) (hf : ∀ j, w.frozen? ⟨b, o + j, none⟩ = false) (h1 : ∀ v ∈ (Builtin.zeroCells z.cells n).toList, v.oneCell' = true) :
    (Builtin.clear_ #[t] ty #[.slice (some ⟨b, o, none⟩) n c]).run P w = .ok (.tuple #[]) (w.setCells b o (Builtin.zeroCells z.cells n).toList) := by
  have hl : (Builtin.zeroCells z.cells n).toList.length = n * 2 := by simp [Builtin.zeroCells, hs]
  have hst := run_storeCells_cells (P := P) b o (Builtin.zeroCells z.cells n).toList 0 w (by intro j hj; rw [hl] at hj; simpa using hc j hj) (by intro j _; simp [hf]) h1
  simp only [Nat.add_zero] at hst
  obtain ⟨m, rfl⟩ : ∃ m, n = m + 1 := ⟨n - 1, by omega⟩
  simp [Builtin.clear_, run_underlying ht, hv, hst]
abbrev zeroRl : Value := .agg #[.string ByteArray.empty, .string ByteArray.empty]
theorem zero_oneR (n : Nat) : ∀ v ∈ (Builtin.zeroCells zeroRl.cells n).toList, v.oneCell' = true := by
  intro v hv
  simp only [Builtin.zeroCells, Array.toList_map, List.mem_map] at hv
  obtain ⟨i, _, rfl⟩ := hv
  have h9 : i % zeroRl.cells.size < 2 := Nat.mod_lt _ (by decide)
  generalize i % zeroRl.cells.size = q at h9
  match q, h9 with
  | 0, _ => rfl
  | 1, _ => rfl
  | n + 2, h => omega
theorem two_someR {w : World} {b x : Nat} {s : Rl} (h : Two w b x s) (f : Nat) (hf : f < 2) : (w.cell? ⟨b, x + f, none⟩).isSome = true := by
  obtain ⟨h0, h1⟩ := h
  match f, hf with
  | 0, _ => rw [Nat.add_zero, h0]; rfl
  | 1, _ => rw [h1]; rfl
theorem HalfR.all {w : World} {b o m k : Nat} {l : List Rl} (h : HalfR w b o l m k) (hm : m = l.length) : (dedupR l).length = k ∧ ∀ i (hi : i < (dedupR l).length), Two w b (o + i * 2) (dedupR l)[i] := by
  subst hm
  obtain ⟨h1, h2, _⟩ := h
  simp only [List.take_of_length_le (Nat.le_refl _)] at h1 h2
  exact ⟨h1, h2⟩
theorem two_cellsR {w : World} {b o : Nat} {l : List Rl} (h : ∀ i (hi : i < l.length), Two w b (o + i * 2) l[i]) (j : Nat) (u : Value) (hu : (l.flatMap Rl.cells)[j]? = some u) : w.cell? ⟨b, o + j, none⟩ = some u := by
  have hj : j < l.length * 2 := by rw [← flat_len Rl.cells 2 Rl.cells_len l]; exact (List.getElem?_eq_some_iff.1 hu).1
  have hi : j / 2 < l.length := by omega
  have hf : j % 2 < 2 := Nat.mod_lt _ (by decide)
  have e : j = j / 2 * 2 + j % 2 := by omega
  rw [e, flat_get Rl.cells 2 Rl.cells_len l (j / 2) (j % 2) hf _ (List.getElem?_eq_getElem hi)] at hu
  obtain ⟨h0, h1⟩ := h (j / 2) hi
  rw [show o + j = o + j / 2 * 2 + j % 2 by omega]
  generalize j % 2 = f at hf hu
  match f, hf with
  | 0, _ => rw [Nat.add_zero, h0]; exact hu
  | 1, _ => rw [h1]; exact hu
theorem high_someR {w : World} {b o m k : Nat} {l : List Rl} (h : HalfR w b o l m k) (hk : k ≤ l.length) : ∀ j, j < (l.length - k) * 2 → (w.cell? ⟨b, o + k * 2 + j, none⟩).isSome = true := by
  intro j hj
  have := two_someR (h.high (k + j / 2) (by omega) (by omega)) (j % 2) (Nat.mod_lt _ (by decide))
  rwa [show o + (k + j / 2) * 2 + j % 2 = o + k * 2 + j by omega] at this
set_option maxRecDepth 100000 in
theorem rl_zero (w : World) : (zeroValue 28).run Tryz.prog w = .ok zeroRl w := by rfl
set_option maxRecDepth 100000 in
set_option maxHeartbeats 8000000 in
theorem rl_Compact (b o cap : Nat) (l : List Rl) (w : World) (hl : l.length ≤ 1000) (hc : l.length ≤ cap) (hcm : cap ≤ 9223372036854775807) (hb : b < w.heap.size)
    (hx : ∀ j u, (l.flatMap Rl.cells)[j]? = some u → w.cell? ⟨b, o + j, none⟩ = some u) (hf : ∀ i, w.frozen? ⟨b, i, none⟩ = false) :
    Calls Tryz.prog 155 #[.slice (some ⟨b, o, none⟩) l.length cap] w fun e w' =>
      e = .returned (.slice (some ⟨b, o, none⟩) (dedupR l).length cap) ∧ (∀ j u, ((dedupR l).flatMap Rl.cells)[j]? = some u → w'.cell? ⟨b, o + j, none⟩ = some u) ∧ w.grownBy w' (some b) ∧ ∀ i, w'.frozen? ⟨b, i, none⟩ = false := by
  have HFF := Lib.hid hf
  have hEq := role_eql
  have hNe := role_neq
  have HX := Lib.hid hx
  by_cases h2 : l.length < 2
  · have hd : dedupR l = l := by
      match l, h2 with
      | [], _ => rfl
      | [_], _ => rfl
    have HD := Lib.hid hd
    have d : decide ((l.length : Int) < 2) = true := by rw [decide_eq_true_iff]; omega
    clear hd hx h2
    go_enter Tryz.func155, Tryz.ntmps155
    go_wp2
    go_ret
    exact ⟨by rw [HD.out]; rfl, by rw [HD.out]; exact HX.out, ⟨rfl, rfl, rfl, Nat.le_refl _, fun _ _ _ => rfl⟩, HFF.out⟩
  · have d : decide ((l.length : Int) < 2) = false := by rw [decide_eq_false_iff_not]; omega
    clear hx
    go_enter Tryz.func155, Tryz.ntmps155
    go_wp2_with fail
    go_loopw [3] (fun i wr => ∃ k n : Nat, 1 ≤ k ∧ k ≤ l.length ∧ i = .int .i64 k ∧ wr = w.drewN n ∧ Hid (dedupR (l.take k) = l.take k)) (fun i _ => l.length - (intOf i).toNat)
    case atStart => exact ⟨1, 0, by omega, by omega, rfl, rfl, Lib.hid (dedup_oneR l (by omega))⟩
    case round =>
      obtain ⟨k, n, hk1, hk, rfl, rfl, HK⟩ := hrel
      by_cases hlt : k < l.length
      · obtain ⟨m, hm⟩ : ∃ m, k = m + 1 := ⟨k - 1, by omega⟩
        have HM := Lib.hid hm
        have hml : m < l.length := by omega
        obtain ⟨p0, p1⟩ := rl_cell (w := w) HX.out k hlt
        obtain ⟨q0, q1⟩ := rl_cell (w := w) HX.out m hml
        have hw1 : IntKind.i64.wrap ((k : Int) - 1) = (m : Int) := by rw [show (k : Int) - 1 = (m : Int) by omega]; exact Go.IntWalk.i64_in _ (by omega)
        have hmi : (0 : Int) ≤ (m : Int) := by omega
        by_cases he : l[k] = l[m]
        · have H0 : HalfR w b o l (k + 1) k := by
            have hd : dedupR (l.take (k + 1)) = l.take k := by
              have h1 := HK.out
              subst hm
              exact (dedup_sameR l m hlt he.symm).trans h1
            refine ⟨by rw [hd, List.length_take]; omega, fun i hi => ?_, fun i hi _ => rl_cell (w := w) HX.out i hi⟩
            have hi' : i < l.length := by rw [hd, List.length_take] at hi; omega
            have e : (dedupR (l.take (k + 1)))[i] = l[i] := by simp only [hd, List.getElem_take]
            rw [e]
            exact rl_cell (w := w) HX.out i hi'
          have H0' := Lib.hid H0
          have d1 : eqRl ⟨l[k].o, l[k].n⟩ ⟨l[m].o, l[m].n⟩ = true := decide_eq_true he
          clear he H0 hm
          go_wp2_with fail
          go_big_quiet (fail)
          go_wp2_with fail
          clear p0 p1 q0 q1 d1 hw1
          go_loopw [3, 5] (fun kv iv wr => ∃ kk t : Nat, 1 ≤ t ∧ t ≤ l.length - k ∧ kk + 1 ≤ k + t ∧ kv = .int .i64 kk ∧ iv = .int .i64 t ∧ HalfR wr b o l (k + t) kk ∧ w.grownBy wr (some b) ∧ (∀ i, wr.frozen? ⟨b, i, none⟩ = false) ∧ b < wr.heap.size) (fun _ iv _ => l.length - (intOf iv).toNat)
          case atStart => exact ⟨k, 1, by omega, by omega, by omega, rfl, rfl, H0'.out.drewN _, ⟨rfl, rfl, rfl, Nat.le_refl _, fun _ _ _ => rfl⟩, hf, hb⟩
          case round =>
            obtain ⟨kk, t, ht1, ht, hkk, rfl, rfl, hh, hg, hfr, hbr⟩ := hrel
            have HG := Lib.hid hg
            by_cases hlt2 : t < l.length - k
            · obtain ⟨u, hu⟩ : ∃ u, t = u + 1 := ⟨t - 1, by omega⟩
              have hkt : k + t < l.length := by omega
              have hku : k + u < l.length := by omega
              obtain ⟨p0, p1⟩ := (show Two wr b (o + k * 2 + t * 2) l[k + t] from by have := hh.high (k + t) (by omega) (by omega); rwa [show o + (k + t) * 2 = o + k * 2 + t * 2 by omega] at this)
              obtain ⟨q0, q1⟩ := (show Two wr b (o + k * 2 + u * 2) l[k + u] from by have := hh.high (k + u) (by omega) (by omega); rwa [show o + (k + u) * 2 = o + k * 2 + u * 2 by omega] at this)
              have hkl : kk < l.length := by omega
              obtain ⟨r0, r1⟩ := hh.high kk hkl (Nat.le_refl _)
              have hw1 : IntKind.i64.wrap ((t : Int) - 1) = (u : Int) := by rw [show (t : Int) - 1 = (u : Int) by omega]; exact Go.IntWalk.i64_in _ (by omega)
              have hui : (0 : Int) ≤ (u : Int) := by omega
              have hul : u < l.length - k := by omega
              by_cases he : l[k + t] = l[k + u]
              · have d1 : (!eqRl ⟨l[k + t].o, l[k + t].n⟩ ⟨l[k + u].o, l[k + u].n⟩) = false := congrArg (!·) (decide_eq_true he)
                have HN : Hid (HalfR wr b o l (k + (t + 1)) kk) := Lib.hid (by subst hu; exact hh.same (m := k + u) hkt he.symm)
                clear he hh hg hu
                go_wp2_with fail
                go_big_quiet (fail)
                go_wp2
                exact ⟨⟨kk, t + 1, by omega, by omega, by omega, rfl, by go_num, HN.out.drewN _, grown_drewN HG.out _, hfr, hbr⟩, by simp [intOf]; omega⟩
              · have d1 : (!eqRl ⟨l[k + t].o, l[k + t].n⟩ ⟨l[k + u].o, l[k + u].n⟩) = true := congrArg (!·) (decide_eq_false he)
                have HN := Lib.hid (fun n => show HalfR (W2 (wr.drewN n) b (o + kk * 2) l[k + t]) b o l (k + (t + 1)) (kk + 1) by subst hu; exact (hh.drewN n).put (m := k + u) hkt (by omega) (fun e => he e.symm))
                clear he hh hg hu
                go_wp2_with fail
                go_big_quiet (fail)
                go_wp2
                refine ⟨⟨kk + 1, t + 1, by omega, by omega, by omega, by go_num, by go_num, ?_, ?_, ?_, ?_⟩, by simp [intOf]; omega⟩
                · have h := HN.out nq
                  unfold W2 at h
                  with_reducible exact h
                · have h := grown_w9R (b := b) (a := o + kk * 2) (s := l[k + t]) (grown_drewN HG.out nq)
                  unfold W2 at h
                  with_reducible exact h
                · intro i
                  simpa using hfr i
                · simpa using hbr
            · obtain ⟨hlen, hlow⟩ := hh.all (show k + t = l.length by omega)
              have HLEN := Lib.hid hlen
              have HLOW := Lib.hid hlow
              have hkl : kk < l.length := by omega
              have hkc : kk < cap := by omega
              obtain ⟨W', hW, hclr⟩ : ∃ W', W' = wr.setCells b (o + kk * 2) (Builtin.zeroCells zeroRl.cells (l.length - kk)).toList ∧ ∀ ty, Sem.run Tryz.prog (Builtin.clear_ #[23] ty #[.slice (some ⟨b, o + kk * 2, none⟩) (l.length - kk) (cap - kk)]) wr = .ok (.tuple #[]) W' :=
                ⟨_, rfl, fun ty => run_clear2R wr _ 28 ty zeroRl Tryz.underlying23 rl_zero b (o + kk * 2) (l.length - kk) (cap - kk) (by omega) rfl (high_someR hh (by omega)) (fun j => hfr _) (zero_oneR _)⟩
              have HOUT : Hid (∀ i, i < o + kk * 2 → W'.cell? ⟨b, i, none⟩ = wr.cell? ⟨b, i, none⟩) := Lib.hid (fun i hi => by rw [hW]; exact World.cell?_setCells_out b _ _ _ _ (fun _ _ => .inl hi))
              have HFZ : Hid (∀ i, W'.frozen? ⟨b, i, none⟩ = false) := Lib.hid (fun i => by rw [hW]; exact frozen_sets _ _ _ (hfr i))
              have HGW : Hid (w.grownBy W' (some b)) := Lib.hid (by rw [hW]; exact grown_sets _ _ _ hg)
              clear hh hg hlen hlow hW
              go_wp2_with fail
              go_ret
              refine ⟨by rw [HLEN.out]; rfl, ?_, HGW.out, HFZ.out⟩
              refine two_cellsR (fun i hi => (HLOW.out i hi).drop1 (fun j h1 h2 => HOUT.out j ?_))
              have := HLEN.out
              omega
        · have HN : Hid (dedupR (l.take (k + 1)) = l.take (k + 1)) := Lib.hid (by
            have h1 := HK.out
            subst hm
            exact (dedup_moreR l m hlt (fun e => he e.symm)).trans (by rw [h1]; exact (List.take_succ_eq_append_getElem hlt).symm))
          have d1 : eqRl ⟨l[k].o, l[k].n⟩ ⟨l[m].o, l[m].n⟩ = false := decide_eq_false he
          clear he hm
          go_wp2_with fail
          go_big_quiet (fail)
          go_wp2
          exact ⟨⟨k + 1, n + nq, by omega, by omega, by go_num, rfl, HN⟩, by simp [intOf]; omega⟩
      · have HD := Lib.hid (show dedupR l = l by have := HK.out; rwa [List.take_of_length_le (by omega)] at this)
        go_wp2
        go_ret
        exact ⟨by rw [HD.out]; rfl, by rw [HD.out]; exact HX.out, ⟨rfl, rfl, rfl, Nat.le_refl _, fun _ _ _ => rfl⟩, HFF.out⟩
end Go.Proofs.YtnnieegddbcfcaaGreatDoor
