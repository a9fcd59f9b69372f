/- crupperref05.Fits, crupperref04.Right, crupperref05.Right, to the letter (printed by gen_right6.py). The statement LowTells: the walk of the law. Plain laws: a least relation of statements is a row of pairs; what more statements tell. Decimal digits, fresh texts: plain laws. Package state: Reaches; the reference's MayCome and Reaches. Plain laws: the greatest state. Package state's Reaches, and the reference's MayCome and Reaches. The reference's Reaches. -/
import Derived.Test.YtcmdhfccdkjenaaGreatDoorPart15
import Derived.Test.YtcmdhfccdkjenaaGreatDoorPart7
import Derived.Test.YtcmdhfccdkjenaaGreatDoorPart14
import Derived.Test.YtcmdhfccdkjenaaGreatDoorPart6
import Derived.Test.YtcmdhfccdkjenaaGreatDoorPart8
import Derived.Test.YtcmdhfccdkjenaaGreatDoorPart13
import Derived.Test.YtcmdhfccdkjenaaGreatDoorPart5
namespace Go.Proofs.YtcmdhfccdkjenaaGreatDoor
open Go.RowKit Go.Shelf

/-- Few enough queries, principals and names. -/
def fitsP (l : List St) (g h : List Rl) (qs : List Qv) (F : Qv → List ByteArray) : Bool := decide (qs.length ≤ 16) && (decide ((newB (allPrins l g h qs F)).length ≤ 16) && decide ((newB (allNames l g h qs)).length ≤ 12))
set_option maxRecDepth 100000 in
set_option maxHeartbeats 8000000 in
theorem ref5_FitsL (v0 v1 v2 v3 : Value) (l : List St) (g h : List Rl) (qs : List Qv) (w : World) (hp : PolAt w v0 v1 v2 v3 l g h qs) (hl : l.length ≤ 80) (hg : g.length ≤ 40) (hh : h.length ≤ 40) (hq : qs.length ≤ 100) (F : Qv → List ByteArray) (hF : WhoF w qs F) :
    Calls Tryz.prog 77 #[pv v0 v1 v2 v3] w fun e w' => e = .returned (.bool (fitsP l g h qs F)) ∧ Below w.heap.size w w' := by
  have PR := Lib.hid (fun W (hb : Below w.heap.size w W) => ref5_PrinsL v0 v1 v2 v3 l g h qs W (hp.below hb) (by omega) (by omega) (by omega) hq F (hF.below hb))
  have NA := Lib.hid (fun W (hb : Below w.heap.size w W) => ref5_NamesL v0 v1 v2 v3 l g h qs W (hp.below hb) (by omega) (by omega) (by omega) hq)
  obtain ⟨a0, c0, rfl⟩ := hp.rs.form
  obtain ⟨a1, c1, rfl⟩ := hp.rg.form
  obtain ⟨a2, c2, rfl⟩ := hp.rh.form
  obtain ⟨a3, c3, rfl⟩ := hp.rq.form
  have HT := Lib.hid (show OneAt w #[.slice a0 l.length c0, .slice a1 g.length c1, .slice a2 h.length c2, .slice a3 qs.length c3] (w.alloc (.cells #[.slice a0 l.length c0, .slice a1 g.length c1, .slice a2 h.length c2, .slice a3 qs.length c3] 26)) from ⟨Blk.new w _ _, (Below.refl _ _).alloc (Nat.le_refl _) _⟩)
  have d0 : decide ((80 : Int) < (l.length : Int)) = false := by (rw [decide_eq_false_iff_not]; omega)
  have d1 : decide ((40 : Int) < (g.length : Int)) = false := by (rw [decide_eq_false_iff_not]; omega)
  have d2 : decide ((40 : Int) < (h.length : Int)) = false := by (rw [decide_eq_false_iff_not]; omega)
  have RES := Lib.hid (show fitsP l g h qs F = (decide (qs.length ≤ 16) && (decide ((newB (allPrins l g h qs F)).length ≤ 16) && decide ((newB (allNames l g h qs)).length ≤ 12))) from rfl)
  clear hp hF
  go_enter Tryz.func77, Tryz.ntmps77
  by_cases t3 : 16 < qs.length
  · have d3 : decide ((16 : Int) < (qs.length : Int)) = true := by (rw [decide_eq_true_iff]; omega)
    go_wp2
    go_ret
    exact ⟨ret_b (by rw [RES.out, decide_eq_false (by omega)]; rfl), HT.out.low⟩
  have hq16 : decide (qs.length ≤ 16) = true := by rw [decide_eq_true_iff]; omega
  have d3 : decide ((16 : Int) < (qs.length : Int)) = false := by (rw [decide_eq_false_iff_not]; omega)
  go_wp2_with fail
  refine (PR.out _ HT.out.low).mono ?_
  rintro e w1 ⟨x1, rfl, hx1, hb1⟩
  have HT := Lib.hid (HT.out.later hb1)
  obtain ⟨hs1, _⟩ := hx1
  have HA1 := Lib.hid hs1.max
  generalize newB (allPrins l g h qs F) = ss at *
  obtain ⟨xo, xc, rfl⟩ := hs1.form
  obtain ⟨ca, fa, za⟩ := HT.out.a
  clear hb1 hs1
  by_cases t4 : ss.length ≤ 16
  · have d4 : decide ((ss.length : Int) ≤ 16) = true := by (rw [decide_eq_true_iff]; omega)
    have d4' : decide (ss.length ≤ 16) = true := by (rw [decide_eq_true_iff]; omega)
    go_wp2_with fail
    refine (NA.out _ HT.out.low).mono ?_
    rintro e w2 ⟨x2, rfl, hx2, hb2⟩
    have HT2 := Lib.hid (HT.out.later hb2)
    obtain ⟨hu1, _⟩ := hx2
    generalize newB (allNames l g h qs) = us at *
    obtain ⟨yo, yc, rfl⟩ := hu1.form
    clear hb2 hu1
    by_cases t5 : us.length ≤ 12
    · have d5 : decide ((us.length : Int) ≤ 12) = true := by (rw [decide_eq_true_iff]; omega)
      have d5' : decide (us.length ≤ 12) = true := by (rw [decide_eq_true_iff]; omega)
      go_wp2
      go_ret
      exact ⟨ret_b (by rw [RES.out, hq16, d4', d5']; rfl), HT2.out.low⟩
    · have d5 : decide ((us.length : Int) ≤ 12) = false := by (rw [decide_eq_false_iff_not]; omega)
      have d5' : decide (us.length ≤ 12) = false := by (rw [decide_eq_false_iff_not]; omega)
      go_wp2
      go_ret
      exact ⟨ret_b (by rw [RES.out, hq16, d4', d5']; rfl), HT2.out.low⟩
  · have d4 : decide ((ss.length : Int) ≤ 16) = false := by (rw [decide_eq_false_iff_not]; omega)
    have d4' : decide (ss.length ≤ 16) = false := by (rw [decide_eq_false_iff_not]; omega)
    go_wp2
    go_ret
    exact ⟨ret_b (by rw [RES.out, hq16, d4']; rfl), HT.out.low⟩

/-- Is the text of a place a principal, above the one ahead of it? -/
def risesAt (us : List ByteArray) (i : Nat) : Bool := isP 65 90 (bl (us.getD i emp)) && (decide (i = 0) || Op.bytesLess (us.getD (i - 1) emp).toList (us.getD i emp).toList)
def rises (us : List ByteArray) : Bool := (List.range us.length).all (risesAt us)
theorem rises_yes {us : List ByteArray} {k : Nat} (hk : ¬ k < us.length) (h : ∀ j, j < k → risesAt us j = true) : rises us = true := by
  unfold rises; rw [List.all_eq_true]
  intro j hj
  exact h j (by have := List.mem_range.1 hj; omega)
theorem rises_no {us : List ByteArray} {k : Nat} (hk : k < us.length) (h : risesAt us k = false) : rises us = false := by
  cases hr : rises us with
  | false => rfl
  | true =>
    unfold rises at hr
    rw [List.all_eq_true] at hr
    rw [hr k (List.mem_range.2 hk)] at h; cases h
theorem getD_at {us : List ByteArray} {k : Nat} (hk : k < us.length) : us.getD k emp = us[k] := by rw [List.getD_eq_getElem?_getD, List.getElem?_eq_getElem hk]; rfl
/-- Which queries may be, of the texts that they name. -/
def rightQ (q : Qv) (us : List ByteArray) : Bool :=
  decide (1 ≤ q.k) && (decide (q.k ≤ 6) && (isRole q.a && (rises us &&
  (if 5 ≤ q.k then isRole q.b && decide (us.length = 0) else eqRl q.b noR && (decide (us.length ≤ 12) && (if q.k = 4 then decide (us.length = 0) else decide (q.k = 3) || decide (0 < us.length)))))))
set_option maxRecDepth 100000 in
set_option maxHeartbeats 8000000 in
theorem ref4_RightL (q : Qv) (us : List ByteArray) (w : World) (hla : q.a.le 9223372036854775807) (hlb : q.b.le 9223372036854775807) (hu1 : SlA w 1 q.w us.length (strs us)) (hu3 : ∀ s ∈ us, s.size ≤ 9223372036854775807) : Calls Tryz.prog 32 #[qv q] w fun e w' => e = .returned (.bool (rightQ q us)) ∧ Below w.heap.size w w' := by
  have RES := Lib.hid (show rightQ q us = (decide (1 ≤ q.k) && (decide (q.k ≤ 6) && (isRole q.a && (rises us && (if 5 ≤ q.k then isRole q.b && decide (us.length = 0) else eqRl q.b noR && (decide (us.length ≤ 12) && (if q.k = 4 then decide (us.length = 0) else decide (q.k = 3) || decide (0 < us.length)))))))) from rfl)
  generalize rightQ q us = res at RES ⊢
  obtain ⟨xk, ⟨x1, x2⟩, ⟨x3, x4⟩, wv⟩ := q
  have HU := Lib.hid hu1
  have HUZ := Lib.hid hu3
  have hmax := hu1.max
  dsimp only at RES hu1 hla hlb
  have IA := Lib.hid (fun W => ref3_IsRoleM ⟨x1, x2⟩ W hla)
  have IB := Lib.hid (fun W => ref3_IsRoleM ⟨x3, x4⟩ W hlb)
  generalize isRole ⟨x1, x2⟩ = ra at IA RES
  generalize isRole ⟨x3, x4⟩ = rb at IB RES
  obtain ⟨wo, wc, rfl⟩ := hu1.form
  have HT := Lib.hid (show OneAt w #[.int .i64 xk, .string x1, .string x2, .string x3, .string x4, .slice wo us.length wc] (w.alloc (.cells #[.int .i64 xk, .string x1, .string x2, .string x3, .string x4, .slice wo us.length wc] 45)) from ⟨Blk.new w _ _, (Below.refl _ _).alloc (Nat.le_refl _) _⟩)
  clear hla hlb hu1 hu3
  go_enter Tryz.func32, Tryz.ntmps32
  by_cases k1 : xk < 1
  · have d1 : decide (xk < 1) = true := decide_eq_true k1
    have R := Lib.hid (show res = false by rw [RES.out, decide_eq_false (show ¬ 1 ≤ xk by omega)]; rfl)
    clear k1
    go_wp2
    go_ret
    exact ⟨ret_b R.out.symm, HT.out.low⟩
  have d1 : decide (xk < 1) = false := decide_eq_false k1
  by_cases k6 : 6 < xk
  · have d6 : decide (6 < xk) = true := decide_eq_true k6
    have R := Lib.hid (show res = false by rw [RES.out, decide_eq_true (show 1 ≤ xk by omega), decide_eq_false (show ¬ xk ≤ 6 by omega)]; rfl)
    clear k1 k6
    go_wp2
    go_ret
    exact ⟨ret_b R.out.symm, HT.out.low⟩
  have d6 : decide (6 < xk) = false := decide_eq_false k6
  rw [decide_eq_true (show 1 ≤ xk by omega), decide_eq_true (show xk ≤ 6 by omega), Bool.true_and, Bool.true_and] at RES
  have HK := Lib.hid (And.intro k1 k6)
  clear k1 k6
  go_wp2_with fail
  refine (IA.out _).mono ?_
  rintro e w1 ⟨rfl, hb1⟩
  have HT := Lib.hid (HT.out.later hb1)
  clear hb1
  cases ra with
  | false =>
    go_wp2
    go_ret
    exact ⟨ret_b (by rw [RES.out]; rfl), HT.out.low⟩
  | true =>
  rw [Bool.true_and] at RES
  obtain ⟨ca, fa, za⟩ := HT.out.a
  go_wp2_with fail
  clear ca fa za
  go_loopw [22] (fun i wr => ∃ k : Nat, k ≤ us.length ∧ i = .int .i64 k ∧ Hid (OneAt w #[.int .i64 xk, .string x1, .string x2, .string x3, .string x4, .slice wo us.length wc] wr) ∧ Hid (∀ j, j < k → risesAt us j = true)) (fun i _ => us.length - (intOf i).toNat)
  case atStart => exact ⟨0, by omega, rfl, HT, Lib.hid (fun j h => absurd h (by omega))⟩
  case round =>
    clear HT
    obtain ⟨k, hk, rfl, HT, HJ⟩ := hrel
    obtain ⟨ca, fa, za⟩ := HT.out.a
    by_cases hlt : k < us.length
    · obtain ⟨b1, o1, c1, he1, hc1, hm1, hb1, hx1⟩ := HU.out.pos (by omega)
      simp only [Value.slice.injEq, true_and] at he1
      obtain ⟨rfl, rfl⟩ := he1
      have p0 := (HT.out.low.cell (p := ⟨b1, o1 + k, none⟩) hb1).trans (hx1 k _ (strs_get hlt))
      have hbr : b1 < wr.heap.size := Nat.lt_of_lt_of_le hb1 HT.out.low.size
      have IP := Lib.hid (fun W => ref1_IsPrin us[k] W (HUZ.out _ (List.getElem_mem hlt)))
      have HRA := Lib.hid (show risesAt us k = (isP 65 90 (bl us[k]) && (decide (k = 0) || Op.bytesLess (us.getD (k - 1) emp).toList us[k].toList)) by unfold risesAt; rw [getD_at hlt])
      have HJS : Hid (risesAt us k = true → ∀ j, j < k + 1 → risesAt us j = true) := Lib.hid (fun h j hj => by
        by_cases e : j = k
        · rw [e]; exact h
        · exact HJ.out j (by omega))
      have HNO := Lib.hid (fun (h : risesAt us k = false) => show res = false by rw [RES.out, rises_no hlt h]; rfl)
      generalize isP 65 90 (bl us[k]) = rp at IP HRA
      cases rp with
      | false =>
        clear hx1
        go_wp2_with fail
        refine (IP.out _).mono ?_
        rintro e w2 ⟨rfl, rfl⟩
        go_wp2
        go_ret
        exact ⟨ret_b (HNO.out (by rw [HRA.out]; rfl)).symm, HT.out.low⟩
      | true =>
        by_cases hk0 : k = 0
        · have dk : decide (0 < k) = false := by (rw [decide_eq_false_iff_not]; omega)
          have HS := Lib.hid (HJS.out (by rw [HRA.out, decide_eq_true hk0]; rfl))
          clear hx1 hk0
          go_wp2_with fail
          refine (IP.out _).mono ?_
          rintro e w2 ⟨rfl, rfl⟩
          go_wp2
          exact ⟨⟨k + 1, by omega, by go_num, HT, HS⟩, by simp [intOf]; omega⟩
        · obtain ⟨m, hm⟩ : ∃ m, k = m + 1 := ⟨k - 1, by omega⟩
          have dk : decide (0 < k) = true := by (rw [decide_eq_true_iff]; omega)
          have hw1 : IntKind.i64.wrap ((k : Int) - 1) = (m : Int) := by rw [show (k : Int) - 1 = (m : Int) by omega]; exact Go.IntWalk.i64_in _ (by omega)
          have hml : m < us.length := by omega
          have hmi : (0 : Int) ≤ (m : Int) := by omega
          have q0 := (HT.out.low.cell (p := ⟨b1, o1 + m, none⟩) hb1).trans (hx1 m _ (strs_get hml))
          rw [decide_eq_false hk0, Bool.false_or, show k - 1 = m by omega, getD_at hml, Bool.true_and] at HRA
          clear hx1 hk0 hm
          go_wp2_with fail
          refine (IP.out _).mono ?_
          rintro e w2 ⟨rfl, rfl⟩
          generalize us[k] = sk at *
          generalize us[m] = sm at *
          cases hbl : Op.bytesLess sm.toList sk.toList with
          | false =>
            have hle : Op.bytesLess sm.toList sk.toList = false := hbl
            go_wp2
            go_ret
            exact ⟨ret_b (HNO.out (by rw [HRA.out]; exact hbl)).symm, HT.out.low⟩
          | true =>
            have hle : Op.bytesLess sm.toList sk.toList = true := hbl
            have HS := Lib.hid (HJS.out (by rw [HRA.out]; exact hbl))
            go_wp2
            exact ⟨⟨k + 1, by omega, by go_num, HT, HS⟩, by simp [intOf]; omega⟩
    · rw [rises_yes hlt HJ.out, Bool.true_and] at RES
      obtain ⟨k1, k6⟩ := HK.out
      by_cases h0 : us.length = 0
      · have e0 : ((us.length : Int) == 0) = true := by rw [beq_iff_eq]; omega
        have e1 : decide (0 < us.length) = false := decide_eq_false (by omega)
        have e1' : decide ((0 : Int) < (us.length : Int)) = false := decide_eq_false (by omega)
        have e2 : decide (us.length = 0) = true := decide_eq_true h0
        have e3 : decide (us.length ≤ 12) = true := decide_eq_true (by omega)
        have e3' : decide ((12 : Int) < (us.length : Int)) = false := decide_eq_false (by omega)
        rw [e1, e2, e3] at RES
        clear HJ
        by_cases k5 : 5 ≤ xk
        · have d5 : decide (5 ≤ xk) = true := decide_eq_true k5
          rw [if_pos k5] at RES
          clear k5 k1 k6
          go_wp2_with fail
          refine (IB.out _).mono ?_
          rintro e w2 ⟨rfl, hb2⟩
          have HT2 := Lib.hid (HT.out.later hb2)
          obtain ⟨ca, fa, za⟩ := HT2.out.a
          clear hb2
          cases rb with
          | false =>
            go_wp2
            go_ret
            exact ⟨ret_b (by rw [RES.out]; rfl), HT2.out.low⟩
          | true =>
            go_wp2
            go_ret
            exact ⟨ret_b (by rw [RES.out]; rfl), HT2.out.low⟩
        · have d5 : decide (5 ≤ xk) = false := decide_eq_false k5
          rw [if_neg k5] at RES
          have hNe : ∀ W, (binOp .neq 28 (.agg #[.string x3, .string x4]) (.agg #[.string emp, .string emp])).run Tryz.prog W = .ok (.bool (!eqRl ⟨x3, x4⟩ noR)) W := fun W => role_neq x3 x4 emp emp W
          generalize eqRl ⟨x3, x4⟩ noR = ern at hNe RES
          by_cases k4 : xk = 4
          · have d4 : (xk == 4) = true := beq_iff_eq.2 k4
            rw [if_pos k4] at RES
            clear k5 k1 k6 k4
            cases ern with
            | false =>
              go_wp2
              go_ret
              exact ⟨ret_b (by rw [RES.out]; rfl), HT.out.low⟩
            | true =>
              go_wp2
              go_ret
              exact ⟨ret_b (by rw [RES.out]; rfl), HT.out.low⟩
          · have d4 : (xk == 4) = false := beq_eq_false_iff_ne.2 k4
            rw [if_neg k4] at RES
            by_cases k3 : xk = 3
            · have d3 : (xk == 3) = true := beq_iff_eq.2 k3
              rw [decide_eq_true k3] at RES
              clear k5 k1 k6 k4 k3
              cases ern with
              | false =>
                go_wp2
                go_ret
                exact ⟨ret_b (by rw [RES.out]; rfl), HT.out.low⟩
              | true =>
                go_wp2
                go_ret
                exact ⟨ret_b (by rw [RES.out]; rfl), HT.out.low⟩
            · have d3 : (xk == 3) = false := beq_eq_false_iff_ne.2 k3
              rw [decide_eq_false k3] at RES
              clear k5 k1 k6 k4 k3
              cases ern with
              | false =>
                go_wp2
                go_ret
                exact ⟨ret_b (by rw [RES.out]; rfl), HT.out.low⟩
              | true =>
                go_wp2
                go_ret
                exact ⟨ret_b (by rw [RES.out]; rfl), HT.out.low⟩
      · have e0 : ((us.length : Int) == 0) = false := by rw [beq_eq_false_iff_ne]; omega
        have e1 : decide (0 < us.length) = true := decide_eq_true (by omega)
        have e1' : decide ((0 : Int) < (us.length : Int)) = true := decide_eq_true (by omega)
        have e2 : decide (us.length = 0) = false := decide_eq_false h0
        by_cases h12 : us.length ≤ 12
        · have e3 : decide (us.length ≤ 12) = true := decide_eq_true (by omega)
          have e3' : decide ((12 : Int) < (us.length : Int)) = false := decide_eq_false (by omega)
          rw [e1, e2, e3] at RES
          clear HJ
          by_cases k5 : 5 ≤ xk
          · have d5 : decide (5 ≤ xk) = true := decide_eq_true k5
            rw [if_pos k5] at RES
            clear k5 k1 k6
            go_wp2_with fail
            refine (IB.out _).mono ?_
            rintro e w2 ⟨rfl, hb2⟩
            have HT2 := Lib.hid (HT.out.later hb2)
            obtain ⟨ca, fa, za⟩ := HT2.out.a
            clear hb2
            cases rb with
            | false =>
              go_wp2
              go_ret
              exact ⟨ret_b (by rw [RES.out]; rfl), HT2.out.low⟩
            | true =>
              go_wp2
              go_ret
              exact ⟨ret_b (by rw [RES.out]; rfl), HT2.out.low⟩
          · have d5 : decide (5 ≤ xk) = false := decide_eq_false k5
            rw [if_neg k5] at RES
            have hNe : ∀ W, (binOp .neq 28 (.agg #[.string x3, .string x4]) (.agg #[.string emp, .string emp])).run Tryz.prog W = .ok (.bool (!eqRl ⟨x3, x4⟩ noR)) W := fun W => role_neq x3 x4 emp emp W
            generalize eqRl ⟨x3, x4⟩ noR = ern at hNe RES
            by_cases k4 : xk = 4
            · have d4 : (xk == 4) = true := beq_iff_eq.2 k4
              rw [if_pos k4] at RES
              clear k5 k1 k6 k4
              cases ern with
              | false =>
                go_wp2
                go_ret
                exact ⟨ret_b (by rw [RES.out]; rfl), HT.out.low⟩
              | true =>
                go_wp2
                go_ret
                exact ⟨ret_b (by rw [RES.out]; rfl), HT.out.low⟩
            · have d4 : (xk == 4) = false := beq_eq_false_iff_ne.2 k4
              rw [if_neg k4] at RES
              by_cases k3 : xk = 3
              · have d3 : (xk == 3) = true := beq_iff_eq.2 k3
                rw [decide_eq_true k3] at RES
                clear k5 k1 k6 k4 k3
                cases ern with
                | false =>
                  go_wp2
                  go_ret
                  exact ⟨ret_b (by rw [RES.out]; rfl), HT.out.low⟩
                | true =>
                  go_wp2
                  go_ret
                  exact ⟨ret_b (by rw [RES.out]; rfl), HT.out.low⟩
              · have d3 : (xk == 3) = false := beq_eq_false_iff_ne.2 k3
                rw [decide_eq_false k3] at RES
                clear k5 k1 k6 k4 k3
                cases ern with
                | false =>
                  go_wp2
                  go_ret
                  exact ⟨ret_b (by rw [RES.out]; rfl), HT.out.low⟩
                | true =>
                  go_wp2
                  go_ret
                  exact ⟨ret_b (by rw [RES.out]; rfl), HT.out.low⟩
        · have e3 : decide (us.length ≤ 12) = false := decide_eq_false (by omega)
          have e3' : decide ((12 : Int) < (us.length : Int)) = true := decide_eq_true (by omega)
          rw [e1, e2, e3] at RES
          clear HJ
          by_cases k5 : 5 ≤ xk
          · have d5 : decide (5 ≤ xk) = true := decide_eq_true k5
            rw [if_pos k5] at RES
            clear k5 k1 k6
            go_wp2_with fail
            refine (IB.out _).mono ?_
            rintro e w2 ⟨rfl, hb2⟩
            have HT2 := Lib.hid (HT.out.later hb2)
            obtain ⟨ca, fa, za⟩ := HT2.out.a
            clear hb2
            cases rb with
            | false =>
              go_wp2
              go_ret
              exact ⟨ret_b (by rw [RES.out]; rfl), HT2.out.low⟩
            | true =>
              go_wp2
              go_ret
              exact ⟨ret_b (by rw [RES.out]; rfl), HT2.out.low⟩
          · have d5 : decide (5 ≤ xk) = false := decide_eq_false k5
            rw [if_neg k5] at RES
            have hNe : ∀ W, (binOp .neq 28 (.agg #[.string x3, .string x4]) (.agg #[.string emp, .string emp])).run Tryz.prog W = .ok (.bool (!eqRl ⟨x3, x4⟩ noR)) W := fun W => role_neq x3 x4 emp emp W
            generalize eqRl ⟨x3, x4⟩ noR = ern at hNe RES
            by_cases k4 : xk = 4
            · have d4 : (xk == 4) = true := beq_iff_eq.2 k4
              rw [if_pos k4] at RES
              clear k5 k1 k6 k4
              cases ern with
              | false =>
                go_wp2
                go_ret
                exact ⟨ret_b (by rw [RES.out]; rfl), HT.out.low⟩
              | true =>
                go_wp2
                go_ret
                exact ⟨ret_b (by rw [RES.out]; rfl), HT.out.low⟩
            · have d4 : (xk == 4) = false := beq_eq_false_iff_ne.2 k4
              rw [if_neg k4] at RES
              by_cases k3 : xk = 3
              · have d3 : (xk == 3) = true := beq_iff_eq.2 k3
                rw [decide_eq_true k3] at RES
                clear k5 k1 k6 k4 k3
                cases ern with
                | false =>
                  go_wp2
                  go_ret
                  exact ⟨ret_b (by rw [RES.out]; rfl), HT.out.low⟩
                | true =>
                  go_wp2
                  go_ret
                  exact ⟨ret_b (by rw [RES.out]; rfl), HT.out.low⟩
              · have d3 : (xk == 3) = false := beq_eq_false_iff_ne.2 k3
                rw [decide_eq_false k3] at RES
                clear k5 k1 k6 k4 k3
                cases ern with
                | false =>
                  go_wp2
                  go_ret
                  exact ⟨ret_b (by rw [RES.out]; rfl), HT.out.low⟩
                | true =>
                  go_wp2
                  go_ret
                  exact ⟨ret_b (by rw [RES.out]; rfl), HT.out.low⟩
/-- Which policies may be. -/
def RightP (l : List St) (g h : List Rl) (qs : List Qv) (F : Qv → List ByteArray) : Prop := (∀ x ∈ l, rightS x = true) ∧ (∀ x ∈ g ++ h, isRole x = true) ∧ (∀ q ∈ qs, rightQ q (F q) = true) ∧ l = insAll [] l ∧ g = insAllR [] g ∧ h = insAllR [] h ∧ fitsP l g h qs F = true
def RightI (l : List St) (g h : List Rl) (qs : List Qv) (F : Qv → List ByteArray) (e : Ending) : Prop := ∃ b, e = .returned (.bool b) ∧ (b = true ↔ RightP l g h qs F)
theorem rightI_no {l : List St} {g h : List Rl} {qs : List Qv} {F : Qv → List ByteArray} (hn : ¬ RightP l g h qs F) : RightI l g h qs F (.returned (.bool false)) := ⟨false, rfl, ⟨(fun h => by cases h), fun h => absurd h hn⟩⟩
set_option maxRecDepth 100000 in
set_option maxHeartbeats 8000000 in
theorem ref5_RightL (v0 v1 v2 v3 : Value) (l : List St) (g h : List Rl) (qs : List Qv) (w : World) (hp : PolAt w v0 v1 v2 v3 l g h qs) (hl : l.length ≤ 30) (hg : g.length ≤ 30) (hh : h.length ≤ 30) (hq : qs.length ≤ 30) (hl4 : allLe l 40) (F : Qv → List ByteArray) (hF : WhoF w qs F) (hFs : ∀ q ∈ qs, ∀ s ∈ F q, s.size ≤ 9223372036854775807) :
    Calls Tryz.prog 16 #[pv v0 v1 v2 v3] w fun e w' => RightI l g h qs F e ∧ Below w.heap.size w w' := by
  have HP := Lib.hid hp
  have FI := Lib.hid (fun W (hb : Below w.heap.size w W) => ref5_FitsL v0 v1 v2 v3 l g h qs W (hp.below hb) (by omega) (by omega) (by omega) (by omega) F (hF.below hb))
  have S3 := Lib.hid (fun W (hb : Below w.heap.size w W) => ref3_Sort v0 l W (hp.rs.below hb) (by omega))
  have SG := Lib.hid (fun W (hb : Below w.heap.size w W) => sortR_row v1 g W (hp.rg.below hb) (by omega))
  have SH := Lib.hid (fun W (hb : Below w.heap.size w W) => sortR_row v2 h W (hp.rh.below hb) (by omega))
  have RI := Lib.hid (fun k (hk : k < l.length) W => ref3_Right l[k] W ((hl4 _ (List.getElem_mem hk)).mono (by decide)))
  have RQ := Lib.hid (fun k (hk : k < qs.length) W (hb : Below w.heap.size w W) => ref4_RightL qs[k] (F qs[k]) W (hp.lq _ (List.getElem_mem hk)).1 (hp.lq _ (List.getElem_mem hk)).2.1 ((hF _ (List.getElem_mem hk)).1.below hb) (hFs _ (List.getElem_mem hk)))
  obtain ⟨a0, c0, rfl⟩ := hp.rs.form
  obtain ⟨a1, c1, rfl⟩ := hp.rg.form
  obtain ⟨a2, c2, rfl⟩ := hp.rh.form
  obtain ⟨a3, c3, rfl⟩ := hp.rq.form
  have HT := Lib.hid (show OneAt w #[.slice a0 l.length c0, .slice a1 g.length c1, .slice a2 h.length c2, .slice a3 qs.length c3] (w.alloc (.cells #[.slice a0 l.length c0, .slice a1 g.length c1, .slice a2 h.length c2, .slice a3 qs.length c3] 26)) from ⟨Blk.new w _ _, (Below.refl _ _).alloc (Nat.le_refl _) _⟩)
  have HD := Lib.hid (show RightP l g h qs F ↔ (∀ x ∈ l, rightS x = true) ∧ (∀ x ∈ g ++ h, isRole x = true) ∧ (∀ q ∈ qs, rightQ q (F q) = true) ∧ l = insAll [] l ∧ g = insAllR [] g ∧ h = insAllR [] h ∧ fitsP l g h qs F = true from Iff.rfl)
  clear hp hF hFs hl4
  generalize fitsP l g h qs F = ff at FI HD
  go_enter Tryz.func16, Tryz.ntmps16
  go_wp2_with fail
  go_loopw [12] (fun i wr => ∃ k : Nat, k ≤ l.length ∧ i = .int .i64 k ∧ Hid (OneAt w #[.slice a0 l.length c0, .slice a1 g.length c1, .slice a2 h.length c2, .slice a3 qs.length c3] wr) ∧ Hid (∀ j (hj : j < l.length), j < k → rightS l[j] = true)) (fun i _ => l.length - (intOf i).toNat)
  case atStart => exact ⟨0, by omega, rfl, HT, Lib.hid (fun _ _ h => absurd h (by omega))⟩
  case round =>
    clear HT
    obtain ⟨k, hk, rfl, HT, HJ⟩ := hrel
    by_cases hlt : k < l.length
    · obtain ⟨b1, o1, e1, he1, hc1, hm1', hb1, hx1⟩ := HP.out.rs.pos (by omega)
      simp only [Value.slice.injEq, true_and] at he1
      obtain ⟨rfl, rfl⟩ := he1
      obtain ⟨p0, p1, p2, p3, p4, p5, p6, p7, p8⟩ := st_cell (w := wr) (fun j u hu => (HT.out.low.cell (p := ⟨b1, o1 + j, none⟩) hb1).trans (hx1 j u hu)) k hlt
      have hbr : b1 < wr.heap.size := Nat.lt_of_lt_of_le hb1 HT.out.low.size
      have RK := Lib.hid (fun W => RI.out k hlt W)
      have HJ2 : Hid (rightS l[k] = true → ∀ j (hj : j < l.length), j < k + 1 → rightS l[j] = true) := Lib.hid (fun hpk j hj hjk => by
        by_cases h : j < k
        · exact HJ.out j hj h
        · obtain rfl : j = k := by omega
          exact hpk)
      have hek : l[k] = ⟨l[k].k, ⟨l[k].h.o, l[k].h.n⟩, l[k].who, ⟨l[k].a.o, l[k].a.n⟩, ⟨l[k].b.o, l[k].b.n⟩, l[k].via⟩ := rfl
      have HN1 : Hid (rightS l[k] = false → ¬ RightP l g h qs F) := Lib.hid (fun hf hr => by rw [(HD.out.1 hr).1 _ (List.getElem_mem hlt)] at hf; cases hf)
      clear hx1
      generalize rightS l[k] = rr at RK HJ2 HN1
      generalize l[k] = x at *
      obtain ⟨xk, ⟨x1, x2⟩, xw, ⟨x3, x4⟩, ⟨x5, x6⟩, xv⟩ := x
      clear hek
      have HT1 := Lib.hid (HT.out.alloc (.cells #[.int .i64 xk, .string x1, .string x2, .string xw, .string x3, .string x4, .string x5, .string x6, .string xv] 35))
      go_wp2_with fail
      refine (RK.out _).mono ?_
      rintro e w2 ⟨rfl, hb2⟩
      have HT2 := Lib.hid (HT1.out.later hb2)
      clear hb2
      cases rr with
      | false =>
        go_wp2
        go_ret
        exact ⟨rightI_no (HN1.out (by first | rfl | trivial)), HT2.out.low⟩
      | true =>
        have HJ3 := Lib.hid (HJ2.out (by first | rfl | trivial))
        go_wp2
        exact ⟨⟨k + 1, by omega, by go_num, HT2, HJ3⟩, by simp [intOf]; omega⟩
    · have HALL := Lib.hid (show ∀ x ∈ l, rightS x = true from fun x hx => by
        obtain ⟨j, hj, rfl⟩ := List.getElem_of_mem hx
        exact HJ.out j hj (by omega))
      clear HJ
      obtain ⟨inf, hi, hz0, hz1, hz2⟩ := info_parts rl_info'
      have HINF := Lib.hid hi
      have T2 := HT.out.drew
      have hown : (wr.drew.alloc (.cells #[] 28)).ownsRow wr.heap.size 28 2 (.slice (some ⟨wr.heap.size, 0, none⟩) 0 0) 0 [] := World.ownsRow_made wr.drew #[] 0 (Nat.le_refl _) (Nat.zero_le _) (by simp)
      have hlow : Below wr.heap.size wr (wr.drew.alloc (.cells #[] 28)) := (below_drew (Below.refl _ _)).alloc (Nat.le_refl _) _
      have T4 := HT.out.later hlow
      obtain ⟨ca, fa, za⟩ := HT.out.a
      have hza : w.heap.size < wr.heap.size := za
      clear hi fa za
      go_wp2_with fail
      go_region_held3 (fun W => ∀ o, W.cell? ⟨w.heap.size, o, none⟩ = (#[.slice a0 l.length c0, .slice a1 g.length c1, .slice a2 h.length c2, .slice a3 qs.length c3] : Array Value)[o]?)
        (first | exact T2.a.1 | exact T4.a.1 | exact T5.a.1 | exact T6.a.1 | go_keep)
        (first
          | (refine step_row rfl _ _ 23 rfl wr.heap.size 28 inf _ 2 32 Tryz.underlying23 HINF.out hz0 hz1 hz2 (Nat.le_of_ble_eq_true rfl) rfl (Nat.le_of_ble_eq_true rfl) _ 0 [] rfl hown _ g.length _ rfl (HP.out.rg.below T4.low) (rls_one _) ?_ hlow.size ?_; omega; intro a5 c5 w5 hown5 hg5; have hb5 := below_own hlow hown hg5 hlow.size (Nat.le_refl _); have T5 := HT.out.later hb5; obtain ⟨n5, hn5⟩ : ∃ n5, n5 = 0 + g.length := ⟨_, rfl⟩; rw [← hn5] at hown5 ⊢; have hn5m : n5 ≤ 30 := (by omega); have HN5 := Lib.hid hn5; clear hn5)
          | (refine step_row rfl _ _ 23 rfl wr.heap.size 28 inf _ 2 32 Tryz.underlying23 HINF.out hz0 hz1 hz2 (Nat.le_of_ble_eq_true rfl) rfl (Nat.le_of_ble_eq_true rfl) _ n5 _ rfl hown5 _ h.length _ rfl (HP.out.rh.below T5.low) (rls_one _) ?_ hb5.size ?_; omega; intro a6 c6 w6 hown6 hg6; have hb6 := below_own hb5 hown5 hg6 hb5.size (Nat.le_refl _); have T6 := HT.out.later hb6; obtain ⟨n6, hn6⟩ : ∃ n6, n6 = n5 + h.length := ⟨_, rfl⟩; rw [← hn6] at hown6 ⊢; have HN6 := Lib.hid hn6; clear hn6))
      have HS6 := Lib.hid (show Sl w6 2 (.slice a6 n6 c6) n6 ((g ++ h).flatMap Rl.cells) by have := Sl.of_own hown6; rw [rl_flat]; simpa using this)
      have HLe := Lib.hid (show ∀ x ∈ g ++ h, x.le 9223372036854775807 from fun x hx => by
        rcases List.mem_append.1 hx with hx | hx
        · exact HP.out.lg x hx
        · exact HP.out.lh x hx)
      have HN := Lib.hid (show n6 = (g ++ h).length by rw [HN6.out, HN5.out, List.length_append]; omega)
      have HT6 := Lib.hid T6
      have hn6m : n6 ≤ 1000 := by have := HN6.out; omega
      clear hn5m
      have HD := Lib.hid (show RightP l g h qs F ↔ (∀ x ∈ g ++ h, isRole x = true) ∧ (∀ q ∈ qs, rightQ q (F q) = true) ∧ l = insAll [] l ∧ g = insAllR [] g ∧ h = insAllR [] h ∧ ff = true from HD.out.trans ⟨fun h => h.2, fun h => ⟨HALL.out, h⟩⟩)
      generalize g ++ h = gh at HS6 HLe HN HD
      clear hown5 hown6 hg5 hg6 hb5 hb6 T2 T4 T5 T6 hlow hown ca hza HT HN6 HN5 hlt hk
      go_wp2_with fail
      go_loopw [28] (fun i wr => ∃ k : Nat, k ≤ n6 ∧ i = .int .i64 k ∧ Hid (OneAt w #[.slice a0 l.length c0, .slice a1 g.length c1, .slice a2 h.length c2, .slice a3 qs.length c3] wr) ∧ Hid (Below w6.heap.size w6 wr) ∧ Hid (∀ j (hj : j < gh.length), j < k → isRole gh[j] = true)) (fun i _ => n6 - (intOf i).toNat)
      case atStart => exact ⟨0, by omega, rfl, HT6, Lib.hid (Below.refl _ _), Lib.hid (fun _ _ h => absurd h (by omega))⟩
      case round =>
        clear HT6
        obtain ⟨k, hk, rfl, HT, HB, HJ⟩ := hrel
        by_cases hlt : k < n6
        · obtain ⟨b1, o1, e1, he1, hc1, hm1', hb1, hx1⟩ := HS6.out.pos (by omega)
          simp only [Value.slice.injEq, true_and] at he1
          obtain ⟨rfl, rfl⟩ := he1
          have hlt2 : k < gh.length := by have := HN.out; omega
          obtain ⟨p0, p1⟩ := rl_cell (w := wr) (fun j u hu => (HB.out.cell (p := ⟨b1, o1 + j, none⟩) hb1).trans (hx1 j u hu)) k hlt2
          have hbr : b1 < wr.heap.size := Nat.lt_of_lt_of_le hb1 HB.out.size
          have IR := Lib.hid (fun W => ref3_IsRoleM gh[k] W (HLe.out _ (List.getElem_mem hlt2)))
          clear hx1
          have HJ2 : Hid (isRole gh[k] = true → ∀ j (hj : j < gh.length), j < k + 1 → isRole gh[j] = true) := Lib.hid (fun hpk j hj hjk => by
            by_cases h : j < k
            · exact HJ.out j hj h
            · obtain rfl : j = k := by omega
              exact hpk)
          have HN1 : Hid (isRole gh[k] = false → ¬ RightP l g h qs F) := Lib.hid (fun hf hr => by rw [(HD.out.1 hr).1 _ (List.getElem_mem hlt2)] at hf; cases hf)
          generalize isRole gh[k] = ri at IR HJ2 HN1
          generalize gh[k] = x at *
          obtain ⟨x1, x2⟩ := x
          have HT2 := Lib.hid (HT.out.alloc (.cells #[.string x1, .string x2] 28))
          have HB2 := Lib.hid (HB.out.alloc HB.out.size (.cells #[.string x1, .string x2] 28))
          go_wp2_with fail
          refine (IR.out _).mono ?_
          rintro e w7 ⟨rfl, hb7⟩
          have HT3 := Lib.hid (HT2.out.later hb7)
          have HB3 := Lib.hid (HB2.out.trans (hb7.mono HB2.out.size))
          clear hb7
          cases ri with
          | false =>
            go_wp2
            go_ret
            exact ⟨rightI_no (HN1.out (by first | rfl | trivial)), HT3.out.low⟩
          | true =>
            have HJ3 := Lib.hid (HJ2.out (by first | rfl | trivial))
            go_wp2
            exact ⟨⟨k + 1, by omega, by go_num, HT3, HB3, HJ3⟩, by simp [intOf]; omega⟩
        · obtain ⟨ca, fa, za⟩ := HT.out.a
          have HALL2 := Lib.hid (show ∀ x ∈ gh, isRole x = true from fun x hx => by
            obtain ⟨j, hj, rfl⟩ := List.getElem_of_mem hx
            exact HJ.out j hj (by have := HN.out; omega))
          have HD := Lib.hid (show RightP l g h qs F ↔ (∀ q ∈ qs, rightQ q (F q) = true) ∧ l = insAll [] l ∧ g = insAllR [] g ∧ h = insAllR [] h ∧ ff = true from HD.out.trans ⟨fun h => h.2, fun h => ⟨HALL2.out, h⟩⟩)
          clear HS6 HLe HN HB HJ HALL2
          go_wp2_with fail
          clear ca fa za
          go_loopw [39] (fun i wr => ∃ k : Nat, k ≤ qs.length ∧ i = .int .i64 k ∧ Hid (OneAt w #[.slice a0 l.length c0, .slice a1 g.length c1, .slice a2 h.length c2, .slice a3 qs.length c3] wr) ∧ Hid (∀ j (hj : j < qs.length), j < k → rightQ qs[j] (F qs[j]) = true)) (fun i _ => qs.length - (intOf i).toNat)
          case atStart => exact ⟨0, by omega, rfl, HT, Lib.hid (fun _ _ h => absurd h (by omega))⟩
          case round =>
            clear HT
            obtain ⟨k, hk, rfl, HT, HJ⟩ := hrel
            by_cases hlt : k < qs.length
            · obtain ⟨b1, o1, e1, he1, hc1, hm1', hb1, hx1⟩ := HP.out.rq.pos (by omega)
              simp only [Value.slice.injEq, true_and] at he1
              obtain ⟨rfl, rfl⟩ := he1
              obtain ⟨p0, p1, p2, p3, p4, p5⟩ := q_cell (w := wr) (fun j u hu => (HT.out.low.cell (p := ⟨b1, o1 + j, none⟩) hb1).trans (hx1 j u hu)) k hlt
              have hbr : b1 < wr.heap.size := Nat.lt_of_lt_of_le hb1 HT.out.low.size
              have hqo := HP.out.lq _ (List.getElem_mem hlt)
              have QR := Lib.hid (fun W hb => RQ.out k hlt W hb)
              have HJ2 : Hid (rightQ qs[k] (F qs[k]) = true → ∀ j (hj : j < qs.length), j < k + 1 → rightQ qs[j] (F qs[j]) = true) := Lib.hid (fun hpk j hj hjk => by
                by_cases h : j < k
                · exact HJ.out j hj h
                · obtain rfl : j = k := by omega
                  exact hpk)
              have HN1 : Hid (rightQ qs[k] (F qs[k]) = false → ¬ RightP l g h qs F) := Lib.hid (fun hf hr => by rw [(HD.out.1 hr).1 _ (List.getElem_mem hlt)] at hf; cases hf)
              generalize rightQ qs[k] (F qs[k]) = rq at QR HJ2 HN1
              obtain ⟨wo, wc, hw5⟩ : ∃ a c, qs[k].w = .slice a ((hqo.2.2).choose).length c := ((hqo.2.2).choose_spec.1).form
              generalize (hqo.2.2).choose.length = nw at hw5
              clear hx1 hqo
              generalize qs[k] = x at *
              obtain ⟨xk, ⟨x1, x2⟩, ⟨x3, x4⟩, xw⟩ := x
              dsimp only at hw5
              subst hw5
              have HT1 := Lib.hid (HT.out.alloc (.cells #[.int .i64 xk, .string x1, .string x2, .string x3, .string x4, .slice wo nw wc] 45))
              go_wp2_with fail
              refine (QR.out _ HT1.out.low).mono ?_
              rintro e w7 ⟨rfl, hb7⟩
              have HT3 := Lib.hid (HT1.out.later hb7)
              clear hb7
              cases rq with
              | false =>
                go_wp2
                go_ret
                exact ⟨rightI_no (HN1.out (by first | rfl | trivial)), HT3.out.low⟩
              | true =>
                have HJ3 := Lib.hid (HJ2.out (by first | rfl | trivial))
                go_wp2
                exact ⟨⟨k + 1, by omega, by go_num, HT3, HJ3⟩, by simp [intOf]; omega⟩
            · have M1 := Lib.hid (fun v W (hb : Below w.heap.size w W) (hv : Sl W 9 v (insAll [] l).length ((insAll [] l).flatMap St.cells)) => ref3_SameB (.slice a0 l.length c0) v l (insAll [] l) W (HP.out.rs.below hb) hv.a)
              have M2 := Lib.hid (fun v W (hb : Below w.heap.size w W) (hv : Sl W 2 v (insAllR [] g).length ((insAllR [] g).flatMap Rl.cells)) => ref3_SameRolesE (.slice a1 g.length c1) v g (insAllR [] g) W (HP.out.rg.below hb) hv.a)
              have M3 := Lib.hid (fun v W (hb : Below w.heap.size w W) (hv : Sl W 2 v (insAllR [] h).length ((insAllR [] h).flatMap Rl.cells)) => ref3_SameRolesE (.slice a2 h.length c2) v h (insAllR [] h) W (HP.out.rh.below hb) hv.a)
              have HALL3 := Lib.hid (show ∀ q ∈ qs, rightQ q (F q) = true from fun x hx => by
                obtain ⟨j, hj, rfl⟩ := List.getElem_of_mem hx
                exact HJ.out j hj (by omega))
              have HD := Lib.hid (show RightP l g h qs F ↔ decide (l = insAll [] l) = true ∧ decide (g = insAllR [] g) = true ∧ decide (h = insAllR [] h) = true ∧ ff = true from HD.out.trans ⟨fun h => by simpa only [decide_eq_true_iff] using h.2, fun h => ⟨HALL3.out, by simpa only [decide_eq_true_iff] using h⟩⟩)
              clear HJ HALL3
              generalize decide (l = insAll [] l) = r1 at M1 HD
              generalize decide (g = insAllR [] g) = r2 at M2 HD
              generalize decide (h = insAllR [] h) = r3 at M3 HD
              have HT := HT.out
              go_wp2_with fail
              refine wp_region_held_drew (S := (fun W => ∀ o, W.cell? ⟨w.heap.size, o, none⟩ = (#[.slice a0 l.length c0, .slice a1 g.length c1, .slice a2 h.length c2, .slice a3 qs.length c3] : Array Value)[o]?)) (by kernel_rfl) HT.drew.a.1 (fun hHeld => ?_)
              have HT := HT.drew
              (refine held_yes (v := ?_) 0 rfl (by kernel_rfl) (by kernel_rfl) (by kernel_rfl) (fun _ _ _ h => h) (by rfl) (by assumption) ?_ ?_; rotate_left; (focus ((intro w hSw); (try dsimp only at hSw); go_simp; (try with_reducible rfl))); (try simp only [Act.put, List.setIfInBounds_toArray, List.set_cons_zero, List.set_cons_succ])); (refine held_yes (v := ?_) 1 rfl (by kernel_rfl) (by kernel_rfl) (by kernel_rfl) (fun _ _ _ h => h) (by rfl) (by assumption) ?_ ?_; rotate_left; (focus ((intro w hSw); (try dsimp only at hSw); go_simp; (try with_reducible rfl))); (try simp only [Act.put, List.setIfInBounds_toArray, List.set_cons_zero, List.set_cons_succ])); (refine held_yes (v := ?_) 2 rfl (by kernel_rfl) (by kernel_rfl) (by kernel_rfl) (fun _ _ _ h => h) (by rfl) (by assumption) ?_ ?_; rotate_left; (focus ((intro w hSw); (try dsimp only at hSw); go_simp; (try with_reducible rfl))); (try simp only [Act.put, List.setIfInBounds_toArray, List.set_cons_zero, List.set_cons_succ])); (refine held_yes (v := ?_) 3 rfl (by kernel_rfl) (by kernel_rfl) (by kernel_rfl) (fun _ _ _ h => h) (by rfl) (by assumption) ?_ ?_; rotate_left; (focus ((intro w hSw); (try dsimp only at hSw); go_simp; (try with_reducible rfl))); (try simp only [Act.put, List.setIfInBounds_toArray, List.set_cons_zero, List.set_cons_succ]))
              (refine held_call 4 rfl (by kernel_rfl) (fun K hK => ?_); go_simp)
              go_at_call 74; refine (S3.out _ HT.low).mono ?_; rintro e wq ⟨y1, rfl, hy1, hbq⟩; have HT := HT.later hbq; have cq := HT.a.1; have HY1 := Lib.hid hy1
              (refine hK.out _ _ (HT.a.1) (fun hHeld => ?_); clear hK K; (try simp only [Act.put, List.setIfInBounds_toArray, List.set_cons_zero, List.set_cons_succ]))
              (refine held_call 5 rfl (by kernel_rfl) (fun K hK => ?_); go_simp)
              go_at_call 35; refine (M1.out _ _ HT.low HY1.out).mono ?_; rintro e wq ⟨rfl, hbq⟩; have HT := HT.later hbq; have cq := HT.a.1
              (refine hK.out _ _ (HT.a.1) (fun hHeld => ?_); clear hK K; (try simp only [Act.put, List.setIfInBounds_toArray, List.set_cons_zero, List.set_cons_succ]))
              (refine held_yes (v := ?_) 6 rfl (by kernel_rfl) (by kernel_rfl) (by kernel_rfl) (fun _ _ _ h => h) (by rfl) (by assumption) ?_ ?_; rotate_left; (focus ((intro w hSw); (try dsimp only at hSw); go_simp; (try with_reducible rfl))); (try simp only [Act.put, List.setIfInBounds_toArray, List.set_cons_zero, List.set_cons_succ]))
              cases r1 with
              | false =>
                (refine held_no 7 rfl (by kernel_rfl) (by kernel_rfl) (by kernel_rfl) (fun _ _ _ h => h) (by rfl) (by assumption) ?_; (try simp only [Act.put, List.setIfInBounds_toArray, List.set_cons_zero, List.set_cons_succ])); (refine held_no 8 rfl (by kernel_rfl) (by kernel_rfl) (by kernel_rfl) (fun _ _ _ h => h) (by rfl) (by assumption) ?_; (try simp only [Act.put, List.setIfInBounds_toArray, List.set_cons_zero, List.set_cons_succ])); (refine held_no 9 rfl (by kernel_rfl) (by kernel_rfl) (by kernel_rfl) (fun _ _ _ h => h) (by rfl) (by assumption) ?_; (try simp only [Act.put, List.setIfInBounds_toArray, List.set_cons_zero, List.set_cons_succ])); (refine held_no 10 rfl (by kernel_rfl) (by kernel_rfl) (by kernel_rfl) (fun _ _ _ h => h) (by rfl) (by assumption) ?_; (try simp only [Act.put, List.setIfInBounds_toArray, List.set_cons_zero, List.set_cons_succ])); (refine held_no 11 rfl (by kernel_rfl) (by kernel_rfl) (by kernel_rfl) (fun _ _ _ h => h) (by rfl) (by assumption) ?_; (try simp only [Act.put, List.setIfInBounds_toArray, List.set_cons_zero, List.set_cons_succ])); (refine held_no 12 rfl (by kernel_rfl) (by kernel_rfl) (by kernel_rfl) (fun _ _ _ h => h) (by rfl) (by assumption) ?_; (try simp only [Act.put, List.setIfInBounds_toArray, List.set_cons_zero, List.set_cons_succ]))
                (refine held_yes (v := ?_) 13 rfl (by kernel_rfl) (by kernel_rfl) (by kernel_rfl) (fun _ _ _ h => h) (by rfl) (by assumption) ?_ ?_; rotate_left; (focus ((intro w hSw); (try dsimp only at hSw); go_simp; (try with_reducible rfl))); (try simp only [Act.put, List.setIfInBounds_toArray, List.set_cons_zero, List.set_cons_succ])); (refine held_yes (v := ?_) 14 rfl (by kernel_rfl) (by kernel_rfl) (by kernel_rfl) (fun _ _ _ h => h) (by rfl) (by assumption) ?_ ?_; rotate_left; (focus ((intro w hSw); (try dsimp only at hSw); go_simp; (try with_reducible rfl))); (try simp only [Act.put, List.setIfInBounds_toArray, List.set_cons_zero, List.set_cons_succ]))
                (refine held_no 15 rfl (by kernel_rfl) (by kernel_rfl) (by kernel_rfl) (fun _ _ _ h => h) (by rfl) (by assumption) ?_; (try simp only [Act.put, List.setIfInBounds_toArray, List.set_cons_zero, List.set_cons_succ])); (refine held_no 16 rfl (by kernel_rfl) (by kernel_rfl) (by kernel_rfl) (fun _ _ _ h => h) (by rfl) (by assumption) ?_; (try simp only [Act.put, List.setIfInBounds_toArray, List.set_cons_zero, List.set_cons_succ])); (refine held_no 17 rfl (by kernel_rfl) (by kernel_rfl) (by kernel_rfl) (fun _ _ _ h => h) (by rfl) (by assumption) ?_; (try simp only [Act.put, List.setIfInBounds_toArray, List.set_cons_zero, List.set_cons_succ])); (refine held_no 18 rfl (by kernel_rfl) (by kernel_rfl) (by kernel_rfl) (fun _ _ _ h => h) (by rfl) (by assumption) ?_; (try simp only [Act.put, List.setIfInBounds_toArray, List.set_cons_zero, List.set_cons_succ])); (refine held_no 19 rfl (by kernel_rfl) (by kernel_rfl) (by kernel_rfl) (fun _ _ _ h => h) (by rfl) (by assumption) ?_; (try simp only [Act.put, List.setIfInBounds_toArray, List.set_cons_zero, List.set_cons_succ])); (refine held_no 20 rfl (by kernel_rfl) (by kernel_rfl) (by kernel_rfl) (fun _ _ _ h => h) (by rfl) (by assumption) ?_; (try simp only [Act.put, List.setIfInBounds_toArray, List.set_cons_zero, List.set_cons_succ]))
                (refine held_yes (v := ?_) 21 rfl (by kernel_rfl) (by kernel_rfl) (by kernel_rfl) (fun _ _ _ h => h) (by rfl) (by assumption) ?_ ?_; rotate_left; (focus ((intro w hSw); (try dsimp only at hSw); go_simp; (try with_reducible rfl))); (try simp only [Act.put, List.setIfInBounds_toArray, List.set_cons_zero, List.set_cons_succ])); (refine held_yes (v := ?_) 22 rfl (by kernel_rfl) (by kernel_rfl) (by kernel_rfl) (fun _ _ _ h => h) (by rfl) (by assumption) ?_ ?_; rotate_left; (focus ((intro w hSw); (try dsimp only at hSw); go_simp; (try with_reducible rfl))); (try simp only [Act.put, List.setIfInBounds_toArray, List.set_cons_zero, List.set_cons_succ]))
                (refine held_no 23 rfl (by kernel_rfl) (by kernel_rfl) (by kernel_rfl) (fun _ _ _ h => h) (by rfl) (by assumption) ?_; (try simp only [Act.put, List.setIfInBounds_toArray, List.set_cons_zero, List.set_cons_succ])); (refine held_no 24 rfl (by kernel_rfl) (by kernel_rfl) (by kernel_rfl) (fun _ _ _ h => h) (by rfl) (by assumption) ?_; (try simp only [Act.put, List.setIfInBounds_toArray, List.set_cons_zero, List.set_cons_succ]))
                (refine held_yes (v := ?_) 25 rfl (by kernel_rfl) (by kernel_rfl) (by kernel_rfl) (fun _ _ _ h => h) (by rfl) (by assumption) ?_ ?_; rotate_left; (focus ((intro w hSw); (try dsimp only at hSw); go_simp; (try with_reducible rfl))); (try simp only [Act.put, List.setIfInBounds_toArray, List.set_cons_zero, List.set_cons_succ])); (refine held_yes (v := ?_) 26 rfl (by kernel_rfl) (by kernel_rfl) (by kernel_rfl) (fun _ _ _ h => h) (by rfl) (by assumption) ?_ ?_; rotate_left; (focus ((intro w hSw); (try dsimp only at hSw); go_simp; (try with_reducible rfl))); (try simp only [Act.put, List.setIfInBounds_toArray, List.set_cons_zero, List.set_cons_succ]))
                refine wpAnyH_done (by kernel_rfl) ?_ _
                go_wp2
                go_ret
                exact ⟨rightI_no (fun hr => by have := HD.out.1 hr; simp at this), HT.low⟩
              | true =>
                (refine held_yes (v := ?_) 7 rfl (by kernel_rfl) (by kernel_rfl) (by kernel_rfl) (fun _ _ _ h => h) (by rfl) (by assumption) ?_ ?_; rotate_left; (focus ((intro w hSw); (try dsimp only at hSw); go_simp; (try with_reducible rfl))); (try simp only [Act.put, List.setIfInBounds_toArray, List.set_cons_zero, List.set_cons_succ])); (refine held_yes (v := ?_) 8 rfl (by kernel_rfl) (by kernel_rfl) (by kernel_rfl) (fun _ _ _ h => h) (by rfl) (by assumption) ?_ ?_; rotate_left; (focus ((intro w hSw); (try dsimp only at hSw); go_simp; (try with_reducible rfl))); (try simp only [Act.put, List.setIfInBounds_toArray, List.set_cons_zero, List.set_cons_succ])); (refine held_yes (v := ?_) 9 rfl (by kernel_rfl) (by kernel_rfl) (by kernel_rfl) (fun _ _ _ h => h) (by rfl) (by assumption) ?_ ?_; rotate_left; (focus ((intro w hSw); (try dsimp only at hSw); go_simp; (try with_reducible rfl))); (try simp only [Act.put, List.setIfInBounds_toArray, List.set_cons_zero, List.set_cons_succ])); (refine held_yes (v := ?_) 10 rfl (by kernel_rfl) (by kernel_rfl) (by kernel_rfl) (fun _ _ _ h => h) (by rfl) (by assumption) ?_ ?_; rotate_left; (focus ((intro w hSw); (try dsimp only at hSw); go_simp; (try with_reducible rfl))); (try simp only [Act.put, List.setIfInBounds_toArray, List.set_cons_zero, List.set_cons_succ]))
                (refine held_call 11 rfl (by kernel_rfl) (fun K hK => ?_); go_simp)
                go_at_call 76; refine (SG.out _ HT.low).mono ?_; rintro e wq ⟨y2, rfl, hy2, hbq⟩; have HT := HT.later hbq; have cq := HT.a.1; have HY2 := Lib.hid hy2
                (refine hK.out _ _ (HT.a.1) (fun hHeld => ?_); clear hK K; (try simp only [Act.put, List.setIfInBounds_toArray, List.set_cons_zero, List.set_cons_succ]))
                (refine held_call 12 rfl (by kernel_rfl) (fun K hK => ?_); go_simp)
                go_at_call 75; refine (M2.out _ _ HT.low HY2.out).mono ?_; rintro e wq ⟨rfl, hbq⟩; have HT := HT.later hbq; have cq := HT.a.1
                (refine hK.out _ _ (HT.a.1) (fun hHeld => ?_); clear hK K; (try simp only [Act.put, List.setIfInBounds_toArray, List.set_cons_zero, List.set_cons_succ]))
                (refine held_yes (v := ?_) 13 rfl (by kernel_rfl) (by kernel_rfl) (by kernel_rfl) (fun _ _ _ h => h) (by rfl) (by assumption) ?_ ?_; rotate_left; (focus ((intro w hSw); (try dsimp only at hSw); go_simp; (try with_reducible rfl))); (try simp only [Act.put, List.setIfInBounds_toArray, List.set_cons_zero, List.set_cons_succ])); (refine held_yes (v := ?_) 14 rfl (by kernel_rfl) (by kernel_rfl) (by kernel_rfl) (fun _ _ _ h => h) (by rfl) (by assumption) ?_ ?_; rotate_left; (focus ((intro w hSw); (try dsimp only at hSw); go_simp; (try with_reducible rfl))); (try simp only [Act.put, List.setIfInBounds_toArray, List.set_cons_zero, List.set_cons_succ]))
                cases r2 with
                | false =>
                  (refine held_no 15 rfl (by kernel_rfl) (by kernel_rfl) (by kernel_rfl) (fun _ _ _ h => h) (by rfl) (by assumption) ?_; (try simp only [Act.put, List.setIfInBounds_toArray, List.set_cons_zero, List.set_cons_succ])); (refine held_no 16 rfl (by kernel_rfl) (by kernel_rfl) (by kernel_rfl) (fun _ _ _ h => h) (by rfl) (by assumption) ?_; (try simp only [Act.put, List.setIfInBounds_toArray, List.set_cons_zero, List.set_cons_succ])); (refine held_no 17 rfl (by kernel_rfl) (by kernel_rfl) (by kernel_rfl) (fun _ _ _ h => h) (by rfl) (by assumption) ?_; (try simp only [Act.put, List.setIfInBounds_toArray, List.set_cons_zero, List.set_cons_succ])); (refine held_no 18 rfl (by kernel_rfl) (by kernel_rfl) (by kernel_rfl) (fun _ _ _ h => h) (by rfl) (by assumption) ?_; (try simp only [Act.put, List.setIfInBounds_toArray, List.set_cons_zero, List.set_cons_succ])); (refine held_no 19 rfl (by kernel_rfl) (by kernel_rfl) (by kernel_rfl) (fun _ _ _ h => h) (by rfl) (by assumption) ?_; (try simp only [Act.put, List.setIfInBounds_toArray, List.set_cons_zero, List.set_cons_succ])); (refine held_no 20 rfl (by kernel_rfl) (by kernel_rfl) (by kernel_rfl) (fun _ _ _ h => h) (by rfl) (by assumption) ?_; (try simp only [Act.put, List.setIfInBounds_toArray, List.set_cons_zero, List.set_cons_succ]))
                  (refine held_yes (v := ?_) 21 rfl (by kernel_rfl) (by kernel_rfl) (by kernel_rfl) (fun _ _ _ h => h) (by rfl) (by assumption) ?_ ?_; rotate_left; (focus ((intro w hSw); (try dsimp only at hSw); go_simp; (try with_reducible rfl))); (try simp only [Act.put, List.setIfInBounds_toArray, List.set_cons_zero, List.set_cons_succ])); (refine held_yes (v := ?_) 22 rfl (by kernel_rfl) (by kernel_rfl) (by kernel_rfl) (fun _ _ _ h => h) (by rfl) (by assumption) ?_ ?_; rotate_left; (focus ((intro w hSw); (try dsimp only at hSw); go_simp; (try with_reducible rfl))); (try simp only [Act.put, List.setIfInBounds_toArray, List.set_cons_zero, List.set_cons_succ]))
                  (refine held_no 23 rfl (by kernel_rfl) (by kernel_rfl) (by kernel_rfl) (fun _ _ _ h => h) (by rfl) (by assumption) ?_; (try simp only [Act.put, List.setIfInBounds_toArray, List.set_cons_zero, List.set_cons_succ])); (refine held_no 24 rfl (by kernel_rfl) (by kernel_rfl) (by kernel_rfl) (fun _ _ _ h => h) (by rfl) (by assumption) ?_; (try simp only [Act.put, List.setIfInBounds_toArray, List.set_cons_zero, List.set_cons_succ]))
                  (refine held_yes (v := ?_) 25 rfl (by kernel_rfl) (by kernel_rfl) (by kernel_rfl) (fun _ _ _ h => h) (by rfl) (by assumption) ?_ ?_; rotate_left; (focus ((intro w hSw); (try dsimp only at hSw); go_simp; (try with_reducible rfl))); (try simp only [Act.put, List.setIfInBounds_toArray, List.set_cons_zero, List.set_cons_succ])); (refine held_yes (v := ?_) 26 rfl (by kernel_rfl) (by kernel_rfl) (by kernel_rfl) (fun _ _ _ h => h) (by rfl) (by assumption) ?_ ?_; rotate_left; (focus ((intro w hSw); (try dsimp only at hSw); go_simp; (try with_reducible rfl))); (try simp only [Act.put, List.setIfInBounds_toArray, List.set_cons_zero, List.set_cons_succ]))
                  refine wpAnyH_done (by kernel_rfl) ?_ _
                  go_wp2
                  go_ret
                  exact ⟨rightI_no (fun hr => by have := HD.out.1 hr; simp at this), HT.low⟩
                | true =>
                  (refine held_yes (v := ?_) 15 rfl (by kernel_rfl) (by kernel_rfl) (by kernel_rfl) (fun _ _ _ h => h) (by rfl) (by assumption) ?_ ?_; rotate_left; (focus ((intro w hSw); (try dsimp only at hSw); go_simp; (try with_reducible rfl))); (try simp only [Act.put, List.setIfInBounds_toArray, List.set_cons_zero, List.set_cons_succ])); (refine held_yes (v := ?_) 16 rfl (by kernel_rfl) (by kernel_rfl) (by kernel_rfl) (fun _ _ _ h => h) (by rfl) (by assumption) ?_ ?_; rotate_left; (focus ((intro w hSw); (try dsimp only at hSw); go_simp; (try with_reducible rfl))); (try simp only [Act.put, List.setIfInBounds_toArray, List.set_cons_zero, List.set_cons_succ])); (refine held_yes (v := ?_) 17 rfl (by kernel_rfl) (by kernel_rfl) (by kernel_rfl) (fun _ _ _ h => h) (by rfl) (by assumption) ?_ ?_; rotate_left; (focus ((intro w hSw); (try dsimp only at hSw); go_simp; (try with_reducible rfl))); (try simp only [Act.put, List.setIfInBounds_toArray, List.set_cons_zero, List.set_cons_succ])); (refine held_yes (v := ?_) 18 rfl (by kernel_rfl) (by kernel_rfl) (by kernel_rfl) (fun _ _ _ h => h) (by rfl) (by assumption) ?_ ?_; rotate_left; (focus ((intro w hSw); (try dsimp only at hSw); go_simp; (try with_reducible rfl))); (try simp only [Act.put, List.setIfInBounds_toArray, List.set_cons_zero, List.set_cons_succ]))
                  (refine held_call 19 rfl (by kernel_rfl) (fun K hK => ?_); go_simp)
                  go_at_call 76; refine (SH.out _ HT.low).mono ?_; rintro e wq ⟨y3, rfl, hy3, hbq⟩; have HT := HT.later hbq; have cq := HT.a.1; have HY3 := Lib.hid hy3
                  (refine hK.out _ _ (HT.a.1) (fun hHeld => ?_); clear hK K; (try simp only [Act.put, List.setIfInBounds_toArray, List.set_cons_zero, List.set_cons_succ]))
                  (refine held_call 20 rfl (by kernel_rfl) (fun K hK => ?_); go_simp)
                  go_at_call 75; refine (M3.out _ _ HT.low HY3.out).mono ?_; rintro e wq ⟨rfl, hbq⟩; have HT := HT.later hbq; have cq := HT.a.1
                  (refine hK.out _ _ (HT.a.1) (fun hHeld => ?_); clear hK K; (try simp only [Act.put, List.setIfInBounds_toArray, List.set_cons_zero, List.set_cons_succ]))
                  (refine held_yes (v := ?_) 21 rfl (by kernel_rfl) (by kernel_rfl) (by kernel_rfl) (fun _ _ _ h => h) (by rfl) (by assumption) ?_ ?_; rotate_left; (focus ((intro w hSw); (try dsimp only at hSw); go_simp; (try with_reducible rfl))); (try simp only [Act.put, List.setIfInBounds_toArray, List.set_cons_zero, List.set_cons_succ])); (refine held_yes (v := ?_) 22 rfl (by kernel_rfl) (by kernel_rfl) (by kernel_rfl) (fun _ _ _ h => h) (by rfl) (by assumption) ?_ ?_; rotate_left; (focus ((intro w hSw); (try dsimp only at hSw); go_simp; (try with_reducible rfl))); (try simp only [Act.put, List.setIfInBounds_toArray, List.set_cons_zero, List.set_cons_succ]))
                  cases r3 with
                  | false =>
                    (refine held_no 23 rfl (by kernel_rfl) (by kernel_rfl) (by kernel_rfl) (fun _ _ _ h => h) (by rfl) (by assumption) ?_; (try simp only [Act.put, List.setIfInBounds_toArray, List.set_cons_zero, List.set_cons_succ])); (refine held_no 24 rfl (by kernel_rfl) (by kernel_rfl) (by kernel_rfl) (fun _ _ _ h => h) (by rfl) (by assumption) ?_; (try simp only [Act.put, List.setIfInBounds_toArray, List.set_cons_zero, List.set_cons_succ]))
                    (refine held_yes (v := ?_) 25 rfl (by kernel_rfl) (by kernel_rfl) (by kernel_rfl) (fun _ _ _ h => h) (by rfl) (by assumption) ?_ ?_; rotate_left; (focus ((intro w hSw); (try dsimp only at hSw); go_simp; (try with_reducible rfl))); (try simp only [Act.put, List.setIfInBounds_toArray, List.set_cons_zero, List.set_cons_succ])); (refine held_yes (v := ?_) 26 rfl (by kernel_rfl) (by kernel_rfl) (by kernel_rfl) (fun _ _ _ h => h) (by rfl) (by assumption) ?_ ?_; rotate_left; (focus ((intro w hSw); (try dsimp only at hSw); go_simp; (try with_reducible rfl))); (try simp only [Act.put, List.setIfInBounds_toArray, List.set_cons_zero, List.set_cons_succ]))
                    refine wpAnyH_done (by kernel_rfl) ?_ _
                    go_wp2
                    go_ret
                    exact ⟨rightI_no (fun hr => by have := HD.out.1 hr; simp at this), HT.low⟩
                  | true =>
                    (refine held_yes (v := ?_) 23 rfl (by kernel_rfl) (by kernel_rfl) (by kernel_rfl) (fun _ _ _ h => h) (by rfl) (by assumption) ?_ ?_; rotate_left; (focus ((intro w hSw); (try dsimp only at hSw); go_simp; (try with_reducible rfl))); (try simp only [Act.put, List.setIfInBounds_toArray, List.set_cons_zero, List.set_cons_succ]))
                    (refine held_call 24 rfl (by kernel_rfl) (fun K hK => ?_); go_simp)
                    go_at_call 77; refine (FI.out _ HT.low).mono ?_; rintro e wq ⟨rfl, hbq⟩; have HT := HT.later hbq; have cq := HT.a.1
                    (refine hK.out _ _ (HT.a.1) (fun hHeld => ?_); clear hK K; (try simp only [Act.put, List.setIfInBounds_toArray, List.set_cons_zero, List.set_cons_succ]))
                    (refine held_yes (v := ?_) 25 rfl (by kernel_rfl) (by kernel_rfl) (by kernel_rfl) (fun _ _ _ h => h) (by rfl) (by assumption) ?_ ?_; rotate_left; (focus ((intro w hSw); (try dsimp only at hSw); go_simp; (try with_reducible rfl))); (try simp only [Act.put, List.setIfInBounds_toArray, List.set_cons_zero, List.set_cons_succ])); (refine held_yes (v := ?_) 26 rfl (by kernel_rfl) (by kernel_rfl) (by kernel_rfl) (fun _ _ _ h => h) (by rfl) (by assumption) ?_ ?_; rotate_left; (focus ((intro w hSw); (try dsimp only at hSw); go_simp; (try with_reducible rfl))); (try simp only [Act.put, List.setIfInBounds_toArray, List.set_cons_zero, List.set_cons_succ]))
                    refine wpAnyH_done (by kernel_rfl) ?_ _
                    go_wp2
                    go_ret
                    exact ⟨⟨ff, rfl, ⟨fun hff => HD.out.2 ⟨(by first | rfl | trivial), (by first | rfl | trivial), (by first | rfl | trivial), hff⟩, fun hr => (HD.out.1 hr).2.2.2⟩⟩, HT.low⟩
end Go.Proofs.YtcmdhfccdkjenaaGreatDoor
namespace Go.Proofs.YtcmdhfccdkjenaaGreatDoor
open Go.RowKit Go.Shelf

/-- The texts of queries, read in the first world; how many there are was told in a later one. -/
theorem who_ex2 {w w' : World} {qs : List Qv} (h : ∀ q ∈ qs, q.ok w) (h' : ∀ q ∈ qs, q.okN 40 w') : ∃ F, WhoF w qs F ∧ ∀ q ∈ qs, ∀ s ∈ F q, s.size ≤ 9223372036854775807 := by
  have key : ∀ q, ∃ ss : List ByteArray, q ∈ qs → (SlA w 1 q.w ss.length (strs ss) ∧ ss.length ≤ 40 ∧ ∀ s ∈ ss, s.size ≤ 9223372036854775807) := by
    intro q
    by_cases hq : q ∈ qs
    · obtain ⟨_, _, ss, h1, h2⟩ := h q hq
      obtain ⟨_, _, ss', h3, h4, _⟩ := h' q hq
      obtain ⟨a, c, e⟩ := h1.form
      obtain ⟨a', c', e'⟩ := h3.form
      rw [e] at e'
      simp only [Value.slice.injEq] at e'
      exact ⟨ss, fun _ => ⟨h1, by rw [e'.2.1]; exact h4, h2⟩⟩
    · exact ⟨[], fun h' => absurd h' hq⟩
  refine ⟨fun q => (key q).choose, fun q hq => ⟨((key q).choose_spec hq).1, ((key q).choose_spec hq).2.1⟩, fun q hq => ((key q).choose_spec hq).2.2⟩
/-- What a light policy that may be gives. -/
structure GoodP (l : List St) (g h : List Rl) (qs : List Qv) (F : Qv → List ByteArray) : Prop where
  right : ∀ s ∈ l, rightS s = true
  ps : (newB (allPrins l g h qs F)).length ≤ 16
  ns : (newB (allNames l g h qs)).length ≤ 12
theorem RightP.good {l : List St} {g h : List Rl} {qs : List Qv} {F : Qv → List ByteArray} (hr : RightP l g h qs F) : GoodP l g h qs F := by
  obtain ⟨h1, _, _, _, _, _, h2⟩ := hr
  unfold fitsP at h2
  simp only [Bool.and_eq_true, decide_eq_true_iff] at h2
  exact ⟨h1, h2.2.1, h2.2.2⟩
end Go.Proofs.YtcmdhfccdkjenaaGreatDoor
namespace Go.Proofs.YtcmdhfccdkjenaaGreatDoor
open Go.RowKit Go.Shelf

/-- Every row of statements has a least relation, a row of pairs. -/
theorem least_ex (l : List St) : ∃ ps : List Pr, LeastS l (fun r x => (r, x) ∈ ps) := by
  obtain ⟨cand, hcand⟩ : ∃ c : List Pr, c = l.flatMap (fun s => l.map (fun t => (s.h, t.who))) := ⟨_, rfl⟩
  have cm : ∀ r x, (r, x) ∈ cand ↔ (∃ s ∈ l, s.h = r) ∧ ∃ t ∈ l, t.who = x := by
    intro r x
    rw [hcand, List.mem_flatMap]
    constructor
    · rintro ⟨s, hs, h⟩
      obtain ⟨t, ht, e⟩ := List.mem_map.1 h
      simp only [Prod.mk.injEq] at e
      exact ⟨⟨s, hs, e.1⟩, ⟨t, ht, e.2⟩⟩
    · rintro ⟨⟨s, hs, rfl⟩, ⟨t, ht, rfl⟩⟩
      exact ⟨s, hs, List.mem_map.2 ⟨t, ht, rfl⟩⟩
  have hC : CloS l (fun r x => (r, x) ∈ cand) :=
    ⟨fun s hs _ => (cm _ _).2 ⟨⟨s, hs, rfl⟩, ⟨s, hs, rfl⟩⟩, fun s hs _ x h => (cm _ _).2 ⟨⟨s, hs, rfl⟩, ((cm _ _).1 h).2⟩, fun s hs _ x y _ h => (cm _ _).2 ⟨⟨s, hs, rfl⟩, ((cm _ _).1 h).2⟩, fun s hs _ x h _ => (cm _ _).2 ⟨⟨s, hs, rfl⟩, ((cm _ _).1 h).2⟩⟩
  have hP : ∀ r x, (r, x) ∈ cand.filter (fun p => @decide (∀ E, CloS l E → E p.1 p.2) (Classical.propDecidable _)) ↔ ∀ E, CloS l E → E r x := by
    intro r x
    rw [List.mem_filter]
    constructor
    · rintro ⟨_, h⟩
      exact @of_decide_eq_true _ (Classical.propDecidable _) h
    · intro h
      exact ⟨h _ hC, @decide_eq_true _ (Classical.propDecidable _) h⟩
  refine ⟨_, ⟨fun s hs hk => ?_, fun s hs hk x h => ?_, fun s hs hk x y h1 h2 => ?_, fun s hs hk x h1 h2 => ?_⟩, fun E hE r x h => (hP r x).1 h E hE⟩
  · exact (hP _ _).2 (fun E hE => hE.mem s hs hk)
  · exact (hP _ _).2 (fun E hE => hE.incl s hs hk x ((hP _ _).1 h E hE))
  · exact (hP _ _).2 (fun E hE => hE.link s hs hk x y ((hP _ _).1 h1 E hE) ((hP _ _).1 h2 E hE))
  · exact (hP _ _).2 (fun E hE => hE.both s hs hk x ((hP _ _).1 h1 E hE) ((hP _ _).1 h2 E hE))
theorem members_mono {l m : List St} {ps qs : List Pr} (h : LeastS l (fun r x => (r, x) ∈ ps)) (g : LeastS m (fun r x => (r, x) ∈ qs)) (hs : ∀ s ∈ l, s ∈ m) (r : Rl) : insideB (membersP ps r) (membersP qs r) = true := by
  unfold insideB
  rw [List.all_eq_true]
  intro x hx
  rw [hasB_mem, membersP_mem]
  exact h.mono g hs r x (membersP_mem.1 hx)
theorem sound_bound {l : List St} {n : Nat} (hl : l.length ≤ n) : ∀ ps : List Pr, ps.Nodup → SoundS l ps → ps.length ≤ n * n := by
  intro ps hn hs
  have h1 := hs.bound hn
  have h3 : l.length * l.length ≤ n * n := Nat.mul_le_mul hl hl
  omega
end Go.Proofs.YtcmdhfccdkjenaaGreatDoor
namespace Go.Proofs.YtcmdhfccdkjenaaGreatDoor
open Go.RowKit Go.Shelf

end Go.Proofs.YtcmdhfccdkjenaaGreatDoor
namespace Go.Proofs.YtcmdhfccdkjenaaGreatDoor
open Go.RowKit Go.Shelf

section
variable {α : Type} {l : List α} {p : α → Bool}
theorem all_no {k : Nat} (hk : k < l.length) (h : p l[k] = false) : l.all p = false := by
  rw [List.all_eq_false]; exact ⟨l[k], List.getElem_mem hk, by rw [h]; exact Bool.false_ne_true⟩
theorem all_end' (h : ∀ j (hj : j < l.length), p l[j] = true) : l.all p = true := by
  rw [List.all_eq_true]; intro x hx
  obtain ⟨j, hj, rfl⟩ := List.getElem_of_mem hx
  exact h j hj
theorem any_yes {k : Nat} (hk : k < l.length) (h : p l[k] = true) : l.any p = true := by
  rw [List.any_eq_true]; exact ⟨l[k], List.getElem_mem hk, h⟩
theorem any_end (h : ∀ j (hj : j < l.length), p l[j] = false) : l.any p = false := by
  rw [List.any_eq_false]; intro x hx
  obtain ⟨j, hj, rfl⟩ := List.getElem_of_mem hx
  rw [h j hj]; exact Bool.false_ne_true
end

def cOk (l : List St) (g : List Rl) (s : St) : Bool := rightS s && (hasS l s || !hasR g s.h)
def stays (h : List Rl) (m : List St) (s : St) : Bool := hasR h s.h && !hasS m s
def reachS (l : List St) (g h : List Rl) (m : List St) : Bool := m.all (cOk l g) && !(l.any (stays h m))

end Go.Proofs.YtcmdhfccdkjenaaGreatDoor
namespace Go.Proofs.YtcmdhfccdkjenaaGreatDoor
open Go.RowKit Go.Shelf

theorem hasR_no {l : List Rl} {r : Rl} : (!hasR l r) = true ↔ r ∉ l := by
  rw [← hasR_mem]; cases hasR l r <;> simp
/-- What a policy reaches. -/
theorem reach_iff {l m : List St} {g h : List Rl} : reachS l g h m = true ↔ (∀ s ∈ m, rightS s = true ∧ (s ∈ l ∨ s.h ∉ g)) ∧ ∀ s ∈ l, s.h ∈ h → s ∈ m := by
  unfold reachS
  rw [Bool.and_eq_true, List.all_eq_true, Bool.not_eq_true', List.any_eq_false]
  constructor
  · rintro ⟨h1, h2⟩
    refine ⟨fun s hs => ?_, fun s hs hm => ?_⟩
    · have := h1 s hs
      unfold cOk at this
      rw [Bool.and_eq_true, Bool.or_eq_true, hasS_mem, hasR_no] at this
      exact this
    · have := h2 s hs
      unfold stays at this
      rw [(hasR_mem h s.h).2 hm, Bool.true_and, Bool.not_eq_true', Bool.not_eq_false, hasS_mem] at this
      exact this
  · rintro ⟨h1, h2⟩
    refine ⟨fun s hs => ?_, fun s hs => ?_⟩
    · unfold cOk
      rw [Bool.and_eq_true, Bool.or_eq_true, hasS_mem, hasR_no]
      exact h1 s hs
    · unfold stays
      intro e
      rw [Bool.and_eq_true, Bool.not_eq_true'] at e
      have := (hasS_mem m s).2 (h2 s hs ((hasR_mem h s.h).1 e.1))
      rw [this] at e
      cases e.2
/-- The least state. -/
theorem min_in {l m : List St} {g h : List Rl} (hr : reachS l g h m = true) : ∀ s ∈ minS l h, s ∈ m := by
  intro s hs
  unfold minS at hs
  obtain ⟨h1, h2⟩ := List.mem_filter.1 hs
  exact (reach_iff.1 hr).2 s h1 ((hasR_mem h s.h).1 h2)
theorem min_reached {l : List St} {g h : List Rl} (hr : ∀ s ∈ l, rightS s = true) : reachS l g h (minS l h) = true := by
  refine reach_iff.2 ⟨fun s hs => ?_, fun s hs hm => ?_⟩
  · have := (List.mem_filter.1 hs).1
    exact ⟨hr s this, .inl this⟩
  · exact List.mem_filter.2 ⟨hs, (hasR_mem h s.h).2 hm⟩
theorem right_roles {s : St} (h : rightS s = true) : (∀ r ∈ rolesS s, isRole r = true) ∧ (∀ x ∈ whoS s, isP 65 90 (bl x) = true) ∧ ∀ x ∈ viaS s, isP 97 122 (bl x) = true := by
  have hk := right_kinds h
  unfold rightS at h
  rw [Bool.and_eq_true] at h
  obtain ⟨hh, h⟩ := h
  unfold rolesS whoS viaS
  rcases hk with e | e | e | e
  · rw [if_pos e] at h
    simp only [Bool.and_eq_true] at h
    rw [if_neg (by omega), if_neg (by omega), if_pos e, if_neg (by omega)]
    exact ⟨fun r hr => by rw [List.mem_singleton.1 hr]; exact hh, fun x hx => by rw [List.mem_singleton.1 hx]; exact h.1.1.1, fun x hx => by cases hx⟩
  · rw [if_neg (by omega), if_pos e] at h
    simp only [Bool.and_eq_true] at h
    rw [if_pos (.inl e), if_neg (by omega), if_neg (by omega)]
    refine ⟨fun r hr => ?_, fun x hx => (by cases hx), fun x hx => (by cases hx)⟩
    simp only [List.mem_cons, List.not_mem_nil, or_false] at hr
    rcases hr with rfl | rfl
    · exact hh
    · exact h.1.1.2
  · rw [if_neg (by omega), if_neg (by omega), if_pos e] at h
    simp only [Bool.and_eq_true] at h
    rw [if_pos (.inr e), if_neg (by omega), if_pos e]
    refine ⟨fun r hr => ?_, fun x hx => (by cases hx), fun x hx => by rw [List.mem_singleton.1 hx]; exact h.2⟩
    simp only [List.mem_cons, List.not_mem_nil, or_false] at hr
    rcases hr with rfl | rfl
    · exact hh
    · exact h.1.1.2
  · rw [if_neg (by omega), if_neg (by omega), if_neg (by omega), if_pos e] at h
    simp only [Bool.and_eq_true] at h
    rw [if_neg (by omega), if_pos e, if_neg (by omega), if_neg (by omega)]
    refine ⟨fun r hr => ?_, fun x hx => (by cases hx), fun x hx => (by cases hx)⟩
    simp only [List.mem_cons, List.not_mem_nil, or_false] at hr
    rcases hr with rfl | rfl | rfl
    · exact hh
    · exact h.1.1.1.2
    · exact h.1.1.2
theorem role_parts {r : Rl} (h : isRole r = true) : isP 65 90 (bl r.o) = true ∧ isP 97 122 (bl r.n) = true := by
  unfold isRole at h; rwa [Bool.and_eq_true] at h
theorem rightQ_parts {q : Qv} {us : List ByteArray} (h : rightQ q us = true) : (1 ≤ q.k ∧ q.k ≤ 6) ∧ (∀ r ∈ rolesQ q, isRole r = true) ∧ ∀ x ∈ us, isP 65 90 (bl x) = true := by
  unfold rightQ at h
  simp only [Bool.and_eq_true, decide_eq_true_iff] at h
  obtain ⟨h1, h2, h3, h4, h5⟩ := h
  refine ⟨⟨h1, h2⟩, fun r hr => ?_, fun x hx => ?_⟩
  · unfold rolesQ at hr
    by_cases e : q.k = 5 ∨ q.k = 6
    · rw [if_pos e] at hr
      rw [if_pos (by omega)] at h5
      simp only [Bool.and_eq_true] at h5
      simp only [List.mem_cons, List.not_mem_nil, or_false] at hr
      rcases hr with rfl | rfl
      · exact h3
      · exact h5.1
    · rw [if_neg e] at hr
      rw [List.mem_singleton.1 hr]; exact h3
  · obtain ⟨i, hi, rfl⟩ := List.getElem_of_mem hx
    unfold rises at h4
    rw [List.all_eq_true] at h4
    have := h4 i (List.mem_range.2 hi)
    unfold risesAt at this
    rw [Bool.and_eq_true] at this
    rw [List.getD_eq_getElem?_getD, List.getElem?_eq_getElem hi] at this
    exact this.1
theorem RightP.names {l : List St} {g h : List Rl} {qs : List Qv} {F : Qv → List ByteArray} (hr : RightP l g h qs F) : (∀ x ∈ newB (allPrins l g h qs F), isP 65 90 (bl x) = true) ∧ ∀ x ∈ newB (allNames l g h qs), isP 97 122 (bl x) = true := by
  obtain ⟨h1, h2, h3, _⟩ := hr
  have hroles : ∀ r ∈ allRoles l g h qs, isRole r = true := by
    intro r hr
    unfold allRoles at hr
    rw [List.mem_append, List.mem_append, List.mem_append] at hr
    rcases hr with ((hr | hr) | hr) | hr
    · obtain ⟨s, hs, hr⟩ := List.mem_flatMap.1 hr
      exact (right_roles (h1 s hs)).1 r hr
    · exact h2 r (List.mem_append.2 (.inl hr))
    · exact h2 r (List.mem_append.2 (.inr hr))
    · obtain ⟨q, hq, hr⟩ := List.mem_flatMap.1 hr
      exact (rightQ_parts (h3 q hq)).2.1 r hr
  refine ⟨fun x hx => ?_, fun x hx => ?_⟩
  · rw [new_mem] at hx
    unfold allPrins at hx
    rw [List.mem_append, List.mem_append] at hx
    rcases hx with (hx | hx) | hx
    · obtain ⟨r, hr, rfl⟩ := List.mem_map.1 hx
      exact (role_parts (hroles r hr)).1
    · obtain ⟨s, hs, hx⟩ := List.mem_flatMap.1 hx
      exact (right_roles (h1 s hs)).2.1 x hx
    · obtain ⟨q, hq, hx⟩ := List.mem_flatMap.1 hx
      exact (rightQ_parts (h3 q hq)).2.2 x hx
  · rw [new_mem] at hx
    unfold allNames at hx
    rw [List.mem_append] at hx
    rcases hx with hx | hx
    · obtain ⟨r, hr, rfl⟩ := List.mem_map.1 hx
      exact (role_parts (hroles r hr)).2
    · obtain ⟨s, hs, hx⟩ := List.mem_flatMap.1 hx
      exact (right_roles (h1 s hs)).2.2 x hx
end Go.Proofs.YtcmdhfccdkjenaaGreatDoor
namespace Go.Proofs.YtcmdhfccdkjenaaGreatDoor
open Go.RowKit Go.Shelf

theorem cOk_no1 {l : List St} {g : List Rl} {s : St} (h : rightS s = false) : cOk l g s = false := by unfold cOk; rw [h]; rfl
theorem cOk_eq {l : List St} {g : List Rl} {s : St} (h : rightS s = true) : cOk l g s = (hasS l s || !hasR g s.h) := by unfold cOk; rw [h]; rfl

end Go.Proofs.YtcmdhfccdkjenaaGreatDoor
namespace Go.Proofs.YtcmdhfccdkjenaaGreatDoor
open Go.RowKit Go.Shelf

set_option maxRecDepth 100000 in
set_option maxHeartbeats 4000000 in
theorem ref10_Reaches (v0 v1 v2 v3 vc : Value) (l m : List St) (g h : List Rl) (qs : List Qv) (w : World) (hp : PolAt w v0 v1 v2 v3 l g h qs) (hc : SlA w 9 vc m.length (m.flatMap St.cells)) (hm : allLe m 4294967) :
    Calls Tryz.prog 20 #[pv v0 v1 v2 v3, vc] w fun e w' => e = .returned (.bool (reachS l g h m)) ∧ Below w.heap.size w w' := by
  have HP := Lib.hid hp
  have HC := Lib.hid hc
  have hmaxm := hc.max
  have hmaxl := hp.rs.max
  obtain ⟨a0, c0, rfl⟩ := hp.rs.form
  obtain ⟨a1, c1, rfl⟩ := hp.rg.form
  obtain ⟨a2, c2, rfl⟩ := hp.rh.form
  obtain ⟨a3, c3, rfl⟩ := hp.rq.form
  obtain ⟨ac, cc, rfl⟩ := hc.form
  have HT := Lib.hid (show OneAt w #[.slice a0 l.length c0, .slice a1 g.length c1, .slice a2 h.length c2, .slice a3 qs.length c3] (w.alloc (.cells #[.slice a0 l.length c0, .slice a1 g.length c1, .slice a2 h.length c2, .slice a3 qs.length c3] 26)) from ⟨Blk.new w _ _, (Below.refl _ _).alloc (Nat.le_refl _) _⟩)
  have RI := Lib.hid (fun k (hk : k < m.length) W => ref3_Right m[k] W (hm _ (List.getElem_mem hk)))
  have SI := Lib.hid (fun x W (hb : Below w.heap.size w W) => ref3_Has (.slice a0 l.length c0) l x W (hp.rs.below hb))
  have MI := Lib.hid (fun k (hk : k < m.length) W (hb : Below w.heap.size w W) => ref5_Has (.slice a1 g.length c1) g m[k].h W (hp.rg.below hb))
  have EN := Lib.hid (fun k (hk : k < m.length) (h : cOk l g m[k] = false) => all_no hk h)
  have EE := Lib.hid (fun (h : ∀ j (hj : j < m.length), cOk l g m[j] = true) => all_end' h)
  have HH := Lib.hid (fun x W (hb : Below w.heap.size w W) => ref5_Has (.slice a2 h.length c2) h x W (hp.rh.below hb))
  have HM := Lib.hid (fun x W (hb : Below w.heap.size w W) => ref3_Has (.slice ac m.length cc) m x W (hc.below hb))
  have NY := Lib.hid (fun k (hk : k < l.length) (hh : stays h m l[k] = true) => any_yes hk hh)
  have NE := Lib.hid (fun (hh : ∀ j (hj : j < l.length), stays h m l[j] = false) => any_end hh)
  unfold reachS
  generalize m.all (cOk l g) = r1 at EN EE ⊢
  generalize l.any (stays h m) = r2 at NY NE ⊢
  clear hp hc hm
  go_enter Tryz.func20, Tryz.ntmps20
  go_wp2_with fail
  go_loopw [11] (fun i wr => ∃ k : Nat, k ≤ m.length ∧ i = .int .i64 k ∧ Hid (OneAt w #[.slice a0 l.length c0, .slice a1 g.length c1, .slice a2 h.length c2, .slice a3 qs.length c3] wr) ∧ Hid (∀ j (hj : j < m.length), j < k → cOk l g m[j] = true)) (fun i _ => m.length - (intOf i).toNat)
  case atStart => exact ⟨0, by omega, rfl, HT, Lib.hid (fun _ _ h => absurd h (by omega))⟩
  case round =>
    clear HT
    obtain ⟨k, hk, rfl, HT, HJ⟩ := hrel
    by_cases hlt : k < m.length
    · obtain ⟨b1, o1, e1, he1, hc1, hm1, hb1, hx1⟩ := HC.out.pos (by omega)
      simp only [Value.slice.injEq, true_and] at he1
      obtain ⟨rfl, rfl⟩ := he1
      obtain ⟨p0, p1, p2, p3, p4, p5, p6, p7, p8⟩ := st_cell (w := wr) (fun j u hu => (HT.out.low.cell (p := ⟨b1, o1 + j, none⟩) hb1).trans (hx1 j u hu)) k hlt
      have hbr : b1 < wr.heap.size := Nat.lt_of_lt_of_le hb1 HT.out.low.size
      have RK := Lib.hid (fun W => RI.out k hlt W)
      have SK := Lib.hid (fun W hb => SI.out m[k] W hb)
      have MK := Lib.hid (fun W hb => MI.out k hlt W hb)
      have ENk := Lib.hid (fun h => EN.out k hlt h)
      have K1 := Lib.hid (fun (hh : rightS m[k] = false) => cOk_no1 (l := l) (g := g) hh)
      have K2 := Lib.hid (fun (hh : rightS m[k] = true) => cOk_eq (l := l) (g := g) hh)
      have HJ2 : Hid (cOk l g m[k] = true → ∀ j (hj : j < m.length), j < k + 1 → cOk l g m[j] = true) := Lib.hid (fun hpk j hj hjk => by
        by_cases h : j < k
        · exact HJ.out j hj h
        · obtain rfl : j = k := by omega
          exact hpk)
      have hek : m[k] = ⟨m[k].k, ⟨m[k].h.o, m[k].h.n⟩, m[k].who, ⟨m[k].a.o, m[k].a.n⟩, ⟨m[k].b.o, m[k].b.n⟩, m[k].via⟩ := rfl
      clear hx1
      generalize cOk l g m[k] = ck at ENk K1 K2 HJ2
      generalize m[k] = x at *
      obtain ⟨xk, ⟨x1, x2⟩, xw, ⟨x3, x4⟩, ⟨x5, x6⟩, xv⟩ := x
      clear hek
      generalize rightS ⟨xk, ⟨x1, x2⟩, xw, ⟨x3, x4⟩, ⟨x5, x6⟩, xv⟩ = rr at RK MK K1 K2
      generalize hasS l ⟨xk, ⟨x1, x2⟩, xw, ⟨x3, x4⟩, ⟨x5, x6⟩, xv⟩ = rs at SK K2
      generalize hasR g _ = rg at MK K2
      have HT1 := Lib.hid (HT.out.alloc (.cells #[.int .i64 xk, .string x1, .string x2, .string xw, .string x3, .string x4, .string x5, .string x6, .string xv] 35))
      have HBK := Lib.hid (Blk.new wr #[.int .i64 xk, .string x1, .string x2, .string xw, .string x3, .string x4, .string x5, .string x6, .string xv] 35)
      go_wp2_with fail
      refine (RK.out _).mono ?_
      rintro e w2 ⟨rfl, hb2⟩
      have HT2 := Lib.hid (HT1.out.later hb2)
      have HBK2 := Lib.hid (HBK.out.below hb2)
      obtain ⟨ca, fa, za⟩ := HT2.out.a
      obtain ⟨cx, fx, zx⟩ := HBK2.out
      clear hb2
      cases rr with
      | false =>
        have R := Lib.hid (ENk.out (K1.out rfl))
        go_wp2
        go_ret
        exact ⟨ret_b (by rw [R.out]; rfl), HT2.out.low⟩
      | true =>
        have K3 := Lib.hid (K2.out rfl)
        clear K1 K2
        go_wp2_with fail
        refine (SK.out _ HT2.out.low).mono ?_
        rintro e w3 ⟨rfl, hb3⟩
        have HT3 := Lib.hid (HT2.out.later hb3)
        have HBK3 := Lib.hid (HBK2.out.below hb3)
        obtain ⟨ca, fa, za⟩ := HT3.out.a
        obtain ⟨cx, fx, zx⟩ := HBK3.out
        clear hb3
        cases rs with
        | true =>
          have HJ3 := Lib.hid (HJ2.out (by rw [K3.out]; rfl))
          go_wp2
          exact ⟨⟨k + 1, by omega, by go_num, HT3, HJ3⟩, by simp [intOf]; omega⟩
        | false =>
          go_wp2_with fail
          refine (MK.out _ HT3.out.low).mono ?_
          rintro e w4 ⟨rfl, hb4⟩
          have HT4 := Lib.hid (HT3.out.later hb4)
          clear hb4
          cases rg with
          | true =>
            have R := Lib.hid (ENk.out (by rw [K3.out]; rfl))
            go_wp2
            go_ret
            exact ⟨ret_b (by rw [R.out]; rfl), HT4.out.low⟩
          | false =>
            have HJ3 := Lib.hid (HJ2.out (by rw [K3.out]; rfl))
            go_wp2
            exact ⟨⟨k + 1, by omega, by go_num, HT4, HJ3⟩, by simp [intOf]; omega⟩
    · have R := Lib.hid (EE.out (fun j hj => HJ.out j hj (by omega)))
      obtain ⟨ca, fa, za⟩ := HT.out.a
      clear EN EE RI SI MI HJ
      go_wp2_with fail
      clear ca fa za
      go_loopw [34] (fun i wr => ∃ k : Nat, k ≤ l.length ∧ i = .int .i64 k ∧ Hid (OneAt w #[.slice a0 l.length c0, .slice a1 g.length c1, .slice a2 h.length c2, .slice a3 qs.length c3] wr) ∧ Hid (∀ j (hj : j < l.length), j < k → stays h m l[j] = false)) (fun i _ => l.length - (intOf i).toNat)
      case atStart => exact ⟨0, by omega, rfl, HT, Lib.hid (fun _ _ h => absurd h (by omega))⟩
      case round =>
        clear HT
        obtain ⟨k, hk, rfl, HT, HJ⟩ := hrel
        by_cases hlt : k < l.length
        · obtain ⟨b1, o1, e1, he1, hc1, hm1, hb1, hx1⟩ := HP.out.rs.pos (by omega)
          simp only [Value.slice.injEq, true_and] at he1
          obtain ⟨rfl, rfl⟩ := he1
          obtain ⟨p0, p1, p2, p3, p4, p5, p6, p7, p8⟩ := st_cell (w := wr) (fun j u hu => (HT.out.low.cell (p := ⟨b1, o1 + j, none⟩) hb1).trans (hx1 j u hu)) k hlt
          have hbr : b1 < wr.heap.size := Nat.lt_of_lt_of_le hb1 HT.out.low.size
          have HK := Lib.hid (fun W hb => HH.out l[k].h W hb)
          have MK := Lib.hid (fun W hb => HM.out l[k] W hb)
          have NYk := Lib.hid (fun hh => NY.out k hlt hh)
          have ST := Lib.hid (show stays h m l[k] = (hasR h l[k].h && !hasS m l[k]) from rfl)
          have HJ2 : Hid (stays h m l[k] = false → ∀ j (hj : j < l.length), j < k + 1 → stays h m l[j] = false) := Lib.hid (fun hpk j hj hjk => by
            by_cases h : j < k
            · exact HJ.out j hj h
            · obtain rfl : j = k := by omega
              exact hpk)
          have hek : l[k] = ⟨l[k].k, ⟨l[k].h.o, l[k].h.n⟩, l[k].who, ⟨l[k].a.o, l[k].a.n⟩, ⟨l[k].b.o, l[k].b.n⟩, l[k].via⟩ := rfl
          clear hx1
          generalize stays h m l[k] = ck at NYk ST HJ2
          generalize l[k] = x at *
          obtain ⟨xk, ⟨x1, x2⟩, xw, ⟨x3, x4⟩, ⟨x5, x6⟩, xv⟩ := x
          clear hek
          generalize hasS m ⟨xk, ⟨x1, x2⟩, xw, ⟨x3, x4⟩, ⟨x5, x6⟩, xv⟩ = rs at MK ST
          generalize hasR h _ = rh at HK ST
          have HT1 := Lib.hid (HT.out.alloc (.cells #[.int .i64 xk, .string x1, .string x2, .string xw, .string x3, .string x4, .string x5, .string x6, .string xv] 35))
          have HBK := Lib.hid (Blk.new wr #[.int .i64 xk, .string x1, .string x2, .string xw, .string x3, .string x4, .string x5, .string x6, .string xv] 35)
          obtain ⟨ca, fa, za⟩ := HT.out.a
          go_wp2_with fail
          refine (HK.out _ HT1.out.low).mono ?_
          rintro e w2 ⟨rfl, hb2⟩
          have HT2 := Lib.hid (HT1.out.later hb2)
          have HBK2 := Lib.hid (HBK.out.below hb2)
          clear hb2 ca fa za
          cases rh with
          | false =>
            have HJ3 := Lib.hid (HJ2.out (by rw [ST.out]; rfl))
            go_wp2
            exact ⟨⟨k + 1, by omega, by go_num, HT2, HJ3⟩, by simp [intOf]; omega⟩
          | true =>
            obtain ⟨cx, fx, zx⟩ := HBK2.out
            go_wp2_with fail
            refine (MK.out _ HT2.out.low).mono ?_
            rintro e w3 ⟨rfl, hb3⟩
            have HT3 := Lib.hid (HT2.out.later hb3)
            clear hb3 cx fx zx
            cases rs with
            | true =>
              have HJ3 := Lib.hid (HJ2.out (by rw [ST.out]; rfl))
              go_wp2
              exact ⟨⟨k + 1, by omega, by go_num, HT3, HJ3⟩, by simp [intOf]; omega⟩
            | false =>
              have R2 := Lib.hid (NYk.out (by rw [ST.out]; rfl))
              go_wp2
              go_ret
              exact ⟨ret_b (by rw [R.out, R2.out]; rfl), HT3.out.low⟩
        · have R2 := Lib.hid (NE.out (fun j hj => HJ.out j hj (by omega)))
          go_wp2
          go_ret
          exact ⟨ret_b (by rw [R.out, R2.out]; rfl), HT.out.low⟩
end Go.Proofs.YtcmdhfccdkjenaaGreatDoor
