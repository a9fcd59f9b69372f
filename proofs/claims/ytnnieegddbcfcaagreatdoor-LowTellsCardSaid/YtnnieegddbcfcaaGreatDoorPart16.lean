/- crupperref05.Fits, crupperref04.Right, crupperref05.Right, to the letter (printed by gen_right6.py). The statement LowTells: the walk of the law. Roles and statements among a law's arguments: opened to data, and read again in a later world. Rows of statements among a law's arguments: opened. -/
import Derived.Test.YtnnieegddbcfcaaGreatDoorPart15
import Derived.Test.YtnnieegddbcfcaaGreatDoorPart7
import Derived.Test.YtnnieegddbcfcaaGreatDoorPart14
import Derived.Test.YtnnieegddbcfcaaGreatDoorPart6
import Derived.Test.YtnnieegddbcfcaaGreatDoorPart5
import Derived.ProofKit
import Derived.OpenShut
import Derived.ChangeMaps5
import Derived.Deep.Strs
import Derived.Test.YtnnieegddbcfcaaGreatDoorPart3
import Derived.Deep.Slices
namespace Go.Proofs.YtnnieegddbcfcaaGreatDoor
open Go.RowKit Go.Shelf

/-- Few enough queries, principals and names. -/
def fitsP (l : List St) (g h : List Rl) (qs : List Qv) (F : Qv → List ByteArray) : Bool := decide (qs.length ≤ 16) && (decide ((newB (allPrins l g h qs F)).length ≤ 16) && decide ((newB (allNames l g h qs)).length ≤ 12))
set_option maxRecDepth 100000 in
set_option maxHeartbeats 8000000 in
theorem ref5_FitsL (v0 v1 v2 v3 : Value) (l : List St) (g h : List Rl) (qs : List Qv) (w : World) (hp : PolAt w v0 v1 v2 v3 l g h qs) (hl : l.length ≤ 80) (hg : g.length ≤ 40) (hh : h.length ≤ 40) (hq : qs.length ≤ 100) (F : Qv → List ByteArray) (hF : WhoF w qs F) :
    Calls Tryz.prog 77 #[pv v0 v1 v2 v3] w fun e w' => e = .returned (.bool (fitsP l g h qs F)) ∧ Below w.heap.size w w' := by
  have PR := Lib.hid (fun W (hb : Below w.heap.size w W) => ref5_PrinsL v0 v1 v2 v3 l g h qs W (hp.below hb) (by omega) (by omega) (by omega) hq F (hF.below hb))
  have NA := Lib.hid (fun W (hb : Below w.heap.size w W) => ref5_NamesL v0 v1 v2 v3 l g h qs W (hp.below hb) (by omega) (by omega) (by omega) hq)
  obtain ⟨a0, c0, rfl⟩ := hp.rs.form
  obtain ⟨a1, c1, rfl⟩ := hp.rg.form
  obtain ⟨a2, c2, rfl⟩ := hp.rh.form
  obtain ⟨a3, c3, rfl⟩ := hp.rq.form
  have HT := Lib.hid (show OneAt w #[.slice a0 l.length c0, .slice a1 g.length c1, .slice a2 h.length c2, .slice a3 qs.length c3] (w.alloc (.cells #[.slice a0 l.length c0, .slice a1 g.length c1, .slice a2 h.length c2, .slice a3 qs.length c3] 26)) from ⟨Blk.new w _ _, (Below.refl _ _).alloc (Nat.le_refl _) _⟩)
  have d0 : decide ((80 : Int) < (l.length : Int)) = false := by (rw [decide_eq_false_iff_not]; omega)
  have d1 : decide ((40 : Int) < (g.length : Int)) = false := by (rw [decide_eq_false_iff_not]; omega)
  have d2 : decide ((40 : Int) < (h.length : Int)) = false := by (rw [decide_eq_false_iff_not]; omega)
  have RES := Lib.hid (show fitsP l g h qs F = (decide (qs.length ≤ 16) && (decide ((newB (allPrins l g h qs F)).length ≤ 16) && decide ((newB (allNames l g h qs)).length ≤ 12))) from rfl)
  clear hp hF
  go_enter Tryz.func77, Tryz.ntmps77
  by_cases t3 : 16 < qs.length
  · have d3 : decide ((16 : Int) < (qs.length : Int)) = true := by (rw [decide_eq_true_iff]; omega)
    go_wp2
    go_ret
    exact ⟨ret_b (by rw [RES.out, decide_eq_false (by omega)]; rfl), HT.out.low⟩
  have hq16 : decide (qs.length ≤ 16) = true := by rw [decide_eq_true_iff]; omega
  have d3 : decide ((16 : Int) < (qs.length : Int)) = false := by (rw [decide_eq_false_iff_not]; omega)
  go_wp2_with fail
  refine (PR.out _ HT.out.low).mono ?_
  rintro e w1 ⟨x1, rfl, hx1, hb1⟩
  have HT := Lib.hid (HT.out.later hb1)
  obtain ⟨hs1, _⟩ := hx1
  have HA1 := Lib.hid hs1.max
  generalize newB (allPrins l g h qs F) = ss at *
  obtain ⟨xo, xc, rfl⟩ := hs1.form
  obtain ⟨ca, fa, za⟩ := HT.out.a
  clear hb1 hs1
  by_cases t4 : ss.length ≤ 16
  · have d4 : decide ((ss.length : Int) ≤ 16) = true := by (rw [decide_eq_true_iff]; omega)
    have d4' : decide (ss.length ≤ 16) = true := by (rw [decide_eq_true_iff]; omega)
    go_wp2_with fail
    refine (NA.out _ HT.out.low).mono ?_
    rintro e w2 ⟨x2, rfl, hx2, hb2⟩
    have HT2 := Lib.hid (HT.out.later hb2)
    obtain ⟨hu1, _⟩ := hx2
    generalize newB (allNames l g h qs) = us at *
    obtain ⟨yo, yc, rfl⟩ := hu1.form
    clear hb2 hu1
    by_cases t5 : us.length ≤ 12
    · have d5 : decide ((us.length : Int) ≤ 12) = true := by (rw [decide_eq_true_iff]; omega)
      have d5' : decide (us.length ≤ 12) = true := by (rw [decide_eq_true_iff]; omega)
      go_wp2
      go_ret
      exact ⟨ret_b (by rw [RES.out, hq16, d4', d5']; rfl), HT2.out.low⟩
    · have d5 : decide ((us.length : Int) ≤ 12) = false := by (rw [decide_eq_false_iff_not]; omega)
      have d5' : decide (us.length ≤ 12) = false := by (rw [decide_eq_false_iff_not]; omega)
      go_wp2
      go_ret
      exact ⟨ret_b (by rw [RES.out, hq16, d4', d5']; rfl), HT2.out.low⟩
  · have d4 : decide ((ss.length : Int) ≤ 16) = false := by (rw [decide_eq_false_iff_not]; omega)
    have d4' : decide (ss.length ≤ 16) = false := by (rw [decide_eq_false_iff_not]; omega)
    go_wp2
    go_ret
    exact ⟨ret_b (by rw [RES.out, hq16, d4']; rfl), HT.out.low⟩

/-- Is the text of a place a principal, above the one ahead of it? -/
def risesAt (us : List ByteArray) (i : Nat) : Bool := isP 65 90 (bl (us.getD i emp)) && (decide (i = 0) || Op.bytesLess (us.getD (i - 1) emp).toList (us.getD i emp).toList)
def rises (us : List ByteArray) : Bool := (List.range us.length).all (risesAt us)
theorem rises_yes {us : List ByteArray} {k : Nat} (hk : ¬ k < us.length) (h : ∀ j, j < k → risesAt us j = true) : rises us = true := by
  unfold rises; rw [List.all_eq_true]
  intro j hj
  exact h j (by have := List.mem_range.1 hj; omega)
theorem rises_no {us : List ByteArray} {k : Nat} (hk : k < us.length) (h : risesAt us k = false) : rises us = false := by
  cases hr : rises us with
  | false => rfl
  | true =>
    unfold rises at hr
    rw [List.all_eq_true] at hr
    rw [hr k (List.mem_range.2 hk)] at h; cases h
theorem getD_at {us : List ByteArray} {k : Nat} (hk : k < us.length) : us.getD k emp = us[k] := by rw [List.getD_eq_getElem?_getD, List.getElem?_eq_getElem hk]; rfl
/-- Which queries may be, of the texts that they name. -/
def rightQ (q : Qv) (us : List ByteArray) : Bool :=
  decide (1 ≤ q.k) && (decide (q.k ≤ 6) && (isRole q.a && (rises us &&
  (if 5 ≤ q.k then isRole q.b && decide (us.length = 0) else eqRl q.b noR && (decide (us.length ≤ 12) && (if q.k = 4 then decide (us.length = 0) else decide (q.k = 3) || decide (0 < us.length)))))))
set_option maxRecDepth 100000 in
set_option maxHeartbeats 8000000 in
theorem ref4_RightL (q : Qv) (us : List ByteArray) (w : World) (hla : q.a.le 9223372036854775807) (hlb : q.b.le 9223372036854775807) (hu1 : SlA w 1 q.w us.length (strs us)) (hu3 : ∀ s ∈ us, s.size ≤ 9223372036854775807) : Calls Tryz.prog 66 #[qv q] w fun e w' => e = .returned (.bool (rightQ q us)) ∧ Below w.heap.size w w' := by
  have RES := Lib.hid (show rightQ q us = (decide (1 ≤ q.k) && (decide (q.k ≤ 6) && (isRole q.a && (rises us && (if 5 ≤ q.k then isRole q.b && decide (us.length = 0) else eqRl q.b noR && (decide (us.length ≤ 12) && (if q.k = 4 then decide (us.length = 0) else decide (q.k = 3) || decide (0 < us.length)))))))) from rfl)
  generalize rightQ q us = res at RES ⊢
  obtain ⟨xk, ⟨x1, x2⟩, ⟨x3, x4⟩, wv⟩ := q
  have HU := Lib.hid hu1
  have HUZ := Lib.hid hu3
  have hmax := hu1.max
  dsimp only at RES hu1 hla hlb
  have IA := Lib.hid (fun W => ref3_IsRoleM ⟨x1, x2⟩ W hla)
  have IB := Lib.hid (fun W => ref3_IsRoleM ⟨x3, x4⟩ W hlb)
  generalize isRole ⟨x1, x2⟩ = ra at IA RES
  generalize isRole ⟨x3, x4⟩ = rb at IB RES
  obtain ⟨wo, wc, rfl⟩ := hu1.form
  have HT := Lib.hid (show OneAt w #[.int .i64 xk, .string x1, .string x2, .string x3, .string x4, .slice wo us.length wc] (w.alloc (.cells #[.int .i64 xk, .string x1, .string x2, .string x3, .string x4, .slice wo us.length wc] 71)) from ⟨Blk.new w _ _, (Below.refl _ _).alloc (Nat.le_refl _) _⟩)
  clear hla hlb hu1 hu3
  go_enter Tryz.func66, Tryz.ntmps66
  by_cases k1 : xk < 1
  · have d1 : decide (xk < 1) = true := decide_eq_true k1
    have R := Lib.hid (show res = false by rw [RES.out, decide_eq_false (show ¬ 1 ≤ xk by omega)]; rfl)
    clear k1
    go_wp2
    go_ret
    exact ⟨ret_b R.out.symm, HT.out.low⟩
  have d1 : decide (xk < 1) = false := decide_eq_false k1
  by_cases k6 : 6 < xk
  · have d6 : decide (6 < xk) = true := decide_eq_true k6
    have R := Lib.hid (show res = false by rw [RES.out, decide_eq_true (show 1 ≤ xk by omega), decide_eq_false (show ¬ xk ≤ 6 by omega)]; rfl)
    clear k1 k6
    go_wp2
    go_ret
    exact ⟨ret_b R.out.symm, HT.out.low⟩
  have d6 : decide (6 < xk) = false := decide_eq_false k6
  rw [decide_eq_true (show 1 ≤ xk by omega), decide_eq_true (show xk ≤ 6 by omega), Bool.true_and, Bool.true_and] at RES
  have HK := Lib.hid (And.intro k1 k6)
  clear k1 k6
  go_wp2_with fail
  refine (IA.out _).mono ?_
  rintro e w1 ⟨rfl, hb1⟩
  have HT := Lib.hid (HT.out.later hb1)
  clear hb1
  cases ra with
  | false =>
    go_wp2
    go_ret
    exact ⟨ret_b (by rw [RES.out]; rfl), HT.out.low⟩
  | true =>
  rw [Bool.true_and] at RES
  obtain ⟨ca, fa, za⟩ := HT.out.a
  go_wp2_with fail
  clear ca fa za
  go_loopw [22] (fun i wr => ∃ k : Nat, k ≤ us.length ∧ i = .int .i64 k ∧ Hid (OneAt w #[.int .i64 xk, .string x1, .string x2, .string x3, .string x4, .slice wo us.length wc] wr) ∧ Hid (∀ j, j < k → risesAt us j = true)) (fun i _ => us.length - (intOf i).toNat)
  case atStart => exact ⟨0, by omega, rfl, HT, Lib.hid (fun j h => absurd h (by omega))⟩
  case round =>
    clear HT
    obtain ⟨k, hk, rfl, HT, HJ⟩ := hrel
    obtain ⟨ca, fa, za⟩ := HT.out.a
    by_cases hlt : k < us.length
    · obtain ⟨b1, o1, c1, he1, hc1, hm1, hb1, hx1⟩ := HU.out.pos (by omega)
      simp only [Value.slice.injEq, true_and] at he1
      obtain ⟨rfl, rfl⟩ := he1
      have p0 := (HT.out.low.cell (p := ⟨b1, o1 + k, none⟩) hb1).trans (hx1 k _ (strs_get hlt))
      have hbr : b1 < wr.heap.size := Nat.lt_of_lt_of_le hb1 HT.out.low.size
      have IP := Lib.hid (fun W => ref1_IsPrin us[k] W (HUZ.out _ (List.getElem_mem hlt)))
      have HRA := Lib.hid (show risesAt us k = (isP 65 90 (bl us[k]) && (decide (k = 0) || Op.bytesLess (us.getD (k - 1) emp).toList us[k].toList)) by unfold risesAt; rw [getD_at hlt])
      have HJS : Hid (risesAt us k = true → ∀ j, j < k + 1 → risesAt us j = true) := Lib.hid (fun h j hj => by
        by_cases e : j = k
        · rw [e]; exact h
        · exact HJ.out j (by omega))
      have HNO := Lib.hid (fun (h : risesAt us k = false) => show res = false by rw [RES.out, rises_no hlt h]; rfl)
      generalize isP 65 90 (bl us[k]) = rp at IP HRA
      cases rp with
      | false =>
        clear hx1
        go_wp2_with fail
        refine (IP.out _).mono ?_
        rintro e w2 ⟨rfl, rfl⟩
        go_wp2
        go_ret
        exact ⟨ret_b (HNO.out (by rw [HRA.out]; rfl)).symm, HT.out.low⟩
      | true =>
        by_cases hk0 : k = 0
        · have dk : decide (0 < k) = false := by (rw [decide_eq_false_iff_not]; omega)
          have HS := Lib.hid (HJS.out (by rw [HRA.out, decide_eq_true hk0]; rfl))
          clear hx1 hk0
          go_wp2_with fail
          refine (IP.out _).mono ?_
          rintro e w2 ⟨rfl, rfl⟩
          go_wp2
          exact ⟨⟨k + 1, by omega, by go_num, HT, HS⟩, by simp [intOf]; omega⟩
        · obtain ⟨m, hm⟩ : ∃ m, k = m + 1 := ⟨k - 1, by omega⟩
          have dk : decide (0 < k) = true := by (rw [decide_eq_true_iff]; omega)
          have hw1 : IntKind.i64.wrap ((k : Int) - 1) = (m : Int) := by rw [show (k : Int) - 1 = (m : Int) by omega]; exact Go.IntWalk.i64_in _ (by omega)
          have hml : m < us.length := by omega
          have hmi : (0 : Int) ≤ (m : Int) := by omega
          have q0 := (HT.out.low.cell (p := ⟨b1, o1 + m, none⟩) hb1).trans (hx1 m _ (strs_get hml))
          rw [decide_eq_false hk0, Bool.false_or, show k - 1 = m by omega, getD_at hml, Bool.true_and] at HRA
          clear hx1 hk0 hm
          go_wp2_with fail
          refine (IP.out _).mono ?_
          rintro e w2 ⟨rfl, rfl⟩
          generalize us[k] = sk at *
          generalize us[m] = sm at *
          cases hbl : Op.bytesLess sm.toList sk.toList with
          | false =>
            have hle : Op.bytesLess sm.toList sk.toList = false := hbl
            go_wp2
            go_ret
            exact ⟨ret_b (HNO.out (by rw [HRA.out]; exact hbl)).symm, HT.out.low⟩
          | true =>
            have hle : Op.bytesLess sm.toList sk.toList = true := hbl
            have HS := Lib.hid (HJS.out (by rw [HRA.out]; exact hbl))
            go_wp2
            exact ⟨⟨k + 1, by omega, by go_num, HT, HS⟩, by simp [intOf]; omega⟩
    · rw [rises_yes hlt HJ.out, Bool.true_and] at RES
      obtain ⟨k1, k6⟩ := HK.out
      by_cases h0 : us.length = 0
      · have e0 : ((us.length : Int) == 0) = true := by rw [beq_iff_eq]; omega
        have e1 : decide (0 < us.length) = false := decide_eq_false (by omega)
        have e1' : decide ((0 : Int) < (us.length : Int)) = false := decide_eq_false (by omega)
        have e2 : decide (us.length = 0) = true := decide_eq_true h0
        have e3 : decide (us.length ≤ 12) = true := decide_eq_true (by omega)
        have e3' : decide ((12 : Int) < (us.length : Int)) = false := decide_eq_false (by omega)
        rw [e1, e2, e3] at RES
        clear HJ
        by_cases k5 : 5 ≤ xk
        · have d5 : decide (5 ≤ xk) = true := decide_eq_true k5
          rw [if_pos k5] at RES
          clear k5 k1 k6
          go_wp2_with fail
          refine (IB.out _).mono ?_
          rintro e w2 ⟨rfl, hb2⟩
          have HT2 := Lib.hid (HT.out.later hb2)
          obtain ⟨ca, fa, za⟩ := HT2.out.a
          clear hb2
          cases rb with
          | false =>
            go_wp2
            go_ret
            exact ⟨ret_b (by rw [RES.out]; rfl), HT2.out.low⟩
          | true =>
            go_wp2
            go_ret
            exact ⟨ret_b (by rw [RES.out]; rfl), HT2.out.low⟩
        · have d5 : decide (5 ≤ xk) = false := decide_eq_false k5
          rw [if_neg k5] at RES
          have hNe : ∀ W, (binOp .neq 28 (.agg #[.string x3, .string x4]) (.agg #[.string emp, .string emp])).run Tryz.prog W = .ok (.bool (!eqRl ⟨x3, x4⟩ noR)) W := fun W => role_neq x3 x4 emp emp W
          generalize eqRl ⟨x3, x4⟩ noR = ern at hNe RES
          by_cases k4 : xk = 4
          · have d4 : (xk == 4) = true := beq_iff_eq.2 k4
            rw [if_pos k4] at RES
            clear k5 k1 k6 k4
            cases ern with
            | false =>
              go_wp2
              go_ret
              exact ⟨ret_b (by rw [RES.out]; rfl), HT.out.low⟩
            | true =>
              go_wp2
              go_ret
              exact ⟨ret_b (by rw [RES.out]; rfl), HT.out.low⟩
          · have d4 : (xk == 4) = false := beq_eq_false_iff_ne.2 k4
            rw [if_neg k4] at RES
            by_cases k3 : xk = 3
            · have d3 : (xk == 3) = true := beq_iff_eq.2 k3
              rw [decide_eq_true k3] at RES
              clear k5 k1 k6 k4 k3
              cases ern with
              | false =>
                go_wp2
                go_ret
                exact ⟨ret_b (by rw [RES.out]; rfl), HT.out.low⟩
              | true =>
                go_wp2
                go_ret
                exact ⟨ret_b (by rw [RES.out]; rfl), HT.out.low⟩
            · have d3 : (xk == 3) = false := beq_eq_false_iff_ne.2 k3
              rw [decide_eq_false k3] at RES
              clear k5 k1 k6 k4 k3
              cases ern with
              | false =>
                go_wp2
                go_ret
                exact ⟨ret_b (by rw [RES.out]; rfl), HT.out.low⟩
              | true =>
                go_wp2
                go_ret
                exact ⟨ret_b (by rw [RES.out]; rfl), HT.out.low⟩
      · have e0 : ((us.length : Int) == 0) = false := by rw [beq_eq_false_iff_ne]; omega
        have e1 : decide (0 < us.length) = true := decide_eq_true (by omega)
        have e1' : decide ((0 : Int) < (us.length : Int)) = true := decide_eq_true (by omega)
        have e2 : decide (us.length = 0) = false := decide_eq_false h0
        by_cases h12 : us.length ≤ 12
        · have e3 : decide (us.length ≤ 12) = true := decide_eq_true (by omega)
          have e3' : decide ((12 : Int) < (us.length : Int)) = false := decide_eq_false (by omega)
          rw [e1, e2, e3] at RES
          clear HJ
          by_cases k5 : 5 ≤ xk
          · have d5 : decide (5 ≤ xk) = true := decide_eq_true k5
            rw [if_pos k5] at RES
            clear k5 k1 k6
            go_wp2_with fail
            refine (IB.out _).mono ?_
            rintro e w2 ⟨rfl, hb2⟩
            have HT2 := Lib.hid (HT.out.later hb2)
            obtain ⟨ca, fa, za⟩ := HT2.out.a
            clear hb2
            cases rb with
            | false =>
              go_wp2
              go_ret
              exact ⟨ret_b (by rw [RES.out]; rfl), HT2.out.low⟩
            | true =>
              go_wp2
              go_ret
              exact ⟨ret_b (by rw [RES.out]; rfl), HT2.out.low⟩
          · have d5 : decide (5 ≤ xk) = false := decide_eq_false k5
            rw [if_neg k5] at RES
            have hNe : ∀ W, (binOp .neq 28 (.agg #[.string x3, .string x4]) (.agg #[.string emp, .string emp])).run Tryz.prog W = .ok (.bool (!eqRl ⟨x3, x4⟩ noR)) W := fun W => role_neq x3 x4 emp emp W
            generalize eqRl ⟨x3, x4⟩ noR = ern at hNe RES
            by_cases k4 : xk = 4
            · have d4 : (xk == 4) = true := beq_iff_eq.2 k4
              rw [if_pos k4] at RES
              clear k5 k1 k6 k4
              cases ern with
              | false =>
                go_wp2
                go_ret
                exact ⟨ret_b (by rw [RES.out]; rfl), HT.out.low⟩
              | true =>
                go_wp2
                go_ret
                exact ⟨ret_b (by rw [RES.out]; rfl), HT.out.low⟩
            · have d4 : (xk == 4) = false := beq_eq_false_iff_ne.2 k4
              rw [if_neg k4] at RES
              by_cases k3 : xk = 3
              · have d3 : (xk == 3) = true := beq_iff_eq.2 k3
                rw [decide_eq_true k3] at RES
                clear k5 k1 k6 k4 k3
                cases ern with
                | false =>
                  go_wp2
                  go_ret
                  exact ⟨ret_b (by rw [RES.out]; rfl), HT.out.low⟩
                | true =>
                  go_wp2
                  go_ret
                  exact ⟨ret_b (by rw [RES.out]; rfl), HT.out.low⟩
              · have d3 : (xk == 3) = false := beq_eq_false_iff_ne.2 k3
                rw [decide_eq_false k3] at RES
                clear k5 k1 k6 k4 k3
                cases ern with
                | false =>
                  go_wp2
                  go_ret
                  exact ⟨ret_b (by rw [RES.out]; rfl), HT.out.low⟩
                | true =>
                  go_wp2
                  go_ret
                  exact ⟨ret_b (by rw [RES.out]; rfl), HT.out.low⟩
        · have e3 : decide (us.length ≤ 12) = false := decide_eq_false (by omega)
          have e3' : decide ((12 : Int) < (us.length : Int)) = true := decide_eq_true (by omega)
          rw [e1, e2, e3] at RES
          clear HJ
          by_cases k5 : 5 ≤ xk
          · have d5 : decide (5 ≤ xk) = true := decide_eq_true k5
            rw [if_pos k5] at RES
            clear k5 k1 k6
            go_wp2_with fail
            refine (IB.out _).mono ?_
            rintro e w2 ⟨rfl, hb2⟩
            have HT2 := Lib.hid (HT.out.later hb2)
            obtain ⟨ca, fa, za⟩ := HT2.out.a
            clear hb2
            cases rb with
            | false =>
              go_wp2
              go_ret
              exact ⟨ret_b (by rw [RES.out]; rfl), HT2.out.low⟩
            | true =>
              go_wp2
              go_ret
              exact ⟨ret_b (by rw [RES.out]; rfl), HT2.out.low⟩
          · have d5 : decide (5 ≤ xk) = false := decide_eq_false k5
            rw [if_neg k5] at RES
            have hNe : ∀ W, (binOp .neq 28 (.agg #[.string x3, .string x4]) (.agg #[.string emp, .string emp])).run Tryz.prog W = .ok (.bool (!eqRl ⟨x3, x4⟩ noR)) W := fun W => role_neq x3 x4 emp emp W
            generalize eqRl ⟨x3, x4⟩ noR = ern at hNe RES
            by_cases k4 : xk = 4
            · have d4 : (xk == 4) = true := beq_iff_eq.2 k4
              rw [if_pos k4] at RES
              clear k5 k1 k6 k4
              cases ern with
              | false =>
                go_wp2
                go_ret
                exact ⟨ret_b (by rw [RES.out]; rfl), HT.out.low⟩
              | true =>
                go_wp2
                go_ret
                exact ⟨ret_b (by rw [RES.out]; rfl), HT.out.low⟩
            · have d4 : (xk == 4) = false := beq_eq_false_iff_ne.2 k4
              rw [if_neg k4] at RES
              by_cases k3 : xk = 3
              · have d3 : (xk == 3) = true := beq_iff_eq.2 k3
                rw [decide_eq_true k3] at RES
                clear k5 k1 k6 k4 k3
                cases ern with
                | false =>
                  go_wp2
                  go_ret
                  exact ⟨ret_b (by rw [RES.out]; rfl), HT.out.low⟩
                | true =>
                  go_wp2
                  go_ret
                  exact ⟨ret_b (by rw [RES.out]; rfl), HT.out.low⟩
              · have d3 : (xk == 3) = false := beq_eq_false_iff_ne.2 k3
                rw [decide_eq_false k3] at RES
                clear k5 k1 k6 k4 k3
                cases ern with
                | false =>
                  go_wp2
                  go_ret
                  exact ⟨ret_b (by rw [RES.out]; rfl), HT.out.low⟩
                | true =>
                  go_wp2
                  go_ret
                  exact ⟨ret_b (by rw [RES.out]; rfl), HT.out.low⟩
/-- Which policies may be. -/
def RightP (l : List St) (g h : List Rl) (qs : List Qv) (F : Qv → List ByteArray) : Prop := (∀ x ∈ l, rightS x = true) ∧ (∀ x ∈ g ++ h, isRole x = true) ∧ (∀ q ∈ qs, rightQ q (F q) = true) ∧ l = insAll [] l ∧ g = insAllR [] g ∧ h = insAllR [] h ∧ fitsP l g h qs F = true
def RightI (l : List St) (g h : List Rl) (qs : List Qv) (F : Qv → List ByteArray) (e : Ending) : Prop := ∃ b, e = .returned (.bool b) ∧ (b = true ↔ RightP l g h qs F)
theorem rightI_no {l : List St} {g h : List Rl} {qs : List Qv} {F : Qv → List ByteArray} (hn : ¬ RightP l g h qs F) : RightI l g h qs F (.returned (.bool false)) := ⟨false, rfl, ⟨(fun h => by cases h), fun h => absurd h hn⟩⟩
set_option maxRecDepth 100000 in
set_option maxHeartbeats 8000000 in
theorem ref5_RightL (v0 v1 v2 v3 : Value) (l : List St) (g h : List Rl) (qs : List Qv) (w : World) (hp : PolAt w v0 v1 v2 v3 l g h qs) (hl : l.length ≤ 30) (hg : g.length ≤ 30) (hh : h.length ≤ 30) (hq : qs.length ≤ 30) (hl4 : allLe l 40) (F : Qv → List ByteArray) (hF : WhoF w qs F) (hFs : ∀ q ∈ qs, ∀ s ∈ F q, s.size ≤ 9223372036854775807) :
    Calls Tryz.prog 15 #[pv v0 v1 v2 v3] w fun e w' => RightI l g h qs F e ∧ Below w.heap.size w w' := by
  have HP := Lib.hid hp
  have FI := Lib.hid (fun W (hb : Below w.heap.size w W) => ref5_FitsL v0 v1 v2 v3 l g h qs W (hp.below hb) (by omega) (by omega) (by omega) (by omega) F (hF.below hb))
  have S3 := Lib.hid (fun W (hb : Below w.heap.size w W) => ref3_Sort v0 l W (hp.rs.below hb) (by omega))
  have SG := Lib.hid (fun W (hb : Below w.heap.size w W) => sortR_row v1 g W (hp.rg.below hb) (by omega))
  have SH := Lib.hid (fun W (hb : Below w.heap.size w W) => sortR_row v2 h W (hp.rh.below hb) (by omega))
  have RI := Lib.hid (fun k (hk : k < l.length) W => ref3_Right l[k] W ((hl4 _ (List.getElem_mem hk)).mono (by decide)))
  have RQ := Lib.hid (fun k (hk : k < qs.length) W (hb : Below w.heap.size w W) => ref4_RightL qs[k] (F qs[k]) W (hp.lq _ (List.getElem_mem hk)).1 (hp.lq _ (List.getElem_mem hk)).2.1 ((hF _ (List.getElem_mem hk)).1.below hb) (hFs _ (List.getElem_mem hk)))
  obtain ⟨a0, c0, rfl⟩ := hp.rs.form
  obtain ⟨a1, c1, rfl⟩ := hp.rg.form
  obtain ⟨a2, c2, rfl⟩ := hp.rh.form
  obtain ⟨a3, c3, rfl⟩ := hp.rq.form
  have HT := Lib.hid (show OneAt w #[.slice a0 l.length c0, .slice a1 g.length c1, .slice a2 h.length c2, .slice a3 qs.length c3] (w.alloc (.cells #[.slice a0 l.length c0, .slice a1 g.length c1, .slice a2 h.length c2, .slice a3 qs.length c3] 26)) from ⟨Blk.new w _ _, (Below.refl _ _).alloc (Nat.le_refl _) _⟩)
  have HD := Lib.hid (show RightP l g h qs F ↔ (∀ x ∈ l, rightS x = true) ∧ (∀ x ∈ g ++ h, isRole x = true) ∧ (∀ q ∈ qs, rightQ q (F q) = true) ∧ l = insAll [] l ∧ g = insAllR [] g ∧ h = insAllR [] h ∧ fitsP l g h qs F = true from Iff.rfl)
  clear hp hF hFs hl4
  generalize fitsP l g h qs F = ff at FI HD
  go_enter Tryz.func15, Tryz.ntmps15
  go_wp2_with fail
  go_loopw [12] (fun i wr => ∃ k : Nat, k ≤ l.length ∧ i = .int .i64 k ∧ Hid (OneAt w #[.slice a0 l.length c0, .slice a1 g.length c1, .slice a2 h.length c2, .slice a3 qs.length c3] wr) ∧ Hid (∀ j (hj : j < l.length), j < k → rightS l[j] = true)) (fun i _ => l.length - (intOf i).toNat)
  case atStart => exact ⟨0, by omega, rfl, HT, Lib.hid (fun _ _ h => absurd h (by omega))⟩
  case round =>
    clear HT
    obtain ⟨k, hk, rfl, HT, HJ⟩ := hrel
    by_cases hlt : k < l.length
    · obtain ⟨b1, o1, e1, he1, hc1, hm1', hb1, hx1⟩ := HP.out.rs.pos (by omega)
      simp only [Value.slice.injEq, true_and] at he1
      obtain ⟨rfl, rfl⟩ := he1
      obtain ⟨p0, p1, p2, p3, p4, p5, p6, p7, p8⟩ := st_cell (w := wr) (fun j u hu => (HT.out.low.cell (p := ⟨b1, o1 + j, none⟩) hb1).trans (hx1 j u hu)) k hlt
      have hbr : b1 < wr.heap.size := Nat.lt_of_lt_of_le hb1 HT.out.low.size
      have RK := Lib.hid (fun W => RI.out k hlt W)
      have HJ2 : Hid (rightS l[k] = true → ∀ j (hj : j < l.length), j < k + 1 → rightS l[j] = true) := Lib.hid (fun hpk j hj hjk => by
        by_cases h : j < k
        · exact HJ.out j hj h
        · obtain rfl : j = k := by omega
          exact hpk)
      have hek : l[k] = ⟨l[k].k, ⟨l[k].h.o, l[k].h.n⟩, l[k].who, ⟨l[k].a.o, l[k].a.n⟩, ⟨l[k].b.o, l[k].b.n⟩, l[k].via⟩ := rfl
      have HN1 : Hid (rightS l[k] = false → ¬ RightP l g h qs F) := Lib.hid (fun hf hr => by rw [(HD.out.1 hr).1 _ (List.getElem_mem hlt)] at hf; cases hf)
      clear hx1
      generalize rightS l[k] = rr at RK HJ2 HN1
      generalize l[k] = x at *
      obtain ⟨xk, ⟨x1, x2⟩, xw, ⟨x3, x4⟩, ⟨x5, x6⟩, xv⟩ := x
      clear hek
      have HT1 := Lib.hid (HT.out.alloc (.cells #[.int .i64 xk, .string x1, .string x2, .string xw, .string x3, .string x4, .string x5, .string x6, .string xv] 35))
      go_wp2_with fail
      refine (RK.out _).mono ?_
      rintro e w2 ⟨rfl, hb2⟩
      have HT2 := Lib.hid (HT1.out.later hb2)
      clear hb2
      cases rr with
      | false =>
        go_wp2
        go_ret
        exact ⟨rightI_no (HN1.out (by first | rfl | trivial)), HT2.out.low⟩
      | true =>
        have HJ3 := Lib.hid (HJ2.out (by first | rfl | trivial))
        go_wp2
        exact ⟨⟨k + 1, by omega, by go_num, HT2, HJ3⟩, by simp [intOf]; omega⟩
    · have HALL := Lib.hid (show ∀ x ∈ l, rightS x = true from fun x hx => by
        obtain ⟨j, hj, rfl⟩ := List.getElem_of_mem hx
        exact HJ.out j hj (by omega))
      clear HJ
      obtain ⟨inf, hi, hz0, hz1, hz2⟩ := info_parts rl_info'
      have HINF := Lib.hid hi
      have T2 := HT.out.drew
      have hown : (wr.drew.alloc (.cells #[] 28)).ownsRow wr.heap.size 28 2 (.slice (some ⟨wr.heap.size, 0, none⟩) 0 0) 0 [] := World.ownsRow_made wr.drew #[] 0 (Nat.le_refl _) (Nat.zero_le _) (by simp)
      have hlow : Below wr.heap.size wr (wr.drew.alloc (.cells #[] 28)) := (below_drew (Below.refl _ _)).alloc (Nat.le_refl _) _
      have T4 := HT.out.later hlow
      obtain ⟨ca, fa, za⟩ := HT.out.a
      have hza : w.heap.size < wr.heap.size := za
      clear hi fa za
      go_wp2_with fail
      go_region_held3 (fun W => ∀ o, W.cell? ⟨w.heap.size, o, none⟩ = (#[.slice a0 l.length c0, .slice a1 g.length c1, .slice a2 h.length c2, .slice a3 qs.length c3] : Array Value)[o]?)
        (first | exact T2.a.1 | exact T4.a.1 | exact T5.a.1 | exact T6.a.1 | go_keep)
        (first
          | (refine step_row rfl _ _ 23 rfl wr.heap.size 28 inf _ 2 32 Tryz.underlying23 HINF.out hz0 hz1 hz2 (Nat.le_of_ble_eq_true rfl) rfl (Nat.le_of_ble_eq_true rfl) _ 0 [] rfl hown _ g.length _ rfl (HP.out.rg.below T4.low) (rls_one _) ?_ hlow.size ?_; omega; intro a5 c5 w5 hown5 hg5; have hb5 := below_own hlow hown hg5 hlow.size (Nat.le_refl _); have T5 := HT.out.later hb5; obtain ⟨n5, hn5⟩ : ∃ n5, n5 = 0 + g.length := ⟨_, rfl⟩; rw [← hn5] at hown5 ⊢; have hn5m : n5 ≤ 30 := (by omega); have HN5 := Lib.hid hn5; clear hn5)
          | (refine step_row rfl _ _ 23 rfl wr.heap.size 28 inf _ 2 32 Tryz.underlying23 HINF.out hz0 hz1 hz2 (Nat.le_of_ble_eq_true rfl) rfl (Nat.le_of_ble_eq_true rfl) _ n5 _ rfl hown5 _ h.length _ rfl (HP.out.rh.below T5.low) (rls_one _) ?_ hb5.size ?_; omega; intro a6 c6 w6 hown6 hg6; have hb6 := below_own hb5 hown5 hg6 hb5.size (Nat.le_refl _); have T6 := HT.out.later hb6; obtain ⟨n6, hn6⟩ : ∃ n6, n6 = n5 + h.length := ⟨_, rfl⟩; rw [← hn6] at hown6 ⊢; have HN6 := Lib.hid hn6; clear hn6))
      have HS6 := Lib.hid (show Sl w6 2 (.slice a6 n6 c6) n6 ((g ++ h).flatMap Rl.cells) by have := Sl.of_own hown6; rw [rl_flat]; simpa using this)
      have HLe := Lib.hid (show ∀ x ∈ g ++ h, x.le 9223372036854775807 from fun x hx => by
        rcases List.mem_append.1 hx with hx | hx
        · exact HP.out.lg x hx
        · exact HP.out.lh x hx)
      have HN := Lib.hid (show n6 = (g ++ h).length by rw [HN6.out, HN5.out, List.length_append]; omega)
      have HT6 := Lib.hid T6
      have hn6m : n6 ≤ 1000 := by have := HN6.out; omega
      clear hn5m
      have HD := Lib.hid (show RightP l g h qs F ↔ (∀ x ∈ g ++ h, isRole x = true) ∧ (∀ q ∈ qs, rightQ q (F q) = true) ∧ l = insAll [] l ∧ g = insAllR [] g ∧ h = insAllR [] h ∧ ff = true from HD.out.trans ⟨fun h => h.2, fun h => ⟨HALL.out, h⟩⟩)
      generalize g ++ h = gh at HS6 HLe HN HD
      clear hown5 hown6 hg5 hg6 hb5 hb6 T2 T4 T5 T6 hlow hown ca hza HT HN6 HN5 hlt hk
      go_wp2_with fail
      go_loopw [28] (fun i wr => ∃ k : Nat, k ≤ n6 ∧ i = .int .i64 k ∧ Hid (OneAt w #[.slice a0 l.length c0, .slice a1 g.length c1, .slice a2 h.length c2, .slice a3 qs.length c3] wr) ∧ Hid (Below w6.heap.size w6 wr) ∧ Hid (∀ j (hj : j < gh.length), j < k → isRole gh[j] = true)) (fun i _ => n6 - (intOf i).toNat)
      case atStart => exact ⟨0, by omega, rfl, HT6, Lib.hid (Below.refl _ _), Lib.hid (fun _ _ h => absurd h (by omega))⟩
      case round =>
        clear HT6
        obtain ⟨k, hk, rfl, HT, HB, HJ⟩ := hrel
        by_cases hlt : k < n6
        · obtain ⟨b1, o1, e1, he1, hc1, hm1', hb1, hx1⟩ := HS6.out.pos (by omega)
          simp only [Value.slice.injEq, true_and] at he1
          obtain ⟨rfl, rfl⟩ := he1
          have hlt2 : k < gh.length := by have := HN.out; omega
          obtain ⟨p0, p1⟩ := rl_cell (w := wr) (fun j u hu => (HB.out.cell (p := ⟨b1, o1 + j, none⟩) hb1).trans (hx1 j u hu)) k hlt2
          have hbr : b1 < wr.heap.size := Nat.lt_of_lt_of_le hb1 HB.out.size
          have IR := Lib.hid (fun W => ref3_IsRoleM gh[k] W (HLe.out _ (List.getElem_mem hlt2)))
          clear hx1
          have HJ2 : Hid (isRole gh[k] = true → ∀ j (hj : j < gh.length), j < k + 1 → isRole gh[j] = true) := Lib.hid (fun hpk j hj hjk => by
            by_cases h : j < k
            · exact HJ.out j hj h
            · obtain rfl : j = k := by omega
              exact hpk)
          have HN1 : Hid (isRole gh[k] = false → ¬ RightP l g h qs F) := Lib.hid (fun hf hr => by rw [(HD.out.1 hr).1 _ (List.getElem_mem hlt2)] at hf; cases hf)
          generalize isRole gh[k] = ri at IR HJ2 HN1
          generalize gh[k] = x at *
          obtain ⟨x1, x2⟩ := x
          have HT2 := Lib.hid (HT.out.alloc (.cells #[.string x1, .string x2] 28))
          have HB2 := Lib.hid (HB.out.alloc HB.out.size (.cells #[.string x1, .string x2] 28))
          go_wp2_with fail
          refine (IR.out _).mono ?_
          rintro e w7 ⟨rfl, hb7⟩
          have HT3 := Lib.hid (HT2.out.later hb7)
          have HB3 := Lib.hid (HB2.out.trans (hb7.mono HB2.out.size))
          clear hb7
          cases ri with
          | false =>
            go_wp2
            go_ret
            exact ⟨rightI_no (HN1.out (by first | rfl | trivial)), HT3.out.low⟩
          | true =>
            have HJ3 := Lib.hid (HJ2.out (by first | rfl | trivial))
            go_wp2
            exact ⟨⟨k + 1, by omega, by go_num, HT3, HB3, HJ3⟩, by simp [intOf]; omega⟩
        · obtain ⟨ca, fa, za⟩ := HT.out.a
          have HALL2 := Lib.hid (show ∀ x ∈ gh, isRole x = true from fun x hx => by
            obtain ⟨j, hj, rfl⟩ := List.getElem_of_mem hx
            exact HJ.out j hj (by have := HN.out; omega))
          have HD := Lib.hid (show RightP l g h qs F ↔ (∀ q ∈ qs, rightQ q (F q) = true) ∧ l = insAll [] l ∧ g = insAllR [] g ∧ h = insAllR [] h ∧ ff = true from HD.out.trans ⟨fun h => h.2, fun h => ⟨HALL2.out, h⟩⟩)
          clear HS6 HLe HN HB HJ HALL2
          go_wp2_with fail
          clear ca fa za
          go_loopw [39] (fun i wr => ∃ k : Nat, k ≤ qs.length ∧ i = .int .i64 k ∧ Hid (OneAt w #[.slice a0 l.length c0, .slice a1 g.length c1, .slice a2 h.length c2, .slice a3 qs.length c3] wr) ∧ Hid (∀ j (hj : j < qs.length), j < k → rightQ qs[j] (F qs[j]) = true)) (fun i _ => qs.length - (intOf i).toNat)
          case atStart => exact ⟨0, by omega, rfl, HT, Lib.hid (fun _ _ h => absurd h (by omega))⟩
          case round =>
            clear HT
            obtain ⟨k, hk, rfl, HT, HJ⟩ := hrel
            by_cases hlt : k < qs.length
            · obtain ⟨b1, o1, e1, he1, hc1, hm1', hb1, hx1⟩ := HP.out.rq.pos (by omega)
              simp only [Value.slice.injEq, true_and] at he1
              obtain ⟨rfl, rfl⟩ := he1
              obtain ⟨p0, p1, p2, p3, p4, p5⟩ := q_cell (w := wr) (fun j u hu => (HT.out.low.cell (p := ⟨b1, o1 + j, none⟩) hb1).trans (hx1 j u hu)) k hlt
              have hbr : b1 < wr.heap.size := Nat.lt_of_lt_of_le hb1 HT.out.low.size
              have hqo := HP.out.lq _ (List.getElem_mem hlt)
              have QR := Lib.hid (fun W hb => RQ.out k hlt W hb)
              have HJ2 : Hid (rightQ qs[k] (F qs[k]) = true → ∀ j (hj : j < qs.length), j < k + 1 → rightQ qs[j] (F qs[j]) = true) := Lib.hid (fun hpk j hj hjk => by
                by_cases h : j < k
                · exact HJ.out j hj h
                · obtain rfl : j = k := by omega
                  exact hpk)
              have HN1 : Hid (rightQ qs[k] (F qs[k]) = false → ¬ RightP l g h qs F) := Lib.hid (fun hf hr => by rw [(HD.out.1 hr).1 _ (List.getElem_mem hlt)] at hf; cases hf)
              generalize rightQ qs[k] (F qs[k]) = rq at QR HJ2 HN1
              obtain ⟨wo, wc, hw5⟩ : ∃ a c, qs[k].w = .slice a ((hqo.2.2).choose).length c := ((hqo.2.2).choose_spec.1).form
              generalize (hqo.2.2).choose.length = nw at hw5
              clear hx1 hqo
              generalize qs[k] = x at *
              obtain ⟨xk, ⟨x1, x2⟩, ⟨x3, x4⟩, xw⟩ := x
              dsimp only at hw5
              subst hw5
              have HT1 := Lib.hid (HT.out.alloc (.cells #[.int .i64 xk, .string x1, .string x2, .string x3, .string x4, .slice wo nw wc] 71))
              go_wp2_with fail
              refine (QR.out _ HT1.out.low).mono ?_
              rintro e w7 ⟨rfl, hb7⟩
              have HT3 := Lib.hid (HT1.out.later hb7)
              clear hb7
              cases rq with
              | false =>
                go_wp2
                go_ret
                exact ⟨rightI_no (HN1.out (by first | rfl | trivial)), HT3.out.low⟩
              | true =>
                have HJ3 := Lib.hid (HJ2.out (by first | rfl | trivial))
                go_wp2
                exact ⟨⟨k + 1, by omega, by go_num, HT3, HJ3⟩, by simp [intOf]; omega⟩
            · have M1 := Lib.hid (fun v W (hb : Below w.heap.size w W) (hv : Sl W 9 v (insAll [] l).length ((insAll [] l).flatMap St.cells)) => ref3_SameB (.slice a0 l.length c0) v l (insAll [] l) W (HP.out.rs.below hb) hv.a)
              have M2 := Lib.hid (fun v W (hb : Below w.heap.size w W) (hv : Sl W 2 v (insAllR [] g).length ((insAllR [] g).flatMap Rl.cells)) => ref3_SameRolesE (.slice a1 g.length c1) v g (insAllR [] g) W (HP.out.rg.below hb) hv.a)
              have M3 := Lib.hid (fun v W (hb : Below w.heap.size w W) (hv : Sl W 2 v (insAllR [] h).length ((insAllR [] h).flatMap Rl.cells)) => ref3_SameRolesE (.slice a2 h.length c2) v h (insAllR [] h) W (HP.out.rh.below hb) hv.a)
              have HALL3 := Lib.hid (show ∀ q ∈ qs, rightQ q (F q) = true from fun x hx => by
                obtain ⟨j, hj, rfl⟩ := List.getElem_of_mem hx
                exact HJ.out j hj (by omega))
              have HD := Lib.hid (show RightP l g h qs F ↔ decide (l = insAll [] l) = true ∧ decide (g = insAllR [] g) = true ∧ decide (h = insAllR [] h) = true ∧ ff = true from HD.out.trans ⟨fun h => by simpa only [decide_eq_true_iff] using h.2, fun h => ⟨HALL3.out, by simpa only [decide_eq_true_iff] using h⟩⟩)
              clear HJ HALL3
              generalize decide (l = insAll [] l) = r1 at M1 HD
              generalize decide (g = insAllR [] g) = r2 at M2 HD
              generalize decide (h = insAllR [] h) = r3 at M3 HD
              have HT := HT.out
              go_wp2_with fail
              refine wp_region_held_drew (S := (fun W => ∀ o, W.cell? ⟨w.heap.size, o, none⟩ = (#[.slice a0 l.length c0, .slice a1 g.length c1, .slice a2 h.length c2, .slice a3 qs.length c3] : Array Value)[o]?)) (by kernel_rfl) HT.drew.a.1 (fun hHeld => ?_)
              have HT := HT.drew
              (refine held_yes (v := ?_) 0 rfl (by kernel_rfl) (by kernel_rfl) (by kernel_rfl) (fun _ _ _ h => h) (by rfl) (by assumption) ?_ ?_; rotate_left; (focus ((intro w hSw); (try dsimp only at hSw); go_simp; (try with_reducible rfl))); (try simp only [Act.put, List.setIfInBounds_toArray, List.set_cons_zero, List.set_cons_succ])); (refine held_yes (v := ?_) 1 rfl (by kernel_rfl) (by kernel_rfl) (by kernel_rfl) (fun _ _ _ h => h) (by rfl) (by assumption) ?_ ?_; rotate_left; (focus ((intro w hSw); (try dsimp only at hSw); go_simp; (try with_reducible rfl))); (try simp only [Act.put, List.setIfInBounds_toArray, List.set_cons_zero, List.set_cons_succ])); (refine held_yes (v := ?_) 2 rfl (by kernel_rfl) (by kernel_rfl) (by kernel_rfl) (fun _ _ _ h => h) (by rfl) (by assumption) ?_ ?_; rotate_left; (focus ((intro w hSw); (try dsimp only at hSw); go_simp; (try with_reducible rfl))); (try simp only [Act.put, List.setIfInBounds_toArray, List.set_cons_zero, List.set_cons_succ])); (refine held_yes (v := ?_) 3 rfl (by kernel_rfl) (by kernel_rfl) (by kernel_rfl) (fun _ _ _ h => h) (by rfl) (by assumption) ?_ ?_; rotate_left; (focus ((intro w hSw); (try dsimp only at hSw); go_simp; (try with_reducible rfl))); (try simp only [Act.put, List.setIfInBounds_toArray, List.set_cons_zero, List.set_cons_succ]))
              (refine held_call 4 rfl (by kernel_rfl) (fun K hK => ?_); go_simp)
              go_at_call 76; refine (S3.out _ HT.low).mono ?_; rintro e wq ⟨y1, rfl, hy1, hbq⟩; have HT := HT.later hbq; have cq := HT.a.1; have HY1 := Lib.hid hy1
              (refine hK.out _ _ (HT.a.1) (fun hHeld => ?_); clear hK K; (try simp only [Act.put, List.setIfInBounds_toArray, List.set_cons_zero, List.set_cons_succ]))
              (refine held_call 5 rfl (by kernel_rfl) (fun K hK => ?_); go_simp)
              go_at_call 30; refine (M1.out _ _ HT.low HY1.out).mono ?_; rintro e wq ⟨rfl, hbq⟩; have HT := HT.later hbq; have cq := HT.a.1
              (refine hK.out _ _ (HT.a.1) (fun hHeld => ?_); clear hK K; (try simp only [Act.put, List.setIfInBounds_toArray, List.set_cons_zero, List.set_cons_succ]))
              (refine held_yes (v := ?_) 6 rfl (by kernel_rfl) (by kernel_rfl) (by kernel_rfl) (fun _ _ _ h => h) (by rfl) (by assumption) ?_ ?_; rotate_left; (focus ((intro w hSw); (try dsimp only at hSw); go_simp; (try with_reducible rfl))); (try simp only [Act.put, List.setIfInBounds_toArray, List.set_cons_zero, List.set_cons_succ]))
              cases r1 with
              | false =>
                (refine held_no 7 rfl (by kernel_rfl) (by kernel_rfl) (by kernel_rfl) (fun _ _ _ h => h) (by rfl) (by assumption) ?_; (try simp only [Act.put, List.setIfInBounds_toArray, List.set_cons_zero, List.set_cons_succ])); (refine held_no 8 rfl (by kernel_rfl) (by kernel_rfl) (by kernel_rfl) (fun _ _ _ h => h) (by rfl) (by assumption) ?_; (try simp only [Act.put, List.setIfInBounds_toArray, List.set_cons_zero, List.set_cons_succ])); (refine held_no 9 rfl (by kernel_rfl) (by kernel_rfl) (by kernel_rfl) (fun _ _ _ h => h) (by rfl) (by assumption) ?_; (try simp only [Act.put, List.setIfInBounds_toArray, List.set_cons_zero, List.set_cons_succ])); (refine held_no 10 rfl (by kernel_rfl) (by kernel_rfl) (by kernel_rfl) (fun _ _ _ h => h) (by rfl) (by assumption) ?_; (try simp only [Act.put, List.setIfInBounds_toArray, List.set_cons_zero, List.set_cons_succ])); (refine held_no 11 rfl (by kernel_rfl) (by kernel_rfl) (by kernel_rfl) (fun _ _ _ h => h) (by rfl) (by assumption) ?_; (try simp only [Act.put, List.setIfInBounds_toArray, List.set_cons_zero, List.set_cons_succ])); (refine held_no 12 rfl (by kernel_rfl) (by kernel_rfl) (by kernel_rfl) (fun _ _ _ h => h) (by rfl) (by assumption) ?_; (try simp only [Act.put, List.setIfInBounds_toArray, List.set_cons_zero, List.set_cons_succ]))
                (refine held_yes (v := ?_) 13 rfl (by kernel_rfl) (by kernel_rfl) (by kernel_rfl) (fun _ _ _ h => h) (by rfl) (by assumption) ?_ ?_; rotate_left; (focus ((intro w hSw); (try dsimp only at hSw); go_simp; (try with_reducible rfl))); (try simp only [Act.put, List.setIfInBounds_toArray, List.set_cons_zero, List.set_cons_succ])); (refine held_yes (v := ?_) 14 rfl (by kernel_rfl) (by kernel_rfl) (by kernel_rfl) (fun _ _ _ h => h) (by rfl) (by assumption) ?_ ?_; rotate_left; (focus ((intro w hSw); (try dsimp only at hSw); go_simp; (try with_reducible rfl))); (try simp only [Act.put, List.setIfInBounds_toArray, List.set_cons_zero, List.set_cons_succ]))
                (refine held_no 15 rfl (by kernel_rfl) (by kernel_rfl) (by kernel_rfl) (fun _ _ _ h => h) (by rfl) (by assumption) ?_; (try simp only [Act.put, List.setIfInBounds_toArray, List.set_cons_zero, List.set_cons_succ])); (refine held_no 16 rfl (by kernel_rfl) (by kernel_rfl) (by kernel_rfl) (fun _ _ _ h => h) (by rfl) (by assumption) ?_; (try simp only [Act.put, List.setIfInBounds_toArray, List.set_cons_zero, List.set_cons_succ])); (refine held_no 17 rfl (by kernel_rfl) (by kernel_rfl) (by kernel_rfl) (fun _ _ _ h => h) (by rfl) (by assumption) ?_; (try simp only [Act.put, List.setIfInBounds_toArray, List.set_cons_zero, List.set_cons_succ])); (refine held_no 18 rfl (by kernel_rfl) (by kernel_rfl) (by kernel_rfl) (fun _ _ _ h => h) (by rfl) (by assumption) ?_; (try simp only [Act.put, List.setIfInBounds_toArray, List.set_cons_zero, List.set_cons_succ])); (refine held_no 19 rfl (by kernel_rfl) (by kernel_rfl) (by kernel_rfl) (fun _ _ _ h => h) (by rfl) (by assumption) ?_; (try simp only [Act.put, List.setIfInBounds_toArray, List.set_cons_zero, List.set_cons_succ])); (refine held_no 20 rfl (by kernel_rfl) (by kernel_rfl) (by kernel_rfl) (fun _ _ _ h => h) (by rfl) (by assumption) ?_; (try simp only [Act.put, List.setIfInBounds_toArray, List.set_cons_zero, List.set_cons_succ]))
                (refine held_yes (v := ?_) 21 rfl (by kernel_rfl) (by kernel_rfl) (by kernel_rfl) (fun _ _ _ h => h) (by rfl) (by assumption) ?_ ?_; rotate_left; (focus ((intro w hSw); (try dsimp only at hSw); go_simp; (try with_reducible rfl))); (try simp only [Act.put, List.setIfInBounds_toArray, List.set_cons_zero, List.set_cons_succ])); (refine held_yes (v := ?_) 22 rfl (by kernel_rfl) (by kernel_rfl) (by kernel_rfl) (fun _ _ _ h => h) (by rfl) (by assumption) ?_ ?_; rotate_left; (focus ((intro w hSw); (try dsimp only at hSw); go_simp; (try with_reducible rfl))); (try simp only [Act.put, List.setIfInBounds_toArray, List.set_cons_zero, List.set_cons_succ]))
                (refine held_no 23 rfl (by kernel_rfl) (by kernel_rfl) (by kernel_rfl) (fun _ _ _ h => h) (by rfl) (by assumption) ?_; (try simp only [Act.put, List.setIfInBounds_toArray, List.set_cons_zero, List.set_cons_succ])); (refine held_no 24 rfl (by kernel_rfl) (by kernel_rfl) (by kernel_rfl) (fun _ _ _ h => h) (by rfl) (by assumption) ?_; (try simp only [Act.put, List.setIfInBounds_toArray, List.set_cons_zero, List.set_cons_succ]))
                (refine held_yes (v := ?_) 25 rfl (by kernel_rfl) (by kernel_rfl) (by kernel_rfl) (fun _ _ _ h => h) (by rfl) (by assumption) ?_ ?_; rotate_left; (focus ((intro w hSw); (try dsimp only at hSw); go_simp; (try with_reducible rfl))); (try simp only [Act.put, List.setIfInBounds_toArray, List.set_cons_zero, List.set_cons_succ])); (refine held_yes (v := ?_) 26 rfl (by kernel_rfl) (by kernel_rfl) (by kernel_rfl) (fun _ _ _ h => h) (by rfl) (by assumption) ?_ ?_; rotate_left; (focus ((intro w hSw); (try dsimp only at hSw); go_simp; (try with_reducible rfl))); (try simp only [Act.put, List.setIfInBounds_toArray, List.set_cons_zero, List.set_cons_succ]))
                refine wpAnyH_done (by kernel_rfl) ?_ _
                go_wp2
                go_ret
                exact ⟨rightI_no (fun hr => by have := HD.out.1 hr; simp at this), HT.low⟩
              | true =>
                (refine held_yes (v := ?_) 7 rfl (by kernel_rfl) (by kernel_rfl) (by kernel_rfl) (fun _ _ _ h => h) (by rfl) (by assumption) ?_ ?_; rotate_left; (focus ((intro w hSw); (try dsimp only at hSw); go_simp; (try with_reducible rfl))); (try simp only [Act.put, List.setIfInBounds_toArray, List.set_cons_zero, List.set_cons_succ])); (refine held_yes (v := ?_) 8 rfl (by kernel_rfl) (by kernel_rfl) (by kernel_rfl) (fun _ _ _ h => h) (by rfl) (by assumption) ?_ ?_; rotate_left; (focus ((intro w hSw); (try dsimp only at hSw); go_simp; (try with_reducible rfl))); (try simp only [Act.put, List.setIfInBounds_toArray, List.set_cons_zero, List.set_cons_succ])); (refine held_yes (v := ?_) 9 rfl (by kernel_rfl) (by kernel_rfl) (by kernel_rfl) (fun _ _ _ h => h) (by rfl) (by assumption) ?_ ?_; rotate_left; (focus ((intro w hSw); (try dsimp only at hSw); go_simp; (try with_reducible rfl))); (try simp only [Act.put, List.setIfInBounds_toArray, List.set_cons_zero, List.set_cons_succ])); (refine held_yes (v := ?_) 10 rfl (by kernel_rfl) (by kernel_rfl) (by kernel_rfl) (fun _ _ _ h => h) (by rfl) (by assumption) ?_ ?_; rotate_left; (focus ((intro w hSw); (try dsimp only at hSw); go_simp; (try with_reducible rfl))); (try simp only [Act.put, List.setIfInBounds_toArray, List.set_cons_zero, List.set_cons_succ]))
                (refine held_call 11 rfl (by kernel_rfl) (fun K hK => ?_); go_simp)
                go_at_call 49; refine (SG.out _ HT.low).mono ?_; rintro e wq ⟨y2, rfl, hy2, hbq⟩; have HT := HT.later hbq; have cq := HT.a.1; have HY2 := Lib.hid hy2
                (refine hK.out _ _ (HT.a.1) (fun hHeld => ?_); clear hK K; (try simp only [Act.put, List.setIfInBounds_toArray, List.set_cons_zero, List.set_cons_succ]))
                (refine held_call 12 rfl (by kernel_rfl) (fun K hK => ?_); go_simp)
                go_at_call 42; refine (M2.out _ _ HT.low HY2.out).mono ?_; rintro e wq ⟨rfl, hbq⟩; have HT := HT.later hbq; have cq := HT.a.1
                (refine hK.out _ _ (HT.a.1) (fun hHeld => ?_); clear hK K; (try simp only [Act.put, List.setIfInBounds_toArray, List.set_cons_zero, List.set_cons_succ]))
                (refine held_yes (v := ?_) 13 rfl (by kernel_rfl) (by kernel_rfl) (by kernel_rfl) (fun _ _ _ h => h) (by rfl) (by assumption) ?_ ?_; rotate_left; (focus ((intro w hSw); (try dsimp only at hSw); go_simp; (try with_reducible rfl))); (try simp only [Act.put, List.setIfInBounds_toArray, List.set_cons_zero, List.set_cons_succ])); (refine held_yes (v := ?_) 14 rfl (by kernel_rfl) (by kernel_rfl) (by kernel_rfl) (fun _ _ _ h => h) (by rfl) (by assumption) ?_ ?_; rotate_left; (focus ((intro w hSw); (try dsimp only at hSw); go_simp; (try with_reducible rfl))); (try simp only [Act.put, List.setIfInBounds_toArray, List.set_cons_zero, List.set_cons_succ]))
                cases r2 with
                | false =>
                  (refine held_no 15 rfl (by kernel_rfl) (by kernel_rfl) (by kernel_rfl) (fun _ _ _ h => h) (by rfl) (by assumption) ?_; (try simp only [Act.put, List.setIfInBounds_toArray, List.set_cons_zero, List.set_cons_succ])); (refine held_no 16 rfl (by kernel_rfl) (by kernel_rfl) (by kernel_rfl) (fun _ _ _ h => h) (by rfl) (by assumption) ?_; (try simp only [Act.put, List.setIfInBounds_toArray, List.set_cons_zero, List.set_cons_succ])); (refine held_no 17 rfl (by kernel_rfl) (by kernel_rfl) (by kernel_rfl) (fun _ _ _ h => h) (by rfl) (by assumption) ?_; (try simp only [Act.put, List.setIfInBounds_toArray, List.set_cons_zero, List.set_cons_succ])); (refine held_no 18 rfl (by kernel_rfl) (by kernel_rfl) (by kernel_rfl) (fun _ _ _ h => h) (by rfl) (by assumption) ?_; (try simp only [Act.put, List.setIfInBounds_toArray, List.set_cons_zero, List.set_cons_succ])); (refine held_no 19 rfl (by kernel_rfl) (by kernel_rfl) (by kernel_rfl) (fun _ _ _ h => h) (by rfl) (by assumption) ?_; (try simp only [Act.put, List.setIfInBounds_toArray, List.set_cons_zero, List.set_cons_succ])); (refine held_no 20 rfl (by kernel_rfl) (by kernel_rfl) (by kernel_rfl) (fun _ _ _ h => h) (by rfl) (by assumption) ?_; (try simp only [Act.put, List.setIfInBounds_toArray, List.set_cons_zero, List.set_cons_succ]))
                  (refine held_yes (v := ?_) 21 rfl (by kernel_rfl) (by kernel_rfl) (by kernel_rfl) (fun _ _ _ h => h) (by rfl) (by assumption) ?_ ?_; rotate_left; (focus ((intro w hSw); (try dsimp only at hSw); go_simp; (try with_reducible rfl))); (try simp only [Act.put, List.setIfInBounds_toArray, List.set_cons_zero, List.set_cons_succ])); (refine held_yes (v := ?_) 22 rfl (by kernel_rfl) (by kernel_rfl) (by kernel_rfl) (fun _ _ _ h => h) (by rfl) (by assumption) ?_ ?_; rotate_left; (focus ((intro w hSw); (try dsimp only at hSw); go_simp; (try with_reducible rfl))); (try simp only [Act.put, List.setIfInBounds_toArray, List.set_cons_zero, List.set_cons_succ]))
                  (refine held_no 23 rfl (by kernel_rfl) (by kernel_rfl) (by kernel_rfl) (fun _ _ _ h => h) (by rfl) (by assumption) ?_; (try simp only [Act.put, List.setIfInBounds_toArray, List.set_cons_zero, List.set_cons_succ])); (refine held_no 24 rfl (by kernel_rfl) (by kernel_rfl) (by kernel_rfl) (fun _ _ _ h => h) (by rfl) (by assumption) ?_; (try simp only [Act.put, List.setIfInBounds_toArray, List.set_cons_zero, List.set_cons_succ]))
                  (refine held_yes (v := ?_) 25 rfl (by kernel_rfl) (by kernel_rfl) (by kernel_rfl) (fun _ _ _ h => h) (by rfl) (by assumption) ?_ ?_; rotate_left; (focus ((intro w hSw); (try dsimp only at hSw); go_simp; (try with_reducible rfl))); (try simp only [Act.put, List.setIfInBounds_toArray, List.set_cons_zero, List.set_cons_succ])); (refine held_yes (v := ?_) 26 rfl (by kernel_rfl) (by kernel_rfl) (by kernel_rfl) (fun _ _ _ h => h) (by rfl) (by assumption) ?_ ?_; rotate_left; (focus ((intro w hSw); (try dsimp only at hSw); go_simp; (try with_reducible rfl))); (try simp only [Act.put, List.setIfInBounds_toArray, List.set_cons_zero, List.set_cons_succ]))
                  refine wpAnyH_done (by kernel_rfl) ?_ _
                  go_wp2
                  go_ret
                  exact ⟨rightI_no (fun hr => by have := HD.out.1 hr; simp at this), HT.low⟩
                | true =>
                  (refine held_yes (v := ?_) 15 rfl (by kernel_rfl) (by kernel_rfl) (by kernel_rfl) (fun _ _ _ h => h) (by rfl) (by assumption) ?_ ?_; rotate_left; (focus ((intro w hSw); (try dsimp only at hSw); go_simp; (try with_reducible rfl))); (try simp only [Act.put, List.setIfInBounds_toArray, List.set_cons_zero, List.set_cons_succ])); (refine held_yes (v := ?_) 16 rfl (by kernel_rfl) (by kernel_rfl) (by kernel_rfl) (fun _ _ _ h => h) (by rfl) (by assumption) ?_ ?_; rotate_left; (focus ((intro w hSw); (try dsimp only at hSw); go_simp; (try with_reducible rfl))); (try simp only [Act.put, List.setIfInBounds_toArray, List.set_cons_zero, List.set_cons_succ])); (refine held_yes (v := ?_) 17 rfl (by kernel_rfl) (by kernel_rfl) (by kernel_rfl) (fun _ _ _ h => h) (by rfl) (by assumption) ?_ ?_; rotate_left; (focus ((intro w hSw); (try dsimp only at hSw); go_simp; (try with_reducible rfl))); (try simp only [Act.put, List.setIfInBounds_toArray, List.set_cons_zero, List.set_cons_succ])); (refine held_yes (v := ?_) 18 rfl (by kernel_rfl) (by kernel_rfl) (by kernel_rfl) (fun _ _ _ h => h) (by rfl) (by assumption) ?_ ?_; rotate_left; (focus ((intro w hSw); (try dsimp only at hSw); go_simp; (try with_reducible rfl))); (try simp only [Act.put, List.setIfInBounds_toArray, List.set_cons_zero, List.set_cons_succ]))
                  (refine held_call 19 rfl (by kernel_rfl) (fun K hK => ?_); go_simp)
                  go_at_call 49; refine (SH.out _ HT.low).mono ?_; rintro e wq ⟨y3, rfl, hy3, hbq⟩; have HT := HT.later hbq; have cq := HT.a.1; have HY3 := Lib.hid hy3
                  (refine hK.out _ _ (HT.a.1) (fun hHeld => ?_); clear hK K; (try simp only [Act.put, List.setIfInBounds_toArray, List.set_cons_zero, List.set_cons_succ]))
                  (refine held_call 20 rfl (by kernel_rfl) (fun K hK => ?_); go_simp)
                  go_at_call 42; refine (M3.out _ _ HT.low HY3.out).mono ?_; rintro e wq ⟨rfl, hbq⟩; have HT := HT.later hbq; have cq := HT.a.1
                  (refine hK.out _ _ (HT.a.1) (fun hHeld => ?_); clear hK K; (try simp only [Act.put, List.setIfInBounds_toArray, List.set_cons_zero, List.set_cons_succ]))
                  (refine held_yes (v := ?_) 21 rfl (by kernel_rfl) (by kernel_rfl) (by kernel_rfl) (fun _ _ _ h => h) (by rfl) (by assumption) ?_ ?_; rotate_left; (focus ((intro w hSw); (try dsimp only at hSw); go_simp; (try with_reducible rfl))); (try simp only [Act.put, List.setIfInBounds_toArray, List.set_cons_zero, List.set_cons_succ])); (refine held_yes (v := ?_) 22 rfl (by kernel_rfl) (by kernel_rfl) (by kernel_rfl) (fun _ _ _ h => h) (by rfl) (by assumption) ?_ ?_; rotate_left; (focus ((intro w hSw); (try dsimp only at hSw); go_simp; (try with_reducible rfl))); (try simp only [Act.put, List.setIfInBounds_toArray, List.set_cons_zero, List.set_cons_succ]))
                  cases r3 with
                  | false =>
                    (refine held_no 23 rfl (by kernel_rfl) (by kernel_rfl) (by kernel_rfl) (fun _ _ _ h => h) (by rfl) (by assumption) ?_; (try simp only [Act.put, List.setIfInBounds_toArray, List.set_cons_zero, List.set_cons_succ])); (refine held_no 24 rfl (by kernel_rfl) (by kernel_rfl) (by kernel_rfl) (fun _ _ _ h => h) (by rfl) (by assumption) ?_; (try simp only [Act.put, List.setIfInBounds_toArray, List.set_cons_zero, List.set_cons_succ]))
                    (refine held_yes (v := ?_) 25 rfl (by kernel_rfl) (by kernel_rfl) (by kernel_rfl) (fun _ _ _ h => h) (by rfl) (by assumption) ?_ ?_; rotate_left; (focus ((intro w hSw); (try dsimp only at hSw); go_simp; (try with_reducible rfl))); (try simp only [Act.put, List.setIfInBounds_toArray, List.set_cons_zero, List.set_cons_succ])); (refine held_yes (v := ?_) 26 rfl (by kernel_rfl) (by kernel_rfl) (by kernel_rfl) (fun _ _ _ h => h) (by rfl) (by assumption) ?_ ?_; rotate_left; (focus ((intro w hSw); (try dsimp only at hSw); go_simp; (try with_reducible rfl))); (try simp only [Act.put, List.setIfInBounds_toArray, List.set_cons_zero, List.set_cons_succ]))
                    refine wpAnyH_done (by kernel_rfl) ?_ _
                    go_wp2
                    go_ret
                    exact ⟨rightI_no (fun hr => by have := HD.out.1 hr; simp at this), HT.low⟩
                  | true =>
                    (refine held_yes (v := ?_) 23 rfl (by kernel_rfl) (by kernel_rfl) (by kernel_rfl) (fun _ _ _ h => h) (by rfl) (by assumption) ?_ ?_; rotate_left; (focus ((intro w hSw); (try dsimp only at hSw); go_simp; (try with_reducible rfl))); (try simp only [Act.put, List.setIfInBounds_toArray, List.set_cons_zero, List.set_cons_succ]))
                    (refine held_call 24 rfl (by kernel_rfl) (fun K hK => ?_); go_simp)
                    go_at_call 77; refine (FI.out _ HT.low).mono ?_; rintro e wq ⟨rfl, hbq⟩; have HT := HT.later hbq; have cq := HT.a.1
                    (refine hK.out _ _ (HT.a.1) (fun hHeld => ?_); clear hK K; (try simp only [Act.put, List.setIfInBounds_toArray, List.set_cons_zero, List.set_cons_succ]))
                    (refine held_yes (v := ?_) 25 rfl (by kernel_rfl) (by kernel_rfl) (by kernel_rfl) (fun _ _ _ h => h) (by rfl) (by assumption) ?_ ?_; rotate_left; (focus ((intro w hSw); (try dsimp only at hSw); go_simp; (try with_reducible rfl))); (try simp only [Act.put, List.setIfInBounds_toArray, List.set_cons_zero, List.set_cons_succ])); (refine held_yes (v := ?_) 26 rfl (by kernel_rfl) (by kernel_rfl) (by kernel_rfl) (fun _ _ _ h => h) (by rfl) (by assumption) ?_ ?_; rotate_left; (focus ((intro w hSw); (try dsimp only at hSw); go_simp; (try with_reducible rfl))); (try simp only [Act.put, List.setIfInBounds_toArray, List.set_cons_zero, List.set_cons_succ]))
                    refine wpAnyH_done (by kernel_rfl) ?_ _
                    go_wp2
                    go_ret
                    exact ⟨⟨ff, rfl, ⟨fun hff => HD.out.2 ⟨(by first | rfl | trivial), (by first | rfl | trivial), (by first | rfl | trivial), hff⟩, fun hr => (HD.out.1 hr).2.2.2⟩⟩, HT.low⟩
end Go.Proofs.YtnnieegddbcfcaaGreatDoor
namespace Go.Proofs.YtnnieegddbcfcaaGreatDoor
open Go.RowKit Go.Shelf

/-- The texts of queries, read in the first world; how many there are was told in a later one. -/
theorem who_ex2 {w w' : World} {qs : List Qv} (h : ∀ q ∈ qs, q.ok w) (h' : ∀ q ∈ qs, q.okN 40 w') : ∃ F, WhoF w qs F ∧ ∀ q ∈ qs, ∀ s ∈ F q, s.size ≤ 9223372036854775807 := by
  have key : ∀ q, ∃ ss : List ByteArray, q ∈ qs → (SlA w 1 q.w ss.length (strs ss) ∧ ss.length ≤ 40 ∧ ∀ s ∈ ss, s.size ≤ 9223372036854775807) := by
    intro q
    by_cases hq : q ∈ qs
    · obtain ⟨_, _, ss, h1, h2⟩ := h q hq
      obtain ⟨_, _, ss', h3, h4, _⟩ := h' q hq
      obtain ⟨a, c, e⟩ := h1.form
      obtain ⟨a', c', e'⟩ := h3.form
      rw [e] at e'
      simp only [Value.slice.injEq] at e'
      exact ⟨ss, fun _ => ⟨h1, by rw [e'.2.1]; exact h4, h2⟩⟩
    · exact ⟨[], fun h' => absurd h' hq⟩
  refine ⟨fun q => (key q).choose, fun q hq => ⟨((key q).choose_spec hq).1, ((key q).choose_spec hq).2.1⟩, fun q hq => ((key q).choose_spec hq).2.2⟩
/-- What a light policy that may be gives. -/
structure GoodP (l : List St) (g h : List Rl) (qs : List Qv) (F : Qv → List ByteArray) : Prop where
  right : ∀ s ∈ l, rightS s = true
  ps : (newB (allPrins l g h qs F)).length ≤ 16
  ns : (newB (allNames l g h qs)).length ≤ 12
theorem RightP.good {l : List St} {g h : List Rl} {qs : List Qv} {F : Qv → List ByteArray} (hr : RightP l g h qs F) : GoodP l g h qs F := by
  obtain ⟨h1, _, _, _, _, _, h2⟩ := hr
  unfold fitsP at h2
  simp only [Bool.and_eq_true, decide_eq_true_iff] at h2
  exact ⟨h1, h2.2.1, h2.2.2⟩
/-- As many are told to be in a role as the document finds there. -/
theorem model_count {a b : List ByteArray} {l : List St} (ha : AscB a) (hb : AscB b) (na : a.length ≤ 64) (nb : b.length ≤ 1000) (hok : ∀ s ∈ l, (ruleN a b s).2 = true) {ps : List Pr} (hD : LeastS l (fun r x => (r, x) ∈ ps)) {fs : List (Nat × Nat)}
    (hE : LeastN b.length (goodR a.length b.length (rulesN a b l)) (fun r x => (r, x) ∈ fs)) (hr : ∀ f ∈ fs, f.2 < a.length) {i : Nat} (hi : i < a.length * b.length) : (membersP ps (roleAt a b (i : Int))).length = (colsI fs (i : Int)).length := by
  rw [← model_members ha hb na nb hok hD hE hr (roleAt a b (i : Int)), roleAt_N ha hb (inR_iff.2 ⟨i, rfl, hi⟩)]
  unfold whoN
  rw [List.length_map]
theorem minS_bound {l : List St} {h : List Rl} (hl : l.length ≤ 30) : ∀ ps : List Pr, ps.Nodup → SoundS (minS l h) ps → ps.length ≤ 900 := by
  intro ps hn hs
  have h1 := hs.bound hn
  have h2 := minS_len l h
  have h3 : (minS l h).length * (minS l h).length ≤ 30 * 30 := Nat.mul_le_mul (by omega) (by omega)
  omega
set_option maxRecDepth 100000 in
set_option maxHeartbeats 16000000 in
theorem law11_LowTells (v0 v1 v2 v3 : Value) (l : List St) (g h : List Rl) (qs : List Qv) (r : Rl) (w : World) (hp : PolAt w v0 v1 v2 v3 l g h qs) (hT : TB w) :
    Calls Tryz.prog 4 #[pv v0 v1 v2 v3, rv r] w fun e w' => e = .returned (.bool true) ∧ Below w.heap.size w w' := by
  have HL := Lib.hid (fun W hb => law11_lives W (hT.below (w' := W) hb))
  have HP := Lib.hid hp
  have HTB := Lib.hid hT
  have LP := Lib.hid (fun W hb => law5_LightR v0 v1 v2 v3 l g h qs W (hp.below (w' := W) hb))
  obtain ⟨a0, c0, rfl⟩ := hp.rs.form
  obtain ⟨a1, c1, rfl⟩ := hp.rg.form
  obtain ⟨a2, c2, rfl⟩ := hp.rh.form
  obtain ⟨a3, c3, rfl⟩ := hp.rq.form
  obtain ⟨r1, r2⟩ := r
  have HT := Lib.hid (show TwoAt w #[.slice a0 l.length c0, .slice a1 g.length c1, .slice a2 h.length c2, .slice a3 qs.length c3] #[.string r1, .string r2] ((w.alloc (.cells #[.slice a0 l.length c0, .slice a1 g.length c1, .slice a2 h.length c2, .slice a3 qs.length c3] 26)).alloc (.cells #[.string r1, .string r2] 28))
    from ⟨(Blk.new w _ _).alloc _, (by have := Blk.new (w.alloc (.cells #[.slice a0 l.length c0, .slice a1 g.length c1, .slice a2 h.length c2, .slice a3 qs.length c3] 26)) #[.string r1, .string r2] 28; simpa using this), ((Below.refl _ _).alloc (Nat.le_refl _) _).alloc (by simp) _⟩)
  clear hp hT
  go_enter Tryz.func4, Tryz.ntmps4
  go_wp2_with fail
  refine (LP.out _ HT.out.low).mono ?_
  rintro e w1 ⟨⟨bp, rfl, hlp⟩, hb1⟩
  have HT := Lib.hid (HT.out.later hb1)
  have HLP := Lib.hid hlp
  clear hlp hb1 LP
  cases bp with
  | false =>
    go_wp2_with fail
    refine (HL.out _ HT.out.low).mono ?_
    rintro e w6 ⟨rfl, hb6⟩
    have T6 := Lib.hid (HT.out.later hb6)
    clear hb6
    go_wp2
    go_ret
    exact ⟨rfl, T6.out.low⟩
  | true =>
  obtain ⟨⟨hl30, hg30, hh30, hq30, hl40, hqk⟩, hgh⟩ := HLP.out (by first | rfl | trivial)
  obtain ⟨F, hF, hFs⟩ := who_ex2 HP.out.lq hqk
  have HF := Lib.hid hF
  have RT := Lib.hid (fun W hb => ref5_RightL (.slice a0 l.length c0) (.slice a1 g.length c1) (.slice a2 h.length c2) (.slice a3 qs.length c3) l g h qs W (HP.out.below (w' := W) hb) hl30 hg30 hh30 hq30 hl40 F (HF.out.below hb) hFs)
  have hl4 : allLe l 4294967 := fun x hx => (hl40 x hx).mono (by decide)
  clear HLP hqk hgh hF hFs hl40
  obtain ⟨cb, fb, zb⟩ := HT.out.b
  obtain ⟨ca, fa, za⟩ := HT.out.a
  go_wp2_with fail
  refine (RT.out _ HT.out.low).mono ?_
  rintro e w2 ⟨⟨br, rfl, hri⟩, hb2⟩
  have HT := Lib.hid (HT.out.later hb2)
  have HRI := Lib.hid hri
  clear hri hb2 RT cb fb zb ca fa za
  cases br with
  | false =>
    go_wp2_with fail
    refine (HL.out _ HT.out.low).mono ?_
    rintro e w6 ⟨rfl, hb6⟩
    have T6 := Lib.hid (HT.out.later hb6)
    clear hb6
    go_wp2
    go_ret
    exact ⟨rfl, T6.out.low⟩
  | true =>
  have hgood := (HRI.out.1 (by first | rfl | trivial)).good
  clear HRI
  have MR := Lib.hid (fun W hb => ref11_Minimal (.slice a0 l.length c0) (.slice a1 g.length c1) (.slice a2 h.length c2) (.slice a3 qs.length c3) l g h qs W (HP.out.below (w' := W) hb) (by omega))
  have ML := Lib.hid (fun W hb => low_Minimal (.slice a0 l.length c0) (.slice a1 g.length c1) (.slice a2 h.length c2) (.slice a3 qs.length c3) l g h qs W (HP.out.below (w' := W) hb) (by omega))
  have EV := Lib.hid (fun W hb => low_Eval (.slice a0 l.length c0) (.slice a1 g.length c1) (.slice a2 h.length c2) (.slice a3 qs.length c3) l g h qs W (HP.out.below (w' := W) hb) (by omega) (by omega) (by omega) (by omega) F (HF.out.below hb) hl4 (HTB.out.below hb) (by have := hgood.ps; omega) (by have := hgood.ns; omega))
  have ME := Lib.hid (fun W hb => low_Members (.slice a0 l.length c0) (.slice a1 g.length c1) (.slice a2 h.length c2) (.slice a3 qs.length c3) l g h qs ⟨r1, r2⟩ W (HP.out.below (w' := W) hb) (by omega) (by omega) (by omega) (by omega) F (HF.out.below hb) hl4 (HTB.out.below hb) (by have := hgood.ps; omega) (by have := hgood.ns; omega) hgood.right)
  have PR := Lib.hid (fun W hb => ref5_PrinsL (.slice a0 l.length c0) (.slice a1 g.length c1) (.slice a2 h.length c2) (.slice a3 qs.length c3) l g h qs W (HP.out.below (w' := W) hb) (by omega) (by omega) (by omega) (by omega) F (HF.out.below hb))
  have BD := Lib.hid (minS_bound (l := l) (h := h) hl30)
  have OK := Lib.hid (fun s (hs : s ∈ minS l h) => ruleN_in (hgood.right s (List.mem_filter.1 hs).1) (stmt_inAB (F := F) (g := g) (h := h) (qs := qs) (List.mem_filter.1 hs).1))
  have SA := Lib.hid (new_asc (allPrins l g h qs F))
  have SB := Lib.hid (new_asc (allNames l g h qs))
  have hps := hgood.ps
  have hns := hgood.ns
  unfold NewAt at PR
  generalize newB (allPrins l g h qs F) = PS at *
  generalize newB (allNames l g h qs) = NS at *
  generalize minS l h = ms at *
  clear hgood
  obtain ⟨ca, fa, za⟩ := HT.out.a
  go_wp2_with fail
  refine (MR.out _ HT.out.low).mono ?_
  rintro e w3 ⟨v5, rfl, hs5, hb3⟩
  have HT := Lib.hid (HT.out.later hb3)
  obtain ⟨a5, c5, rfl⟩ := hs5.form
  have HS5 := Lib.hid hs5
  clear hs5 hb3 MR ca fa za
  go_wp2_with fail
  refine (ref11_Eval (.slice a5 ms.length c5) ms 900 _ HS5.out (by omega) BD.out).mono ?_
  rintro e w4 ⟨v6, ps, rfl, ho6, hle, _, hpl, hb4⟩
  have HT := Lib.hid (HT.out.later hb4)
  obtain ⟨a6, c6, rfl⟩ := own_form ho6
  have HS6 := Lib.hid (Sl.of_own ho6).a
  have HS5 := Lib.hid (HS5.out.below hb4)
  have HLE := Lib.hid hle
  clear ho6 hb4 hle BD
  obtain ⟨ca, fa, za⟩ := HT.out.a
  go_wp2_with fail
  refine (EV.out _ HT.out.low).mono ?_
  rintro e w5 ⟨t, M, fs, st, rfl, htm, hb5⟩
  have HT := Lib.hid (HT.out.later hb5)
  have HTM := Lib.hid htm
  have HS6 := Lib.hid (HS6.out.below hb5)
  have HS5 := Lib.hid (HS5.out.below hb5)
  clear htm hb5 EV ca fa za
  obtain ⟨ba, bb, htb⟩ := HTM.out.tbl
  have HTb := Lib.hid htb
  have MC := Lib.hid (fun i (hi : i < PS.length * NS.length) => model_count SA.out SB.out (by omega) (by omega) OK.out HLE.out HTM.out.least HTM.out.rng hi)
  have ROL := Lib.hid (table_Roles htb)
  clear htb
  go_wp2_with fail
  refine ROL.out.mono ?_
  rintro e w6 ⟨rfl, rfl⟩
  have hab : PS.length * NS.length ≤ 64 * 64 := Nat.mul_le_mul (by omega) (by omega)
  clear ROL
  generalize PS.length * NS.length = nr at *
  go_wp2_with fail
  go_loopw [30] (fun i wr => ∃ j : Nat, j ≤ nr ∧ i = .int .i64 j ∧ Hid (Below w6.heap.size w6 wr)) (fun i _ => nr - (intOf i).toNat)
  case atStart => exact ⟨0, by omega, rfl, Lib.hid (Below.refl _ _)⟩
  case round =>
    obtain ⟨j, hj, rfl, HBw⟩ := hrel
    by_cases hlt : j < nr
    · have hmc := MC.out j hlt
      have HTMr := Lib.hid (HTM.out.below HBw.out)
      have HTbr := Lib.hid (HTb.out.below HBw.out)
      have HS6r := Lib.hid (HS6.out.below HBw.out)
      have MM := Lib.hid (show Calls Tryz.prog 28 #[.pointer (some ⟨M, 0, none⟩), .int .i64 (j : Int)] wr fun e w' => ∃ v, e = .returned v ∧ w'.ownsRow wr.heap.size 3 1 v (colsI fs (j : Int)).length (ints (colsI fs (j : Int))) ∧ Below wr.heap.size wr w' by
        obtain ⟨F5, W0, g0, hm⟩ := HTMr.out.mod
        exact model_Members hm (HTB.out.below (HT.out.low.trans (HBw.out.mono HT.out.low.size))) (j : Int))
      have RA := Lib.hid (fun W (hb : Below wr.heap.size wr W) => table_RoleAt (HTbr.out.below hb) (j : Int) (by omega))
      have hcl := colsI_len fs (j : Int)
      generalize colsI fs (j : Int) = cs at *
      generalize roleAt PS NS (j : Int) = rj at *
      go_wp2_with fail
      refine MM.out.mono ?_
      rintro e wa ⟨va, rfl, hoa, hba⟩
      obtain ⟨aa, ac, rfl⟩ := own_form hoa
      have HBa := Lib.hid hba
      have HS6a := Lib.hid (HS6r.out.below hba)
      clear hoa hba MM
      go_wp2_with fail
      refine (RA.out _ HBa.out).mono ?_
      rintro e wb ⟨rfl, hbb⟩
      have HBb := Lib.hid (HBa.out.trans (hbb.mono HBa.out.size))
      have HS6b := Lib.hid (HS6a.out.below hbb)
      clear hbb RA
      obtain ⟨rj1, rj2⟩ := rj
      go_wp2_with fail
      refine (ref11_Members (.slice a6 ps.length c6) ps ⟨rj1, rj2⟩ _ HS6b.out (by omega)).mono ?_
      rintro e wc ⟨vc, rfl, hsc, hbc⟩
      rw [hmc] at hsc
      obtain ⟨xa, xc, rfl⟩ := hsc.form
      have HBc := Lib.hid (HBw.out.trans ((HBb.out.trans (hbc.mono HBb.out.size)).mono HBw.out.size))
      clear hsc hbc hmc
      go_wp2_with fail
      exact ⟨⟨j + 1, by omega, by go_num, HBc⟩, by simp [intOf]; omega⟩
    · have HT := HT.out.later HBw.out
      have HS5 := Lib.hid (HS5.out.below HBw.out)
      have HS6 := Lib.hid (HS6.out.below HBw.out)
      have HTb := Lib.hid (HTb.out.below HBw.out)
      clear MC HTM HBw
      go_wp2_with fail
      refine wp_region_held_drew (S := (fun W => (∀ o, W.cell? ⟨w.heap.size, o, none⟩ = (#[.slice a0 l.length c0, .slice a1 g.length c1, .slice a2 h.length c2, .slice a3 qs.length c3] : Array Value)[o]?) ∧ (∀ o, W.cell? ⟨w.heap.size + 1, o, none⟩ = (#[.string r1, .string r2] : Array Value)[o]?))) (by kernel_rfl) ⟨HT.drew.a.1, HT.drew.b.1⟩ (fun hHeld => ?_)
      have HS5 := Lib.hid (HS5.out.below (below_drew (Below.refl _ wr)))
      have HS6 := Lib.hid (HS6.out.below (below_drew (Below.refl _ wr)))
      have HTb := Lib.hid (HTb.out.below (below_drew (Below.refl _ wr)))
      have HT := HT.drew
      obtain ⟨wk, hwk⟩ : ∃ W, W = wr.drew := ⟨_, rfl⟩
      rw [← hwk] at HT HS5 HS6 HTb hHeld ⊢
      clear hwk
      (refine held_yes (v := ?_) 0 rfl (by kernel_rfl) (by kernel_rfl) (by kernel_rfl) (fun _ _ _ h => h) (by rfl) (by assumption) ?_ ?_; rotate_left; (focus ((intro w hSw); (try dsimp only at hSw); go_simp; (try with_reducible rfl))); (try simp only [Act.put, List.setIfInBounds_toArray, List.set_cons_zero, List.set_cons_succ])); (refine held_yes (v := ?_) 2 rfl (by kernel_rfl) (by kernel_rfl) (by kernel_rfl) (fun _ _ _ h => h) (by rfl) (by assumption) ?_ ?_; rotate_left; (focus ((intro w hSw); (try dsimp only at hSw); go_simp; (try with_reducible rfl))); (try simp only [Act.put, List.setIfInBounds_toArray, List.set_cons_zero, List.set_cons_succ]))
      (refine held_call 1 rfl (by kernel_rfl) (fun K hK => ?_); go_simp)
      go_at_call 18; refine (ML.out _ HT.low).mono ?_; rintro e wz1 ⟨vm, rfl, hm1, hbq⟩; obtain ⟨ma, mc, rfl⟩ := hm1.form
      have HT := HT.later hbq
      have HS5 := Lib.hid (HS5.out.below hbq)
      have HS6 := Lib.hid (HS6.out.below hbq)
      have HTb := Lib.hid (HTb.out.below hbq)
      have HM1 := Lib.hid hm1
      clear hm1 hbq
      (refine hK.out _ _ (⟨HT.a.1, HT.b.1⟩) (fun hHeld => ?_); clear hK K; (try simp only [Act.put, List.setIfInBounds_toArray, List.set_cons_zero, List.set_cons_succ]))
      (refine held_call 3 rfl (by kernel_rfl) (fun K hK => ?_); go_simp)
      go_at_call 30; refine (ref3_SameT _ _ ms _ HM1.out.a HS5.out).mono ?_; rintro e wz3 ⟨rfl, hbq⟩
      have HT := HT.later hbq
      have HS5 := Lib.hid (HS5.out.below hbq)
      have HS6 := Lib.hid (HS6.out.below hbq)
      have HTb := Lib.hid (HTb.out.below hbq)
      have HM1 := Lib.hid (HM1.out.below hbq)
      clear hbq
      (refine hK.out _ _ (⟨HT.a.1, HT.b.1⟩) (fun hHeld => ?_); clear hK K; (try simp only [Act.put, List.setIfInBounds_toArray, List.set_cons_zero, List.set_cons_succ]))
      (refine held_yes (v := ?_) 4 rfl (by kernel_rfl) (by kernel_rfl) (by kernel_rfl) (fun _ _ _ h => h) (by rfl) (by assumption) ?_ ?_; rotate_left; (focus ((intro w hSw); (try dsimp only at hSw); go_simp; (try with_reducible rfl))); (try simp only [Act.put, List.setIfInBounds_toArray, List.set_cons_zero, List.set_cons_succ])); (refine held_yes (v := ?_) 5 rfl (by kernel_rfl) (by kernel_rfl) (by kernel_rfl) (fun _ _ _ h => h) (by rfl) (by assumption) ?_ ?_; rotate_left; (focus ((intro w hSw); (try dsimp only at hSw); go_simp; (try with_reducible rfl))); (try simp only [Act.put, List.setIfInBounds_toArray, List.set_cons_zero, List.set_cons_succ])); (refine held_yes (v := ?_) 6 rfl (by kernel_rfl) (by kernel_rfl) (by kernel_rfl) (fun _ _ _ h => h) (by rfl) (by assumption) ?_ ?_; rotate_left; (focus ((intro w hSw); (try dsimp only at hSw); go_simp; (try with_reducible rfl))); (try simp only [Act.put, List.setIfInBounds_toArray, List.set_cons_zero, List.set_cons_succ])); (refine held_yes (v := ?_) 8 rfl (by kernel_rfl) (by kernel_rfl) (by kernel_rfl) (fun _ _ _ h => h) (by rfl) (by assumption) ?_ ?_; rotate_left; (focus ((intro w hSw); (try dsimp only at hSw); go_simp; (try with_reducible rfl))); (try simp only [Act.put, List.setIfInBounds_toArray, List.set_cons_zero, List.set_cons_succ])); (refine held_yes (v := ?_) 9 rfl (by kernel_rfl) (by kernel_rfl) (by kernel_rfl) (fun _ _ _ h => h) (by rfl) (by assumption) ?_ ?_; rotate_left; (focus ((intro w hSw); (try dsimp only at hSw); go_simp; (try with_reducible rfl))); (try simp only [Act.put, List.setIfInBounds_toArray, List.set_cons_zero, List.set_cons_succ]))
      (refine held_call 7 rfl (by kernel_rfl) (fun K hK => ?_); go_simp)
      go_at_call 22; refine (ME.out _ HT.low).mono ?_; rintro e wz7 ⟨vn, zs, rfl, hn1, hn2, hbq⟩; rw [hn2 ps HLE.out] at hn1; clear hn2; obtain ⟨na, nc, rfl⟩ := hn1.form
      have HT := HT.later hbq
      have HS5 := Lib.hid (HS5.out.below hbq)
      have HS6 := Lib.hid (HS6.out.below hbq)
      have HTb := Lib.hid (HTb.out.below hbq)
      have HM1 := Lib.hid (HM1.out.below hbq)
      have HN1 := Lib.hid hn1
      clear hn1 hbq
      (refine hK.out _ _ (⟨HT.a.1, HT.b.1⟩) (fun hHeld => ?_); clear hK K; (try simp only [Act.put, List.setIfInBounds_toArray, List.set_cons_zero, List.set_cons_succ]))
      (refine held_call 10 rfl (by kernel_rfl) (fun K hK => ?_); go_simp)
      go_at_call 23; refine (ref11_Members (.slice a6 ps.length c6) ps ⟨r1, r2⟩ _ HS6.out (by omega)).mono ?_; rintro e wz10 ⟨vo, rfl, ho1, hbq⟩; obtain ⟨oa, oc, rfl⟩ := ho1.form
      have HT := HT.later hbq
      have HS5 := Lib.hid (HS5.out.below hbq)
      have HS6 := Lib.hid (HS6.out.below hbq)
      have HTb := Lib.hid (HTb.out.below hbq)
      have HM1 := Lib.hid (HM1.out.below hbq)
      have HN1 := Lib.hid (HN1.out.below hbq)
      have HO1 := Lib.hid ho1
      clear ho1 hbq
      (refine hK.out _ _ (⟨HT.a.1, HT.b.1⟩) (fun hHeld => ?_); clear hK K; (try simp only [Act.put, List.setIfInBounds_toArray, List.set_cons_zero, List.set_cons_succ]))
      (refine held_call 11 rfl (by kernel_rfl) (fun K hK => ?_); go_simp)
      go_at_call 31; refine (ref1_SameB _ _ (membersP ps ⟨r1, r2⟩) _ HN1.out.a HO1.out).mono ?_; rintro e wz11 ⟨rfl, hbq⟩
      have HT := HT.later hbq
      have HS5 := Lib.hid (HS5.out.below hbq)
      have HS6 := Lib.hid (HS6.out.below hbq)
      have HTb := Lib.hid (HTb.out.below hbq)
      have HM1 := Lib.hid (HM1.out.below hbq)
      have HN1 := Lib.hid (HN1.out.below hbq)
      have HO1 := Lib.hid (HO1.out.below hbq)
      clear hbq
      (refine hK.out _ _ (⟨HT.a.1, HT.b.1⟩) (fun hHeld => ?_); clear hK K; (try simp only [Act.put, List.setIfInBounds_toArray, List.set_cons_zero, List.set_cons_succ]))
      (refine held_yes (v := ?_) 12 rfl (by kernel_rfl) (by kernel_rfl) (by kernel_rfl) (fun _ _ _ h => h) (by rfl) (by assumption) ?_ ?_; rotate_left; (focus ((intro w hSw); (try dsimp only at hSw); go_simp; (try with_reducible rfl))); (try simp only [Act.put, List.setIfInBounds_toArray, List.set_cons_zero, List.set_cons_succ])); (refine held_yes (v := ?_) 13 rfl (by kernel_rfl) (by kernel_rfl) (by kernel_rfl) (fun _ _ _ h => h) (by rfl) (by assumption) ?_ ?_; rotate_left; (focus ((intro w hSw); (try dsimp only at hSw); go_simp; (try with_reducible rfl))); (try simp only [Act.put, List.setIfInBounds_toArray, List.set_cons_zero, List.set_cons_succ])); (refine held_yes (v := ?_) 14 rfl (by kernel_rfl) (by kernel_rfl) (by kernel_rfl) (fun _ _ _ h => h) (by rfl) (by assumption) ?_ ?_; rotate_left; (focus ((intro w hSw); (try dsimp only at hSw); go_simp; (try with_reducible rfl))); (try simp only [Act.put, List.setIfInBounds_toArray, List.set_cons_zero, List.set_cons_succ])); (refine held_yes (v := ?_) 17 rfl (by kernel_rfl) (by kernel_rfl) (by kernel_rfl) (fun _ _ _ h => h) (by rfl) (by assumption) ?_ ?_; rotate_left; (focus ((intro w hSw); (try dsimp only at hSw); go_simp; (try with_reducible rfl))); (try simp only [Act.put, List.setIfInBounds_toArray, List.set_cons_zero, List.set_cons_succ]))
      (refine held_call 15 rfl (by kernel_rfl) (fun K hK => ?_); go_simp)
      go_at_call 32; refine (table_Prins HTb.out).mono ?_; rintro e wz15 ⟨rfl, rfl⟩
      (refine hK.out _ _ (⟨HT.a.1, HT.b.1⟩) (fun hHeld => ?_); clear hK K; (try simp only [Act.put, List.setIfInBounds_toArray, List.set_cons_zero, List.set_cons_succ]))
      (refine held_call 16 rfl (by kernel_rfl) (fun K hK => ?_); go_simp)
      go_at_call 33; refine (tab_All ba PS _ HTb.out.ta (by omega)).mono ?_; rintro e wz16 ⟨vp, rfl, hp1, hbq⟩; obtain ⟨pa, pc, rfl⟩ := own_form hp1
      have HT := HT.later hbq
      have HS5 := Lib.hid (HS5.out.below hbq)
      have HS6 := Lib.hid (HS6.out.below hbq)
      have HTb := Lib.hid (HTb.out.below hbq)
      have HM1 := Lib.hid (HM1.out.below hbq)
      have HN1 := Lib.hid (HN1.out.below hbq)
      have HO1 := Lib.hid (HO1.out.below hbq)
      have HP1 := Lib.hid (Sl.of_own hp1)
      clear hbq
      clear hp1
      (refine hK.out _ _ (⟨HT.a.1, HT.b.1⟩) (fun hHeld => ?_); clear hK K; (try simp only [Act.put, List.setIfInBounds_toArray, List.set_cons_zero, List.set_cons_succ]))
      (refine held_call 18 rfl (by kernel_rfl) (fun K hK => ?_); go_simp)
      go_at_call 34; refine (PR.out _ HT.low).mono ?_; rintro e wz18 ⟨vq, rfl, ⟨hq1, _⟩, hbq⟩; obtain ⟨qa, qc, rfl⟩ := hq1.form
      have HT := HT.later hbq
      have HS5 := Lib.hid (HS5.out.below hbq)
      have HS6 := Lib.hid (HS6.out.below hbq)
      have HTb := Lib.hid (HTb.out.below hbq)
      have HM1 := Lib.hid (HM1.out.below hbq)
      have HN1 := Lib.hid (HN1.out.below hbq)
      have HO1 := Lib.hid (HO1.out.below hbq)
      have HP1 := Lib.hid (HP1.out.below hbq)
      have HQ1 := Lib.hid hq1
      clear hq1 hbq
      (refine hK.out _ _ (⟨HT.a.1, HT.b.1⟩) (fun hHeld => ?_); clear hK K; (try simp only [Act.put, List.setIfInBounds_toArray, List.set_cons_zero, List.set_cons_succ]))
      (refine held_call 19 rfl (by kernel_rfl) (fun K hK => ?_); go_simp)
      go_at_call 31; refine (ref1_SameB _ _ PS _ HP1.out.a HQ1.out).mono ?_; rintro e wz19 ⟨rfl, hbq⟩
      have HT := HT.later hbq
      have HS5 := Lib.hid (HS5.out.below hbq)
      have HS6 := Lib.hid (HS6.out.below hbq)
      have HTb := Lib.hid (HTb.out.below hbq)
      have HM1 := Lib.hid (HM1.out.below hbq)
      have HN1 := Lib.hid (HN1.out.below hbq)
      have HO1 := Lib.hid (HO1.out.below hbq)
      have HP1 := Lib.hid (HP1.out.below hbq)
      have HQ1 := Lib.hid (HQ1.out.below hbq)
      clear hbq
      (refine hK.out _ _ (⟨HT.a.1, HT.b.1⟩) (fun hHeld => ?_); clear hK K; (try simp only [Act.put, List.setIfInBounds_toArray, List.set_cons_zero, List.set_cons_succ]))
      (refine held_yes (v := ?_) 20 rfl (by kernel_rfl) (by kernel_rfl) (by kernel_rfl) (fun _ _ _ h => h) (by rfl) (by assumption) ?_ ?_; rotate_left; (focus ((intro w hSw); (try dsimp only at hSw); go_simp; (try with_reducible rfl))); (try simp only [Act.put, List.setIfInBounds_toArray, List.set_cons_zero, List.set_cons_succ])); (refine held_yes (v := ?_) 21 rfl (by kernel_rfl) (by kernel_rfl) (by kernel_rfl) (fun _ _ _ h => h) (by rfl) (by assumption) ?_ ?_; rotate_left; (focus ((intro w hSw); (try dsimp only at hSw); go_simp; (try with_reducible rfl))); (try simp only [Act.put, List.setIfInBounds_toArray, List.set_cons_zero, List.set_cons_succ]))
      (refine held_call 22 rfl (by kernel_rfl) (fun K hK => ?_); go_simp)
      go_at_call 17; refine (HL.out _ HT.low).mono ?_; rintro e wz22 ⟨rfl, hbq⟩
      have HT := HT.later hbq
      have HS5 := Lib.hid (HS5.out.below hbq)
      have HS6 := Lib.hid (HS6.out.below hbq)
      have HTb := Lib.hid (HTb.out.below hbq)
      have HM1 := Lib.hid (HM1.out.below hbq)
      have HN1 := Lib.hid (HN1.out.below hbq)
      have HO1 := Lib.hid (HO1.out.below hbq)
      have HP1 := Lib.hid (HP1.out.below hbq)
      have HQ1 := Lib.hid (HQ1.out.below hbq)
      clear hbq
      (refine hK.out _ _ (⟨HT.a.1, HT.b.1⟩) (fun hHeld => ?_); clear hK K; (try simp only [Act.put, List.setIfInBounds_toArray, List.set_cons_zero, List.set_cons_succ]))
      (refine held_yes (v := ?_) 23 rfl (by kernel_rfl) (by kernel_rfl) (by kernel_rfl) (fun _ _ _ h => h) (by rfl) (by assumption) ?_ ?_; rotate_left; (focus ((intro w hSw); (try dsimp only at hSw); go_simp; (try with_reducible rfl))); (try simp only [Act.put, List.setIfInBounds_toArray, List.set_cons_zero, List.set_cons_succ])); (refine held_yes (v := ?_) 24 rfl (by kernel_rfl) (by kernel_rfl) (by kernel_rfl) (fun _ _ _ h => h) (by rfl) (by assumption) ?_ ?_; rotate_left; (focus ((intro w hSw); (try dsimp only at hSw); go_simp; (try with_reducible rfl))); (try simp only [Act.put, List.setIfInBounds_toArray, List.set_cons_zero, List.set_cons_succ]))
      refine wpAnyH_done (by kernel_rfl) ?_ _
      have HZ := Lib.hid HT.low
      clear HT
      go_wp2_with fail
      go_ret
      exact ⟨rfl, HZ.out⟩
end Go.Proofs.YtnnieegddbcfcaaGreatDoor
namespace Go.Proofs.YtnnieegddbcfcaaGreatDoor
open Go.ChangeShapes Go.WideShapes Go.ChangeAt Go.RowKit

section
variable {H : Type} {enc : TypeId × Value → H} {w : World} {base fuel n : Nat} {sp : Nat → Bool} {held : Bool} {cs : List Value} {x : DataW H × List MemPlace} {v : Value} {d : DataW H} {ps : List MemPlace}
def dStr (H : Type) (s : ByteArray) : DataW H := .lit (.string s.data.toList)
def dRl (H : Type) (r : Rl) : DataW H := .agg [dStr H r.o, dStr H r.n]
def dSt (H : Type) (s : St) : DataW H := .agg [.lit (.int .i64 s.k), dRl H s.h, dStr H s.who, dRl H s.a, dRl H s.b, dStr H s.via]
/-- A statement whose parts are such as a world may hold. -/
def St.fits (s : St) : Prop := s.le maxLen ∧ (Lit.int IntKind.i64 s.k).wf = true

theorem two_of (h : cs.length = 2) : ∃ a b, cs = [a, b] := by
  match cs, h with
  | [a, b], _ => exact ⟨a, b, rfl⟩
theorem trod_role (h : DataW.trod enc Tryz.prog w base sp held fuel 28 cs = some x) : ∃ r : Rl, cs = r.cells ∧ x = (dRl H r, []) ∧ r.le maxLen := by
  obtain ⟨xs, n, _, rfl, hl, hlen, hf⟩ := DataW.trod_struct Tryz.underlying28 h
  have hc : Tryz.prog.cellsOf 28 = 2 := by kernel_rfl
  have hs : Tryz.prog.cellsOf 9 = 1 := by kernel_rfl
  rw [hc] at hl
  obtain ⟨a, b, rfl⟩ := two_of hl
  have f0 : DataW.trod enc Tryz.prog w base sp held n 9 [a] = xs[0]? := by simpa [hs] using hf 0 _ rfl
  have f1 : DataW.trod enc Tryz.prog w base sp held n 9 [b] = xs[1]? := by simpa [hs] using hf 1 _ rfl
  match xs, hlen with
  | [y0, y1], _ =>
    simp only [List.getElem?_cons_zero, List.getElem?_cons_succ] at f0 f1
    obtain ⟨s0, e0, g0, l0⟩ := DataW.trod_string Tryz.underlying9 f0
    obtain ⟨s1, e1, g1, l1⟩ := DataW.trod_string Tryz.underlying9 f1
    simp only [List.cons.injEq, and_true] at e0 e1
    subst e0 e1 g0 g1
    exact ⟨⟨s0, s1⟩, rfl, rfl, l0, l1⟩
theorem nine_of (h : cs.length = 9) : ∃ a b c d e f g i j, cs = [a, b, c, d, e, f, g, i, j] := by
  match cs, h with
  | [a, b, c, d, e, f, g, i, j], _ => exact ⟨a, b, c, d, e, f, g, i, j, rfl⟩
theorem trod_stmt (h : DataW.trod enc Tryz.prog w base sp held fuel 35 cs = some x) : ∃ s : St, cs = s.cells ∧ x = (dSt H s, []) ∧ s.fits := by
  obtain ⟨xs, n, _, rfl, hl, hlen, hf⟩ := DataW.trod_struct Tryz.underlying35 h
  have hc : Tryz.prog.cellsOf 35 = 9 := by kernel_rfl
  have hr : Tryz.prog.cellsOf 28 = 2 := by kernel_rfl
  have hi : Tryz.prog.cellsOf 3 = 1 := by kernel_rfl
  have hs : Tryz.prog.cellsOf 9 = 1 := by kernel_rfl
  rw [hc] at hl
  obtain ⟨c0, c1, c2, c3, c4, c5, c6, c7, c8, rfl⟩ := nine_of hl
  have f0 : DataW.trod enc Tryz.prog w base sp held n 3 [c0] = xs[0]? := by simpa [hi] using hf 0 _ rfl
  have f1 : DataW.trod enc Tryz.prog w base sp held n 28 [c1, c2] = xs[1]? := by simpa [hr] using hf 1 _ rfl
  have f2 : DataW.trod enc Tryz.prog w base sp held n 9 [c3] = xs[2]? := by simpa [hs] using hf 2 _ rfl
  have f3 : DataW.trod enc Tryz.prog w base sp held n 28 [c4, c5] = xs[3]? := by simpa [hr] using hf 3 _ rfl
  have f4 : DataW.trod enc Tryz.prog w base sp held n 28 [c6, c7] = xs[4]? := by simpa [hr] using hf 4 _ rfl
  have f5 : DataW.trod enc Tryz.prog w base sp held n 9 [c8] = xs[5]? := by simpa [hs] using hf 5 _ rfl
  match xs, hlen with
  | [y0, y1, y2, y3, y4, y5], _ =>
    simp only [List.getElem?_cons_zero, List.getElem?_cons_succ] at f0 f1 f2 f3 f4 f5
    obtain ⟨k, e0, g0, l0⟩ := DataW.trod_int Tryz.underlying3 f0
    obtain ⟨r1, e1, g1, l1⟩ := trod_role f1
    obtain ⟨s2, e2, g2, l2⟩ := DataW.trod_string Tryz.underlying9 f2
    obtain ⟨r3, e3, g3, l3⟩ := trod_role f3
    obtain ⟨r4, e4, g4, l4⟩ := trod_role f4
    obtain ⟨s5, e5, g5, l5⟩ := DataW.trod_string Tryz.underlying9 f5
    simp only [Rl.cells, List.cons.injEq, and_true] at e0 e1 e2 e3 e4 e5
    obtain ⟨rfl, rfl⟩ := e1
    obtain ⟨rfl, rfl⟩ := e3
    obtain ⟨rfl, rfl⟩ := e4
    subst e0 e2 e5 g0 g1 g2 g3 g4 g5
    exact ⟨⟨k, r1, s2, r3, r4, s5⟩, rfl, rfl, ⟨l1, l2, l3, l4, l5⟩, l0⟩
end
end Go.Proofs.YtnnieegddbcfcaaGreatDoor
namespace Go.Proofs.YtnnieegddbcfcaaGreatDoor
open Go.ChangeShapes Go.WideShapes Go.ChangeAt Go.RowKit Go.Deep

theorem laid_out : laidOutB Tryz.prog = true := by kernel_rfl
end Go.Proofs.YtnnieegddbcfcaaGreatDoor
