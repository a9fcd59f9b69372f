/- crupperref05.Prins, Names, Fits: some row of texts, some bool comes back (printed by gen_prins.py). crupperref05.Fits, crupperref04.Right, crupperref03.SameRoles: some bool comes back. crupperref04.Right: some bool comes back. crupperref05.SortRoles: the rows of roles in order that it makes (printed by gen_rlsort.py out of RefSort). -/
import Derived.Test.YtmpanikeeeoikaaGreatPart8
import Derived.Test.YtmpanikeeeoikaaGreatPart7
import Derived.Deep.RegionLawGrows
namespace Go.Proofs.YtmpanikeeeoikaaGreat
open Go.RowKit Go.Shelf

theorem put_row (v : Value) (n : Nat) (s : ByteArray) (w : World) (h : RowS w v n) (hs : s.size ≤ 9223372036854775807) (hn : n ≤ 100000) :
    Calls Tryz.prog 89 #[v, .string s] w fun e w' => ∃ v', e = .returned v' ∧ RowS w' v' (n + 1) ∧ Below w.heap.size w w' := by
  obtain ⟨ss, h1, h2, h3⟩ := h
  refine (ref1_Put v ss s w h1 h3 hs (by omega)).mono ?_
  rintro e w' ⟨v', he, hr, hb⟩
  exact ⟨v', he, hr.mono (by omega), hb⟩

set_option maxRecDepth 100000 in
set_option maxHeartbeats 8000000 in
theorem ref5_Prins (v0 v1 v2 v3 : Value) (l : List St) (g h : List Rl) (qs : List Qv) (w : World) (hp : PolAt w v0 v1 v2 v3 l g h qs) (hl : l.length ≤ 100) (hg : g.length ≤ 100) (hh : h.length ≤ 100) (hq : qs.length ≤ 100) (hq40 : ∀ q ∈ qs, q.okN 40 w) :
    Calls Tryz.prog 67 #[pv v0 v1 v2 v3] w fun e w' => ∃ v, e = .returned v ∧ RowS w' v 10000 ∧ Below w.heap.size w w' := by
  have HP := Lib.hid hp
  have HR := Lib.hid (fun W (hb : Below w.heap.size w W) => ref5_Roles v0 v1 v2 v3 l g h qs W (hp.below hb) hl hg hh hq)
  have HQ4 := Lib.hid hq40
  obtain ⟨a0, c0, rfl⟩ := hp.rs.form
  obtain ⟨a1, c1, rfl⟩ := hp.rg.form
  obtain ⟨a2, c2, rfl⟩ := hp.rh.form
  obtain ⟨a3, c3, rfl⟩ := hp.rq.form
  have HT := Lib.hid (show OneAt w #[.slice a0 l.length c0, .slice a1 g.length c1, .slice a2 h.length c2, .slice a3 qs.length c3] (w.alloc (.cells #[.slice a0 l.length c0, .slice a1 g.length c1, .slice a2 h.length c2, .slice a3 qs.length c3] 26)) from ⟨Blk.new w _ _, (Below.refl _ _).alloc (Nat.le_refl _) _⟩)
  clear hp hq40
  go_enter Tryz.func67, Tryz.ntmps67
  go_wp2_with fail
  refine (HR.out _ HT.out.low).mono ?_
  rintro e w1 ⟨vr, rfl, hrr, hb1⟩
  have HT := Lib.hid (HT.out.later hb1)
  obtain ⟨rs, hr1, hr2, hr3⟩ := hrr
  have HRS := Lib.hid hr1
  have HRL := Lib.hid hr3
  obtain ⟨ro, rc, rfl⟩ := hr1.form
  clear hb1 hr1 hr3
  go_wp2_with fail
  go_loopw [3, 15] (fun vo i wr => ∃ (k : Nat) (vx : Value), k ≤ rs.length ∧ vx = vo ∧ i = .int .i64 k ∧ Hid (RowS wr vx k) ∧ Hid (OneAt w #[.slice a0 l.length c0, .slice a1 g.length c1, .slice a2 h.length c2, .slice a3 qs.length c3] wr) ∧ Hid (Below w1.heap.size w1 wr)) (fun _ i _ => rs.length - (intOf i).toNat)
  case atStart => exact ⟨0, _, by omega, rfl, rfl, Lib.hid (RowS.nil _), HT, Lib.hid (Below.refl _ _)⟩
  case round =>
    clear HT
    obtain ⟨k, vx, hk, rfl, rfl, HO, HT, HB⟩ := hrel
    by_cases hlt : k < rs.length
    · obtain ⟨b1, o1, e1, he1, hc1, hm1', hb1, hx1⟩ := HRS.out.pos (by omega)
      simp only [Value.slice.injEq, true_and] at he1
      obtain ⟨rfl, rfl⟩ := he1
      obtain ⟨p0, p1⟩ := rl_cell (w := wr) (fun j u hu => (HB.out.cell (p := ⟨b1, o1 + j, none⟩) hb1).trans (hx1 j u hu)) k hlt
      have hbr : b1 < wr.heap.size := Nat.lt_of_lt_of_le hb1 HB.out.size
      have l1 := HRL.out _ (List.getElem_mem hlt)
      clear hx1
      generalize rs[k] = x at *
      obtain ⟨x1, x2⟩ := x
      have hba : Below wr.heap.size wr (wr.alloc (.cells #[.string x1, .string x2] 50)) := (Below.refl _ _).alloc (Nat.le_refl _) _
      have PC := Lib.hid (put_row vx k x1 _ (HO.out.below hba) l1.1 (by omega))
      have HT2 := Lib.hid (HT.out.later hba)
      have HB2 := Lib.hid (HB.out.trans (hba.mono HB.out.size))
      clear hba l1
      go_wp2_with fail
      refine PC.out.mono ?_
      rintro e w3 ⟨vz, rfl, hr, hb3⟩
      have HR3 := Lib.hid hr
      have HT3 := Lib.hid (HT2.out.later hb3)
      have HB3 := Lib.hid (HB2.out.trans (hb3.mono HB2.out.size))
      clear hr hb3
      go_wp2
      exact ⟨⟨k + 1, _, by omega, rfl, by go_num, HR3, HT3, HB3⟩, by simp [intOf]; omega⟩
    · obtain ⟨ca, fa, za⟩ := HT.out.a
      have HO := Lib.hid (HO.out.mono (show k ≤ 1000 by omega))
      clear HB HRS HRL hk
      go_wp2_with fail
      clear ca fa za
      go_loopw [3, 27] (fun vo i wr => ∃ (k : Nat) (vx : Value), k ≤ l.length ∧ vx = vo ∧ i = .int .i64 k ∧ Hid (RowS wr vx (1000 + k)) ∧ Hid (OneAt w #[.slice a0 l.length c0, .slice a1 g.length c1, .slice a2 h.length c2, .slice a3 qs.length c3] wr)) (fun _ i _ => l.length - (intOf i).toNat)
      case atStart => exact ⟨0, _, by omega, rfl, rfl, HO, HT⟩
      case round =>
        clear HT HO
        obtain ⟨k, vx, hk, rfl, rfl, HO, HT⟩ := hrel
        by_cases hlt : k < l.length
        · obtain ⟨b1, o1, e1, he1, hc1, hm1', hb1, hx1⟩ := HP.out.rs.pos (by omega)
          simp only [Value.slice.injEq, true_and] at he1
          obtain ⟨rfl, rfl⟩ := he1
          obtain ⟨p0, p1, p2, p3, p4, p5, p6, p7, p8⟩ := st_cell (w := wr) (fun j u hu => (HT.out.low.cell (p := ⟨b1, o1 + j, none⟩) hb1).trans (hx1 j u hu)) k hlt
          have hbr : b1 < wr.heap.size := Nat.lt_of_lt_of_le hb1 HT.out.low.size
          have hxl := HP.out.ls _ (List.getElem_mem hlt)
          clear hx1
          generalize l[k] = x at *
          obtain ⟨xk, ⟨x1, x2⟩, xw, ⟨x3, x4⟩, ⟨x5, x6⟩, xv⟩ := x
          have hba : Below wr.heap.size wr (wr.alloc (.cells #[.int .i64 xk, .string x1, .string x2, .string xw, .string x3, .string x4, .string x5, .string x6, .string xv] 52)) := (Below.refl _ _).alloc (Nat.le_refl _) _
          have PC := Lib.hid (put_row vx (1000 + k) xw _ (HO.out.below hba) hxl.2.1 (by omega))
          have HT2 := Lib.hid (HT.out.later hba)
          have HO2 := Lib.hid (HO.out.below hba)
          clear hba hxl
          by_cases hkk : xk = 1
          · have d1 : (xk == 1) = true := by simp [hkk]
            clear hkk
            go_wp2_with fail
            refine PC.out.mono ?_
            rintro e w3 ⟨vz, rfl, hr, hb3⟩
            have HR3 := Lib.hid hr
            have HT3 := Lib.hid (HT2.out.later hb3)
            clear hr hb3
            go_wp2
            exact ⟨⟨k + 1, _, by omega, rfl, by go_num, HR3, HT3⟩, by simp [intOf]; omega⟩
          · have d1 : (xk == 1) = false := by simp [hkk]
            clear hkk
            go_wp2
            exact ⟨⟨k + 1, _, by omega, rfl, by go_num, Lib.hid (HO2.out.mono (by omega)), HT2⟩, by simp [intOf]; omega⟩
        · obtain ⟨ca, fa, za⟩ := HT.out.a
          have HO := Lib.hid (HO.out.mono (show 1000 + k ≤ 1100 by omega))
          clear hk
          go_wp2_with fail
          clear ca fa za
          go_loopw [3, 42] (fun vo i wr => ∃ (k : Nat) (vx : Value), k ≤ qs.length ∧ vx = vo ∧ i = .int .i64 k ∧ Hid (RowS wr vx (1100 + 40 * k)) ∧ Hid (OneAt w #[.slice a0 l.length c0, .slice a1 g.length c1, .slice a2 h.length c2, .slice a3 qs.length c3] wr)) (fun _ i _ => qs.length - (intOf i).toNat)
          case atStart => exact ⟨0, _, by omega, rfl, rfl, HO, HT⟩
          case round =>
            clear HT HO
            obtain ⟨k, vx, hk, rfl, rfl, HO, HT⟩ := hrel
            by_cases hlt : k < qs.length
            · obtain ⟨b1, o1, e1, he1, hc1, hm1', hb1, hx1⟩ := HP.out.rq.pos (by omega)
              simp only [Value.slice.injEq, true_and] at he1
              obtain ⟨rfl, rfl⟩ := he1
              obtain ⟨p0, p1, p2, p3, p4, p5⟩ := q_cell (w := wr) (fun j u hu => (HT.out.low.cell (p := ⟨b1, o1 + j, none⟩) hb1).trans (hx1 j u hu)) k hlt
              have hbr : b1 < wr.heap.size := Nat.lt_of_lt_of_le hb1 HT.out.low.size
              obtain ⟨_, _, us, hu1, hu2, hu3⟩ := HQ4.out _ (List.getElem_mem hlt)
              have HU := Lib.hid hu1
              have HUZ := Lib.hid hu3
              obtain ⟨wo, wc, hw5⟩ := hu1.form
              clear hx1 hu1 hu3
              generalize qs[k] = x at *
              obtain ⟨xk, ⟨x1, x2⟩, ⟨x3, x4⟩, xw⟩ := x
              dsimp only at hw5 HU
              subst hw5
              obtain ⟨nw, hnw⟩ : ∃ nw, nw = us.length := ⟨_, rfl⟩
              have HNW := Lib.hid hnw
              rw [← hnw] at p5 HU hu2
              clear hnw
              have hba : Below wr.heap.size wr (wr.alloc (.cells #[.int .i64 xk, .string x1, .string x2, .string x3, .string x4, .slice wo nw wc] 55)) := (Below.refl _ _).alloc (Nat.le_refl _) _
              have HT2 := Lib.hid (HT.out.later hba)
              have HO2 := Lib.hid (HO.out.below hba)
              clear hba
              go_wp2_with fail
              go_loopw [3, 49] (fun vo i wr => ∃ (j : Nat) (vx : Value), j ≤ nw ∧ vx = vo ∧ i = .int .i64 j ∧ Hid (RowS wr vx (1100 + 40 * k + j)) ∧ Hid (OneAt w #[.slice a0 l.length c0, .slice a1 g.length c1, .slice a2 h.length c2, .slice (some ⟨b1, o1, none⟩) qs.length c3] wr)) (fun _ i _ => nw - (intOf i).toNat)
              case atStart => exact ⟨0, _, by omega, rfl, rfl, HO2, HT2⟩
              case round =>
                clear HT HO HT2 HO2
                obtain ⟨j, vx, hj, rfl, rfl, HO, HT⟩ := hrel
                by_cases hlj : j < nw
                · obtain ⟨b1, o1, e1, he1, hc1, hm1', hb1, hx1⟩ := HU.out.pos (by omega)
                  simp only [Value.slice.injEq, true_and] at he1
                  obtain ⟨rfl, rfl⟩ := he1
                  have hju : j < us.length := by have := HNW.out; omega
                  have p0 := (HT.out.low.cell (p := ⟨b1, o1 + j, none⟩) hb1).trans (hx1 j _ (strs_get hju))
                  have hbr : b1 < wr.heap.size := Nat.lt_of_lt_of_le hb1 HT.out.low.size
                  have PC := Lib.hid (put_row vx (1100 + 40 * k + j) us[j] _ HO.out (HUZ.out _ (List.getElem_mem hju)) (by omega))
                  clear hx1
                  generalize us[j] = s at *
                  go_wp2_with fail
                  refine PC.out.mono ?_
                  rintro e w3 ⟨vz, rfl, hr, hb3⟩
                  have HR3 := Lib.hid hr
                  have HT3 := Lib.hid (HT.out.later hb3)
                  clear hr hb3
                  go_wp2
                  exact ⟨⟨j + 1, _, by omega, rfl, by go_num, HR3, HT3⟩, by simp [intOf]; omega⟩
                · have HO3 := Lib.hid (HO.out.mono (show 1100 + 40 * k + j ≤ 1100 + 40 * (k + 1) by omega))
                  go_wp2
                  exact ⟨⟨k + 1, _, by omega, rfl, by go_num, HO3, HT⟩, by simp [intOf]; omega⟩
            · have HO3 := Lib.hid (HO.out.mono (show 1100 + 40 * k ≤ 10000 by omega))
              go_wp2
              go_ret
              exact ⟨_, rfl, HO3.out, HT.out.low⟩

set_option maxRecDepth 100000 in
set_option maxHeartbeats 8000000 in
theorem ref5_Names (v0 v1 v2 v3 : Value) (l : List St) (g h : List Rl) (qs : List Qv) (w : World) (hp : PolAt w v0 v1 v2 v3 l g h qs) (hl : l.length ≤ 100) (hg : g.length ≤ 100) (hh : h.length ≤ 100) (hq : qs.length ≤ 100) (hq40 : ∀ q ∈ qs, q.okN 40 w) :
    Calls Tryz.prog 68 #[pv v0 v1 v2 v3] w fun e w' => ∃ v, e = .returned v ∧ RowS w' v 10000 ∧ Below w.heap.size w w' := by
  have HP := Lib.hid hp
  have HR := Lib.hid (fun W (hb : Below w.heap.size w W) => ref5_Roles v0 v1 v2 v3 l g h qs W (hp.below hb) hl hg hh hq)
  have HQ4 := Lib.hid hq40
  obtain ⟨a0, c0, rfl⟩ := hp.rs.form
  obtain ⟨a1, c1, rfl⟩ := hp.rg.form
  obtain ⟨a2, c2, rfl⟩ := hp.rh.form
  obtain ⟨a3, c3, rfl⟩ := hp.rq.form
  have HT := Lib.hid (show OneAt w #[.slice a0 l.length c0, .slice a1 g.length c1, .slice a2 h.length c2, .slice a3 qs.length c3] (w.alloc (.cells #[.slice a0 l.length c0, .slice a1 g.length c1, .slice a2 h.length c2, .slice a3 qs.length c3] 26)) from ⟨Blk.new w _ _, (Below.refl _ _).alloc (Nat.le_refl _) _⟩)
  clear hp hq40
  go_enter Tryz.func68, Tryz.ntmps68
  go_wp2_with fail
  refine (HR.out _ HT.out.low).mono ?_
  rintro e w1 ⟨vr, rfl, hrr, hb1⟩
  have HT := Lib.hid (HT.out.later hb1)
  obtain ⟨rs, hr1, hr2, hr3⟩ := hrr
  have HRS := Lib.hid hr1
  have HRL := Lib.hid hr3
  obtain ⟨ro, rc, rfl⟩ := hr1.form
  clear hb1 hr1 hr3
  go_wp2_with fail
  go_loopw [3, 11] (fun vo i wr => ∃ (k : Nat) (vx : Value), k ≤ rs.length ∧ vx = vo ∧ i = .int .i64 k ∧ Hid (RowS wr vx k) ∧ Hid (OneAt w #[.slice a0 l.length c0, .slice a1 g.length c1, .slice a2 h.length c2, .slice a3 qs.length c3] wr) ∧ Hid (Below w1.heap.size w1 wr)) (fun _ i _ => rs.length - (intOf i).toNat)
  case atStart => exact ⟨0, _, by omega, rfl, rfl, Lib.hid (RowS.nil _), HT, Lib.hid (Below.refl _ _)⟩
  case round =>
    clear HT
    obtain ⟨k, vx, hk, rfl, rfl, HO, HT, HB⟩ := hrel
    by_cases hlt : k < rs.length
    · obtain ⟨b1, o1, e1, he1, hc1, hm1', hb1, hx1⟩ := HRS.out.pos (by omega)
      simp only [Value.slice.injEq, true_and] at he1
      obtain ⟨rfl, rfl⟩ := he1
      obtain ⟨p0, p1⟩ := rl_cell (w := wr) (fun j u hu => (HB.out.cell (p := ⟨b1, o1 + j, none⟩) hb1).trans (hx1 j u hu)) k hlt
      have hbr : b1 < wr.heap.size := Nat.lt_of_lt_of_le hb1 HB.out.size
      have l1 := HRL.out _ (List.getElem_mem hlt)
      clear hx1
      generalize rs[k] = x at *
      obtain ⟨x1, x2⟩ := x
      have hba : Below wr.heap.size wr (wr.alloc (.cells #[.string x1, .string x2] 50)) := (Below.refl _ _).alloc (Nat.le_refl _) _
      have PC := Lib.hid (put_row vx k x2 _ (HO.out.below hba) l1.2 (by omega))
      have HT2 := Lib.hid (HT.out.later hba)
      have HB2 := Lib.hid (HB.out.trans (hba.mono HB.out.size))
      clear hba l1
      go_wp2_with fail
      refine PC.out.mono ?_
      rintro e w3 ⟨vz, rfl, hr, hb3⟩
      have HR3 := Lib.hid hr
      have HT3 := Lib.hid (HT2.out.later hb3)
      have HB3 := Lib.hid (HB2.out.trans (hb3.mono HB2.out.size))
      clear hr hb3
      go_wp2
      exact ⟨⟨k + 1, _, by omega, rfl, by go_num, HR3, HT3, HB3⟩, by simp [intOf]; omega⟩
    · obtain ⟨ca, fa, za⟩ := HT.out.a
      have HO := Lib.hid (HO.out.mono (show k ≤ 1000 by omega))
      clear HB HRS HRL hk
      go_wp2_with fail
      clear ca fa za
      go_loopw [3, 23] (fun vo i wr => ∃ (k : Nat) (vx : Value), k ≤ l.length ∧ vx = vo ∧ i = .int .i64 k ∧ Hid (RowS wr vx (1000 + k)) ∧ Hid (OneAt w #[.slice a0 l.length c0, .slice a1 g.length c1, .slice a2 h.length c2, .slice a3 qs.length c3] wr)) (fun _ i _ => l.length - (intOf i).toNat)
      case atStart => exact ⟨0, _, by omega, rfl, rfl, HO, HT⟩
      case round =>
        clear HT HO
        obtain ⟨k, vx, hk, rfl, rfl, HO, HT⟩ := hrel
        by_cases hlt : k < l.length
        · obtain ⟨b1, o1, e1, he1, hc1, hm1', hb1, hx1⟩ := HP.out.rs.pos (by omega)
          simp only [Value.slice.injEq, true_and] at he1
          obtain ⟨rfl, rfl⟩ := he1
          obtain ⟨p0, p1, p2, p3, p4, p5, p6, p7, p8⟩ := st_cell (w := wr) (fun j u hu => (HT.out.low.cell (p := ⟨b1, o1 + j, none⟩) hb1).trans (hx1 j u hu)) k hlt
          have hbr : b1 < wr.heap.size := Nat.lt_of_lt_of_le hb1 HT.out.low.size
          have hxl := HP.out.ls _ (List.getElem_mem hlt)
          clear hx1
          generalize l[k] = x at *
          obtain ⟨xk, ⟨x1, x2⟩, xw, ⟨x3, x4⟩, ⟨x5, x6⟩, xv⟩ := x
          have hba : Below wr.heap.size wr (wr.alloc (.cells #[.int .i64 xk, .string x1, .string x2, .string xw, .string x3, .string x4, .string x5, .string x6, .string xv] 52)) := (Below.refl _ _).alloc (Nat.le_refl _) _
          have PC := Lib.hid (put_row vx (1000 + k) xv _ (HO.out.below hba) hxl.2.2.2.2 (by omega))
          have HT2 := Lib.hid (HT.out.later hba)
          have HO2 := Lib.hid (HO.out.below hba)
          clear hba hxl
          by_cases hkk : xk = 3
          · have d1 : (xk == 3) = true := by simp [hkk]
            clear hkk
            go_wp2_with fail
            refine PC.out.mono ?_
            rintro e w3 ⟨vz, rfl, hr, hb3⟩
            have HR3 := Lib.hid hr
            have HT3 := Lib.hid (HT2.out.later hb3)
            clear hr hb3
            go_wp2
            exact ⟨⟨k + 1, _, by omega, rfl, by go_num, HR3, HT3⟩, by simp [intOf]; omega⟩
          · have d1 : (xk == 3) = false := by simp [hkk]
            clear hkk
            go_wp2
            exact ⟨⟨k + 1, _, by omega, rfl, by go_num, Lib.hid (HO2.out.mono (by omega)), HT2⟩, by simp [intOf]; omega⟩
        · have HO3 := Lib.hid (HO.out.mono (show 1000 + k ≤ 10000 by omega))
          go_wp2
          go_ret
          exact ⟨_, rfl, HO3.out, HT.out.low⟩
end Go.Proofs.YtmpanikeeeoikaaGreat
namespace Go.Proofs.YtmpanikeeeoikaaGreat
open Go.RowKit Go.Shelf

set_option maxRecDepth 100000 in
set_option maxHeartbeats 8000000 in
theorem ref5_Fits (v0 v1 v2 v3 : Value) (l : List St) (g h : List Rl) (qs : List Qv) (w : World) (hp : PolAt w v0 v1 v2 v3 l g h qs) (hl : l.length ≤ 80) (hg : g.length ≤ 40) (hh : h.length ≤ 40) (hq : qs.length ≤ 100) (hq40 : ∀ q ∈ qs, q.okN 40 w) :
    Calls Tryz.prog 46 #[pv v0 v1 v2 v3] w fun e w' => AnyB e ∧ Below w.heap.size w w' := by
  have PR := Lib.hid (fun W (hb : Below w.heap.size w W) => ref5_Prins v0 v1 v2 v3 l g h qs W (hp.below hb) (by omega) (by omega) (by omega) hq (fun q hq => (hq40 q hq).below hb))
  have NA := Lib.hid (fun W (hb : Below w.heap.size w W) => ref5_Names v0 v1 v2 v3 l g h qs W (hp.below hb) (by omega) (by omega) (by omega) hq (fun q hq => (hq40 q hq).below hb))
  obtain ⟨a0, c0, rfl⟩ := hp.rs.form
  obtain ⟨a1, c1, rfl⟩ := hp.rg.form
  obtain ⟨a2, c2, rfl⟩ := hp.rh.form
  obtain ⟨a3, c3, rfl⟩ := hp.rq.form
  have HT := Lib.hid (show OneAt w #[.slice a0 l.length c0, .slice a1 g.length c1, .slice a2 h.length c2, .slice a3 qs.length c3] (w.alloc (.cells #[.slice a0 l.length c0, .slice a1 g.length c1, .slice a2 h.length c2, .slice a3 qs.length c3] 26)) from ⟨Blk.new w _ _, (Below.refl _ _).alloc (Nat.le_refl _) _⟩)
  have d0 : decide ((80 : Int) < (l.length : Int)) = false := by (rw [decide_eq_false_iff_not]; omega)
  have d1 : decide ((40 : Int) < (g.length : Int)) = false := by (rw [decide_eq_false_iff_not]; omega)
  have d2 : decide ((40 : Int) < (h.length : Int)) = false := by (rw [decide_eq_false_iff_not]; omega)
  clear hp hq40
  go_enter Tryz.func46, Tryz.ntmps46
  by_cases t3 : 16 < qs.length
  · have d3 : decide ((16 : Int) < (qs.length : Int)) = true := by (rw [decide_eq_true_iff]; omega)
    go_wp2
    go_ret
    exact ⟨⟨false, rfl⟩, HT.out.low⟩
  have d3 : decide ((16 : Int) < (qs.length : Int)) = false := by (rw [decide_eq_false_iff_not]; omega)
  go_wp2_with fail
  refine (PR.out _ HT.out.low).mono ?_
  rintro e w1 ⟨x1, rfl, hx1, hb1⟩
  have HT := Lib.hid (HT.out.later hb1)
  obtain ⟨ss, hs1, hs2, _⟩ := hx1
  obtain ⟨xo, xc, rfl⟩ := hs1.form
  obtain ⟨ca, fa, za⟩ := HT.out.a
  clear hb1 hs1
  by_cases t4 : ss.length ≤ 16
  · have d4 : decide ((ss.length : Int) ≤ 16) = true := by (rw [decide_eq_true_iff]; omega)
    have d4' : decide (ss.length ≤ 16) = true := by (rw [decide_eq_true_iff]; omega)
    go_wp2_with fail
    refine (NA.out _ HT.out.low).mono ?_
    rintro e w2 ⟨x2, rfl, hx2, hb2⟩
    have HT2 := Lib.hid (HT.out.later hb2)
    obtain ⟨us, hu1, hu2, _⟩ := hx2
    obtain ⟨yo, yc, rfl⟩ := hu1.form
    clear hb2 hu1
    go_wp2
    go_ret
    exact ⟨⟨_, rfl⟩, HT2.out.low⟩
  · have d4 : decide ((ss.length : Int) ≤ 16) = false := by (rw [decide_eq_false_iff_not]; omega)
    have d4' : decide (ss.length ≤ 16) = false := by (rw [decide_eq_false_iff_not]; omega)
    go_wp2
    go_ret
    exact ⟨⟨false, rfl⟩, HT.out.low⟩

set_option maxRecDepth 100000 in
set_option maxHeartbeats 1000000 in
theorem ref3_SameRolesB (va vb : Value) (l m : List Rl) (w : World) (ha : SlA w 2 va l.length (l.flatMap Rl.cells)) (hb : SlA w 2 vb m.length (m.flatMap Rl.cells)) :
    Calls Tryz.prog 30 #[va, vb] w fun e w' => AnyB e ∧ Below w.heap.size w w' := by
  have HA := Lib.hid ha
  have HB := Lib.hid hb
  have hmax := ha.max
  have hmax2 := hb.max
  obtain ⟨ao, ac, rfl⟩ := ha.form
  obtain ⟨bo, bc, rfl⟩ := hb.form
  clear ha hb
  go_enter Tryz.func30, Tryz.ntmps30
  by_cases hl : l.length = m.length
  case neg =>
    have d : ((l.length : Int) != (m.length : Int)) = true := by rw [bne_iff_ne]; omega
    go_wp2
    go_ret
    exact ⟨⟨false, rfl⟩, Below.refl _ _⟩
  have hne : ((l.length : Int) != (m.length : Int)) = false := by rw [hl]; simp
  have HLM := Lib.hid hl
  have hNe := role_neq
  clear hl
  go_wp2
  go_loopw [13] (fun i wr => ∃ k n : Nat, k ≤ l.length ∧ i = .int .i64 k ∧ wr = w.drewN n) (fun i _ => l.length - (intOf i).toNat)
  case atStart => exact ⟨0, 0, by omega, rfl, rfl⟩
  case round =>
    obtain ⟨k, n, hk, rfl, rfl⟩ := hrel
    by_cases hlt : k < l.length
    · have hlt2 : k < m.length := by have := HLM.out; omega
      obtain ⟨b1, o1, e1, he1, hc1, hm1, hb1, hx1⟩ := HA.out.pos (by omega)
      obtain ⟨b2, o2, e2, he2, hc2, hm2, hb2, hx2⟩ := HB.out.pos (by omega)
      simp only [Value.slice.injEq, true_and] at he1 he2
      obtain ⟨rfl, rfl⟩ := he1
      obtain ⟨rfl, rfl⟩ := he2
      obtain ⟨p0, p1⟩ := rl_cell (w := w) hx1 k hlt
      obtain ⟨q0, q1⟩ := rl_cell (w := w) hx2 k hlt2
      clear hx1 hx2
      cases hd : eqRl ⟨l[k].o, l[k].n⟩ ⟨m[k].o, m[k].n⟩ with
      | true =>
        go_wp2_with fail
        go_big_quiet (fail)
        go_wp2
        exact ⟨⟨k + 1, n + nq, by omega, by go_num, rfl⟩, by simp [intOf]; omega⟩
      | false =>
        go_wp2_with fail
        go_big_quiet (fail)
        go_wp2
        go_ret
        exact ⟨⟨false, rfl⟩, below_drewN (below_of_drewN n) nq⟩
    · go_wp2
      go_ret
      exact ⟨⟨true, rfl⟩, below_of_drewN n⟩
end Go.Proofs.YtmpanikeeeoikaaGreat
namespace Go.Proofs.YtmpanikeeeoikaaGreat
open Go.RowKit Go.Shelf

set_option maxHeartbeats 400000 in
theorem ref3_IsRoleM (r : Rl) (w : World) (hs : r.le 9223372036854775807) :
    Calls Tryz.prog 44 #[rv r] w fun e w' => e = .returned (.bool (isRole r)) ∧ Below w.heap.size w w' := by
  obtain ⟨o, n⟩ := r
  obtain ⟨h1, h2⟩ := hs
  have H1 := Lib.hid (fun W => ref1_IsPrin o W h1)
  have H2 := Lib.hid (fun W => ref1_IsName n W h2)
  clear h1 h2
  have E := Lib.hid (show isRole ⟨o, n⟩ = (isP 65 90 (bl o) && isP 97 122 (bl n)) from rfl)
  cases hp : isP 65 90 (bl o)
  all_goals
    rw [hp] at E
    go_enter Tryz.func44, Tryz.ntmps44
    go_wp2_with (first | (go_at_call 65; refine (H1.out _).mono ?_; rintro e w' ⟨rfl, rfl⟩) | (go_at_call 66; refine (H2.out _).mono ?_; rintro e w' ⟨rfl, rfl⟩))
    go_ret
    exact ⟨ret_b (by rw [E.out]; rfl), (Below.refl _ _).alloc (Nat.le_refl _) _⟩

set_option maxRecDepth 100000 in
set_option maxHeartbeats 8000000 in
theorem ref4_Right (q : Qv) (w : World) (hq : q.ok w) : Calls Tryz.prog 45 #[qv q] w fun e w' => AnyB e ∧ Below w.heap.size w w' := by
  obtain ⟨hla, hlb, us, hu1, hu3⟩ := hq
  obtain ⟨xk, ⟨x1, x2⟩, ⟨x3, x4⟩, wv⟩ := q
  have HU := Lib.hid hu1
  have HUZ := Lib.hid hu3
  have hmax := hu1.max
  have IA := Lib.hid (fun W => ref3_IsRoleM ⟨x1, x2⟩ W hla)
  have IB := Lib.hid (fun W => ref3_IsRoleM ⟨x3, x4⟩ W hlb)
  generalize isRole ⟨x1, x2⟩ = ra at IA
  generalize isRole ⟨x3, x4⟩ = rb at IB
  obtain ⟨wo, wc, rfl⟩ := hu1.form
  have HT := Lib.hid (show OneAt w #[.int .i64 xk, .string x1, .string x2, .string x3, .string x4, .slice wo us.length wc] (w.alloc (.cells #[.int .i64 xk, .string x1, .string x2, .string x3, .string x4, .slice wo us.length wc] 55)) from ⟨Blk.new w _ _, (Below.refl _ _).alloc (Nat.le_refl _) _⟩)
  clear hla hlb hu1 hu3
  go_enter Tryz.func45, Tryz.ntmps45
  by_cases k1 : xk < 1
  · have d1 : decide (xk < 1) = true := decide_eq_true k1
    clear k1
    go_wp2
    go_ret
    exact ⟨⟨false, rfl⟩, HT.out.low⟩
  have d1 : decide (xk < 1) = false := decide_eq_false k1
  by_cases k6 : 6 < xk
  · have d6 : decide (6 < xk) = true := decide_eq_true k6
    clear k1 k6
    go_wp2
    go_ret
    exact ⟨⟨false, rfl⟩, HT.out.low⟩
  have d6 : decide (6 < xk) = false := decide_eq_false k6
  clear k1 k6
  go_wp2_with fail
  refine (IA.out _).mono ?_
  rintro e w1 ⟨rfl, hb1⟩
  have HT := Lib.hid (HT.out.later hb1)
  clear hb1
  cases ra with
  | false =>
    go_wp2
    go_ret
    exact ⟨⟨false, rfl⟩, HT.out.low⟩
  | true =>
  obtain ⟨ca, fa, za⟩ := HT.out.a
  go_wp2_with fail
  clear ca fa za
  go_loopw [22] (fun i wr => ∃ k : Nat, k ≤ us.length ∧ i = .int .i64 k ∧ Hid (OneAt w #[.int .i64 xk, .string x1, .string x2, .string x3, .string x4, .slice wo us.length wc] wr)) (fun i _ => us.length - (intOf i).toNat)
  case atStart => exact ⟨0, by omega, rfl, HT⟩
  case round =>
    clear HT
    obtain ⟨k, hk, rfl, HT⟩ := hrel
    obtain ⟨ca, fa, za⟩ := HT.out.a
    by_cases hlt : k < us.length
    · obtain ⟨b1, o1, c1, he1, hc1, hm1, hb1, hx1⟩ := HU.out.pos (by omega)
      simp only [Value.slice.injEq, true_and] at he1
      obtain ⟨rfl, rfl⟩ := he1
      have p0 := (HT.out.low.cell (p := ⟨b1, o1 + k, none⟩) hb1).trans (hx1 k _ (strs_get hlt))
      have hbr : b1 < wr.heap.size := Nat.lt_of_lt_of_le hb1 HT.out.low.size
      have IP := Lib.hid (fun W => ref1_IsPrin us[k] W (HUZ.out _ (List.getElem_mem hlt)))
      generalize isP 65 90 (bl us[k]) = rp at IP
      cases rp with
      | false =>
        clear hx1
        go_wp2_with fail
        refine (IP.out _).mono ?_
        rintro e w2 ⟨rfl, rfl⟩
        go_wp2
        go_ret
        exact ⟨⟨false, rfl⟩, HT.out.low⟩
      | true =>
        by_cases hk0 : k = 0
        · have dk : decide (0 < k) = false := by (rw [decide_eq_false_iff_not]; omega)
          clear hx1 hk0
          go_wp2_with fail
          refine (IP.out _).mono ?_
          rintro e w2 ⟨rfl, rfl⟩
          go_wp2
          exact ⟨⟨k + 1, by omega, by go_num, HT⟩, by simp [intOf]; omega⟩
        · obtain ⟨m, hm⟩ : ∃ m, k = m + 1 := ⟨k - 1, by omega⟩
          have dk : decide (0 < k) = true := by (rw [decide_eq_true_iff]; omega)
          have hw1 : IntKind.i64.wrap ((k : Int) - 1) = (m : Int) := by rw [show (k : Int) - 1 = (m : Int) by omega]; exact Go.IntWalk.i64_in _ (by omega)
          have hml : m < us.length := by omega
          have hmi : (0 : Int) ≤ (m : Int) := by omega
          have q0 := (HT.out.low.cell (p := ⟨b1, o1 + m, none⟩) hb1).trans (hx1 m _ (strs_get hml))
          clear hx1 hk0 hm
          go_wp2_with fail
          refine (IP.out _).mono ?_
          rintro e w2 ⟨rfl, rfl⟩
          generalize us[k] = sk at *
          generalize us[m] = sm at *
          go_wp2_with fail
          · go_ret
            exact ⟨⟨false, rfl⟩, HT.out.low⟩
          · exact ⟨⟨k + 1, by omega, by go_num, HT⟩, by simp [intOf]; omega⟩
    · by_cases k5 : 5 ≤ xk
      · have d5 : decide (5 ≤ xk) = true := decide_eq_true k5
        clear k5
        go_wp2_with fail
        refine (IB.out _).mono ?_
        rintro e w2 ⟨rfl, hb2⟩
        have HT2 := Lib.hid (HT.out.later hb2)
        obtain ⟨ca, fa, za⟩ := HT2.out.a
        clear hb2
        cases rb with
        | false =>
          go_wp2
          go_ret
          exact ⟨⟨_, rfl⟩, HT2.out.low⟩
        | true =>
          go_wp2
          go_ret
          exact ⟨⟨_, rfl⟩, HT2.out.low⟩
      · have d5 : decide (5 ≤ xk) = false := decide_eq_false k5
        have hNe := role_neq
        clear k5
        go_wp2
        all_goals go_ret
        all_goals exact ⟨⟨_, rfl⟩, HT.out.low⟩
end Go.Proofs.YtmpanikeeeoikaaGreat
namespace Go.Proofs.YtmpanikeeeoikaaGreat
open Go.RowKit Go.Shelf
/-- The place of a statement in a row in order. -/
def posSR : List Rl → Rl → Nat
  | [], _ => 0
  | a :: r, x => if cmpR a x < 0 then posSR r x + 1 else 0
def insAtR (l : List Rl) (x : Rl) (k : Nat) : List Rl := l.take k ++ x :: l.drop k
def insSR (l : List Rl) (x : Rl) : List Rl := if hasR l x then l else insAtR l x (posSR l x)
def insAllR : List Rl → List Rl → List Rl
  | acc, [] => acc
  | acc, x :: l => insAllR (insSR acc x) l
theorem pos_leR : ∀ (l : List Rl) (x : Rl), posSR l x ≤ l.length
  | [], _ => Nat.le_refl _
  | a :: r, x => by unfold posSR; have := pos_leR r x; split <;> simp <;> omega
theorem pos_ofR : ∀ (l : List Rl) (x : Rl) (k : Nat), k ≤ l.length → (∀ j (hj : j < l.length), j < k → cmpR l[j] x < 0) → (∀ hk : k < l.length, ¬ cmpR l[k] x < 0) → posSR l x = k
  | [], x, k, hk, _, _ => by simp at hk; subst hk; rfl
  | a :: r, x, 0, _, _, h => by
    have h' : ¬ cmpR a x < 0 := h (by simp)
    unfold posSR; rw [if_neg h']
  | a :: r, x, k + 1, hk, h1, h2 => by
    have h' : cmpR a x < 0 := h1 0 (by simp) (by omega)
    unfold posSR
    rw [if_pos h', pos_ofR r x k (by simpa using hk) (fun j hj hjk => h1 (j + 1) (by simp; omega) (by omega)) (fun hk' => h2 (by simp; omega))]
theorem insS_lenR (l : List Rl) (x : Rl) : (insSR l x).length ≤ l.length + 1 := by
  unfold insSR insAtR; split
  · omega
  · simp [List.length_take, List.length_drop]; have := pos_leR l x; omega
theorem insAll_stepR (acc l : List Rl) (k : Nat) (hk : k < l.length) : insAllR acc (l.drop k) = insAllR (insSR acc l[k]) (l.drop (k + 1)) := by
  rw [List.drop_eq_getElem_cons hk]; rfl
theorem insAll_endR (acc l : List Rl) (k : Nat) (hk : ¬ k < l.length) : insAllR acc (l.drop k) = acc := by
  rw [List.drop_eq_nil_of_le (by omega)]; rfl
theorem insS_hasR {l : List Rl} {x : Rl} (h : hasR l x = true) : insSR l x = l := if_pos h
theorem insS_notR {l : List Rl} {x : Rl} (h : hasR l x = false) : insSR l x = insAtR l x (posSR l x) := if_neg (by rw [h]; exact Bool.false_ne_true)

theorem flat_dropR (l : List Rl) (j : Nat) (hj : j ≤ l.length) (i : Nat) : ((l.drop j).flatMap Rl.cells)[i]? = (l.flatMap Rl.cells)[j * 2 + i]? := by
  have h := List.take_append_drop j l
  have e : (l.flatMap Rl.cells) = (l.take j).flatMap Rl.cells ++ (l.drop j).flatMap Rl.cells := by rw [← List.flatMap_append, h]
  have hl : ((l.take j).flatMap Rl.cells).length = j * 2 := by rw [flat_len _ 2 Rl.cells_len, List.length_take]; congr 1; omega
  rw [e, List.getElem?_append_right (by omega), hl]
  congr 1; omega
theorem flat_takeR (l : List Rl) (j : Nat) (i : Nat) (u : Value) (h : ((l.take j).flatMap Rl.cells)[i]? = some u) : (l.flatMap Rl.cells)[i]? = some u := by
  have e : (l.flatMap Rl.cells) = (l.take j).flatMap Rl.cells ++ (l.drop j).flatMap Rl.cells := by rw [← List.flatMap_append, List.take_append_drop]
  rw [e]
  have hi := (List.getElem?_eq_some_iff.1 h).1
  rw [List.getElem?_append_left hi]; exact h
theorem take_len9R (l : List Rl) (j : Nat) (hj : j ≤ l.length) : ((l.take j).flatMap Rl.cells).length = j * 2 := by
  rw [flat_len _ 2 Rl.cells_len, List.length_take]; congr 1; omega
theorem drop_len9R (l : List Rl) (j : Nat) : ((l.drop j).flatMap Rl.cells).length = (l.length - j) * 2 := by
  rw [flat_len _ 2 Rl.cells_len, List.length_drop]
theorem sl_appR {l : List Rl} {x : Rl} {j : Nat} (hj : j ≤ l.length) : (l.take j).flatMap Rl.cells ++ x.cells ++ (l.drop j).flatMap Rl.cells = (insAtR l x j).flatMap Rl.cells := by
  unfold insAtR; rw [List.flatMap_append, List.flatMap_cons, List.append_assoc]
theorem insAt_lenR {l : List Rl} {x : Rl} {j : Nat} (hj : j ≤ l.length) : (insAtR l x j).length = j + 1 + (l.length - j) := by
  unfold insAtR; rw [List.length_append, List.length_cons, List.length_take, List.length_drop]; omega
theorem app_endR {l : List Rl} {x : Rl} : l.flatMap Rl.cells ++ x.cells = (insAtR l x l.length).flatMap Rl.cells := by
  have h := sl_appR (l := l) (x := x) (j := l.length) (Nat.le_refl _)
  rw [List.take_of_length_le (Nat.le_refl _), List.drop_of_length_le (Nat.le_refl _)] at h
  rw [← h]; simp
theorem insAt_endR {l : List Rl} {x : Rl} : (insAtR l x l.length).length = l.length + 1 := by rw [insAt_lenR (Nat.le_refl _)]; omega
abbrev Two (w : World) (b o : Nat) (s : Rl) : Prop := w.cell? ⟨b, o, none⟩ = some (.string s.o) ∧ w.cell? ⟨b, o + 1, none⟩ = some (.string s.n)
theorem ref3_LessD (x y : Rl) (w : World) : Calls Tryz.prog 62 #[rv x, rv y] w fun e w' => e = .returned (.bool (decide (cmpR x y < 0))) ∧ Below w.heap.size w w' := ref3_Less x y w
theorem Two.below {w w' : World} {b o : Nat} {s : Rl} (h : Two w b o s) (hb : b < w.heap.size) (hw : Below w.heap.size w w') : Two w' b o s := by
  have k : ∀ i, w'.cell? ⟨b, i, none⟩ = w.cell? ⟨b, i, none⟩ := fun i => hw.cell (p := ⟨b, i, none⟩) hb
  obtain ⟨h0, h1⟩ := h
  exact ⟨(k _).trans h0, (k _).trans h1⟩
set_option maxRecDepth 100000 in
set_option maxHeartbeats 8000000 in
theorem ref5_Sort (va : Value) (l : List Rl) (w : World) (ha : SlA w 2 va l.length (l.flatMap Rl.cells)) (hl : l.length ≤ 1000) :
    Calls Tryz.prog 35 #[va] w fun e w' => ∃ v, e = .returned v ∧ Sl w' 2 v (insAllR [] l).length ((insAllR [] l).flatMap Rl.cells) ∧ Below w.heap.size w w' := by
  by_cases h0 : 0 < l.length
  · obtain ⟨b1, o1, c1, rfl, hc1, hm1, hb1, hx1⟩ := ha.pos h0
    have HX1 := Lib.hid hx1
    clear ha hx1
    go_enter Tryz.func35, Tryz.ntmps35
    go_wp2
    go_loopw [3, 10] (fun vo i wr => ∃ (k : Nat) (acc : List Rl), k ≤ l.length ∧ acc.length ≤ k ∧ i = .int .i64 k ∧ Below w.heap.size w wr ∧ Sl wr 2 vo acc.length (acc.flatMap Rl.cells) ∧ Hid (insAllR [] l = insAllR acc (l.drop k))) (fun _ i _ => l.length - (intOf i).toNat)
    case atStart => exact ⟨0, [], by omega, by simp, rfl, Below.refl _ _, Sl.nil _ _, Lib.hid (by simp)⟩
    case round =>
      obtain ⟨k, acc, hk, hak, rfl, hbw, hso, HI⟩ := hrel
      have HBW := Lib.hid hbw
      have HSO := Lib.hid hso
      have hz := hbw.size
      by_cases hlt : k < l.length
      · obtain ⟨p0, p1⟩ := rl_cell (w := wr) (fun j u hu => (hbw.cell (p := ⟨b1, o1 + j, none⟩) hb1).trans (HX1.out j u hu)) k hlt
        have hbr : b1 < wr.heap.size := Nat.lt_of_lt_of_le hb1 hz
        have HST := Lib.hid (HI.out.trans (insAll_stepR acc l k hlt))
        have hx : l[k] = ⟨l[k].o, l[k].n⟩ := rfl
        generalize l[k].o = x1 at *
        generalize l[k].n = x2 at *
        rw [hx] at HST
        clear hx hbw hso HI
        obtain ⟨ao, co, rfl⟩ := HSO.out.form
        go_wp2_with fail
        have HX := Lib.hid (Blk.new wr #[.string x1, .string x2] 50)
        have HS2 := Lib.hid (HSO.out.below ((Below.refl wr.heap.size wr).alloc (Nat.le_refl _) (.cells #[.string x1, .string x2] 50)))
        refine (ref5_Has _ acc ⟨x1, x2⟩ _ HS2.out.a).mono ?_
        rintro e w2 ⟨rfl, hb2⟩
        have HX2 := Lib.hid (HX.out.below hb2)
        have HS3 := Lib.hid (HS2.out.below hb2)
        have HB2 := Lib.hid ((HBW.out.alloc HBW.out.size _).trans (hb2.mono (Nat.le_trans HBW.out.size (by simp))))
        have hz2 := HB2.out.size
        clear hb2 HX HS2 HSO p0 p1
        cases hh : hasR acc ⟨x1, x2⟩ with
        | true =>
          have HE := Lib.hid (HST.out.trans (by rw [insS_hasR hh]))
          clear hh
          go_wp2_with fail
          exact ⟨⟨k + 1, acc, by omega, by omega, by go_num, HB2.out, HS3.out, HE⟩, by simp [intOf]; omega⟩
        | false =>
          have HE := Lib.hid (HST.out.trans (by rw [insS_notR hh]))
          clear hh HST
          obtain ⟨g, hg⟩ : ∃ g, wr.heap.size = g := ⟨_, rfl⟩
          rw [hg] at HX2 ⊢
          clear hg hbr HBW hz
          go_wp2_with fail
          go_loopw [6] (fun i wr => ∃ j : Nat, j ≤ acc.length ∧ i = .int .i64 j ∧ Below w2.heap.size w2 wr ∧ Hid (∀ m (hm : m < acc.length), m < j → cmpR acc[m] ⟨x1, x2⟩ < 0)) (fun i _ => acc.length - (intOf i).toNat)
          case atStart => exact ⟨0, by omega, rfl, Below.refl _ _, Lib.hid (fun _ _ h => absurd h (by omega))⟩
          case round =>
            obtain ⟨j, hj, rfl, hbj, HJ⟩ := hrel
            have HBJ := Lib.hid hbj
            by_cases hjl : j < acc.length
            · obtain ⟨b2, o2, c2, he2, hc2, hm2, hb2, hx2⟩ := HS3.out.pos (by omega)
              simp only [Value.slice.injEq, true_and] at he2
              obtain ⟨rfl, rfl⟩ := he2
              obtain ⟨q0, q1⟩ := rl_cell (w := wr) (fun m u hu => (hbj.cell (p := ⟨b2, o2 + m, none⟩) hb2).trans (hx2 m u hu)) j hjl
              have hbj2 : b2 < wr.heap.size := Nat.lt_of_lt_of_le hb2 hbj.size
              have HX3 := HX2.out.below hbj
              have cx := HX3.1
              have HBF := fun W => ref3_LessD acc[j] ⟨x1, x2⟩ W
              have d : decide ((j : Int) < (acc.length : Int)) = true := by (rw [decide_eq_true_iff]; omega)
              have HX4 : Blk wr.drew g #[.string x1, .string x2] := HX3
              have HQ4 : Two wr.drew b2 (o2 + j * 2) acc[j] := ⟨q0, q1⟩
              have HB4 : Below w2.heap.size w2 wr.drew := below_drew hbj
              clear hx2 hbj
              cases hlt' : decide (cmpR acc[j] ⟨x1, x2⟩ < 0) with
              | true =>
                have HN : Hid (∀ m (hm : m < acc.length), m < j + 1 → cmpR acc[m] ⟨x1, x2⟩ < 0) := Lib.hid (fun m hm hmj => by
                  by_cases hmj' : m < j
                  · exact HJ.out m hm hmj'
                  · obtain rfl : m = j := by omega
                    exact of_decide_eq_true hlt')
                rw [hlt'] at HBF
                clear hlt'
                go_wp2_with fail
                go_region_held3 (fun W => (∀ o, W.cell? ⟨g, o, none⟩ = (#[.string x1, .string x2] : Array Value)[o]?) ∧ Two W b2 (o2 + j * 2) acc[j])
                  (first | exact ⟨HX4.1, HQ4⟩ | go_keep)
                  ((go_at_call 62; refine (HBF _).mono ?_; rintro e wq ⟨rfl, hbq⟩; have HQ4 := HQ4.below hbj2 hbq; have HX4 := HX4.below hbq; have HB4 := HB4.trans (hbq.mono HB4.size)))
                go_wp2
                exact ⟨⟨j + 1, by omega, by go_num, HB4, HN⟩, by simp [intOf]; omega⟩
              | false =>
                have HLT := Lib.hid hlt'
                rw [hlt'] at HBF
                clear hlt'
                go_wp2_with fail
                go_region_held3 (fun W => (∀ o, W.cell? ⟨g, o, none⟩ = (#[.string x1, .string x2] : Array Value)[o]?) ∧ Two W b2 (o2 + j * 2) acc[j])
                  (first | exact ⟨HX4.1, HQ4⟩ | go_keep)
                  ((go_at_call 62; refine (HBF _).mono ?_; rintro e wq ⟨rfl, hbq⟩; have HQ4 := HQ4.below hbj2 hbq; have HX4 := HX4.below hbq; have HB4 := HB4.trans (hbq.mono HB4.size)))
                have hsb := (HS3.out.below HB4).pos (by omega)
                obtain ⟨b3, o3, c3, he3, hc3, hm3, hb3, hx3⟩ := hsb
                simp only [Value.slice.injEq, Option.some.injEq, Addr.mk.injEq, true_and, and_true] at he3
                obtain ⟨⟨rfl, rfl⟩, rfl⟩ := he3
                have HSB := Lib.hid hx3
                clear hx3
                go_wp2_with (at_builtin; refine halt_ ?_)
                unfold Halt_
                refine app_grow Tryz.underlying23 rl_info' rfl (by decide) (by decide) rfl _ _ rfl (ao := some ⟨wq.heap.size, 0, none⟩) (n := 0) (cap := 0) (olds := []) rfl (by simp) (by simp) (by simp) (b := b2) (off := o2 + j * 2) (m := acc.length - j) (c := co - j) (news := (acc.drop j).flatMap Rl.cells) rfl ?_ ?_ (rls_one _) (by omega) (by omega) ?_
                · rw [flat_len _ 2 Rl.cells_len, List.length_drop]
                · intro i u hu
                  rw [flat_dropR acc j hj] at hu
                  have := HSB.out _ _ hu
                  rw [← Nat.add_assoc] at this
                  exact (World.cell?_alloc_past _ _ _ hb3).trans this
                intro v5 w5 hown5 hb5
                have hwq : wq.heap.size < (wq.alloc (.cells #[] 50)).heap.size := by simp
                have HX5 : Blk w5 g #[.string x1, .string x2] := (HX4.alloc _).below hb5
                have hh5 : b2 < w5.heap.size := Nat.lt_of_lt_of_le hb3 (Nat.le_trans (Nat.le_of_lt hwq) hb5.size)
                have HS5 : ∀ i u, (acc.flatMap Rl.cells)[i]? = some u → w5.cell? ⟨b2, o2 + i, none⟩ = some u := fun i u hu => (hb5.cell (p := ⟨b2, o2 + i, none⟩) (Nat.lt_trans hb3 hwq)).trans ((World.cell?_alloc_past _ _ _ hb3).trans (HSB.out i u hu))
                have HB5 : Below w2.heap.size w2 w5 := (HB4.alloc HB4.size _).trans (hb5.mono (Nat.le_trans HB4.size (Nat.le_of_lt hwq)))
                simp only [Nat.zero_add, List.nil_append] at hown5
                obtain ⟨g5, c5, rfl, hg5a, hg5b⟩ := hown5.form (show 0 < acc.length - j by omega)
                have HO5 := Lib.hid hown5
                have HB5' := Lib.hid HB5
                obtain ⟨inf, hi, hz0, hz1, hz2⟩ := info_parts rl_info'
                have HINF := Lib.hid hi
                have HX6 : Blk w5.drew g #[.string x1, .string x2] := HX5
                have HSX := Lib.hid (fun i u (hu : (acc.flatMap Rl.cells)[i]? = some u) => show w5.drew.cell? ⟨b2, o2 + i, none⟩ = some u from HS5 i u hu)
                have HOD := Lib.hid (show w5.drew.ownsRow _ _ 2 _ _ _ from hown5)
                have c5x := HX5.1
                have hgb : g < (w5.drew.alloc (.cells #[.string x1, .string x2] 50)).heap.size := Nat.lt_of_lt_of_le HX6.2.2 (((Below.refl _ w5.drew).alloc (Nat.le_refl _) _).size)
                have hi1 : (0 : Int) ≤ (j : Int) := by omega
                have hi2 : (j : Int) ≤ (acc.length : Int) := by omega
                have hi3 : (j : Int) ≤ (co : Int) := by omega
                clear hown5 hb5 HS5 HB5 HX5 HX4 HB4 HQ4 hi HBF hwq hb3 hbq cx HX3 q0 q1 d
                go_wp2_with fail
                go_region_held3 (fun W => ∀ o, W.cell? ⟨g, o, none⟩ = (#[.string x1, .string x2] : Array Value)[o]?)
                  (first | exact HX6.1 | exact (HX6.alloc _).1 | exact HX7.1 | exact HX9.1 | go_keep)
                  (first
                    | (refine step_append_grows rfl _ _ 23 rfl 50 inf _ 2 32 Tryz.underlying23 HINF.out hz0 hz1 hz2 rfl (Nat.le_of_ble_eq_true rfl) (some ⟨b2, o2, none⟩) j j ((acc.take j).flatMap Rl.cells) rfl ?_ (take_len9R acc j hj) ?_ ⟨w5.heap.size, 0, none⟩ 1 1 (Rl.cells ⟨x1, x2⟩) rfl rfl ?_ (rl1 x1 x2) (Nat.lt_succ_self _) ?_ ?_ ?_; (intro h; cases h); (intro b hb i u hu; cases hb; rw [addr_add]; exact (World.cell?_alloc_past _ _ _ hh5).trans (HSX.out i u (flat_takeR acc j i u hu))); exact cells_new _ _ _ _ rfl; (simp only [maxLen]; omega); omega; intro v7 w7 hown7 hg7; have hb7 := below_of_none hg7; have HX7 := (HX6.alloc _).below hb7; have HO7 := own_below (own_below HOD.out ((Below.refl _ _).alloc (Nat.le_refl _) _)) hb7)
                    | (refine step_append_lies _ rfl _ _ 23 rfl _ 50 inf _ 2 32 Tryz.underlying23 HINF.out hz0 hz1 hz2 rfl (Nat.le_of_ble_eq_true rfl) v7 (j + 1) _ rfl hown7 ⟨g5, 0, none⟩ (acc.length - j) c5 ((acc.drop j).flatMap Rl.cells) rfl (drop_len9R acc j) (HO7.cells (g := g5) rfl) (rls_one _) ?_ ?_ ?_ hb7.size _ rfl ?_; omega; (simp only [maxLen]; omega); omega; intro g9 c9 w9 hown9 hg9 hor9 hlt9; have HX9 := HX7.grown hg9 (own_gt_ne hown7 hgb)))
                have HBw5 := HB2.out.trans (HB5'.out.mono HB2.out.size)
                have HBw6 := (below_drew HBw5).alloc (B := w.heap.size) HBw5.size (.cells #[.string x1, .string x2] 50)
                have HBw7 := HBw6.trans (hb7.mono HBw6.size)
                have HB9 := Lib.hid (below_own HBw7 hown7 hg9 HBw7.size HBw6.size)
                have HSL9 := Lib.hid (Sl.of_own hown9)
                have HPS := Lib.hid (pos_ofR acc ⟨x1, x2⟩ j hj HJ.out (fun _ => of_decide_eq_false HLT.out))
                clear hown9 hg9 hown7 hg7 hb7 HX9 HX7 HO7 HBw5 HBw6 HBw7
                go_wp2
                exact ⟨⟨k + 1, insAtR acc ⟨x1, x2⟩ j, by omega, by rw [insAt_lenR hj]; omega, by go_num, HB9.out, by rw [insAt_lenR hj, ← sl_appR hj]; exact HSL9.out, Lib.hid (by rw [HE.out, HPS.out])⟩, by simp [intOf]; omega⟩
            · obtain rfl : j = acc.length := by omega
              have HPS := Lib.hid (pos_ofR acc ⟨x1, x2⟩ acc.length (Nat.le_refl _) HJ.out (fun h => absurd h hjl))
              obtain ⟨inf, hi, hz0, hz1, hz2'⟩ := info_parts rl_info'
              have HINF := Lib.hid hi
              have HX3 := HX2.out.below hbj
              have cx := HX3.1
              have d : decide ((acc.length : Int) < (acc.length : Int)) = false := by (rw [decide_eq_false_iff_not]; omega)
              clear hi hjl hj
              rcases HS3.out.2.2 with ⟨hv, hn0⟩ | ⟨b2, o2, c2, hv, hc2, hm2, hb2, hx2⟩
              · skip
                have hacc : acc = [] := List.eq_nil_of_length_eq_zero hn0
                simp only [Value.slice.injEq, true_and] at hv
                obtain ⟨rfl, -, rfl⟩ := hv
                simp only [hn0]
                clear d
                clear hbj
                go_wp2_with fail
                go_big_quiet (fail)
                go_wp2_with (at_builtin; refine halt_ ?_)
                unfold Halt_
                refine app_zero _ rfl _ _ 23 rfl 50 inf Tryz.underlying23 HINF.out (some ⟨wr.heap.size, 0, none⟩) 0 0 (Nat.le_refl _) rfl _ _ rfl ?_
                obtain ⟨w5, hw5⟩ : ∃ w5, w5 = (wr.drewN nq).alloc (.cells #[] 50) := ⟨_, rfl⟩
                have hb5 : Below wr.heap.size wr w5 := by rw [hw5]; exact (below_drewN (Below.refl _ _) _).alloc (Nat.le_refl _) _
                have hh0 : wr.heap.size ≤ w5.heap.size := hb5.size
                rw [← hw5]
                have HX5 : Blk w5 g #[.string x1, .string x2] := HX3.below hb5
                have HB5' := Lib.hid (HBJ.out.trans (hb5.mono HBJ.out.size))
                have HX6 : Blk w5.drew g #[.string x1, .string x2] := HX5
                have c5x := HX5.1
                have hgb : g < (w5.drew.alloc (.cells #[.string x1, .string x2] 50)).heap.size := Nat.lt_of_lt_of_le HX6.2.2 (((Below.refl _ w5.drew).alloc (Nat.le_refl _) _).size)
                clear hw5 hb5 HX5 HX3 cx
                go_wp2_with fail
                go_region_held3 (fun W => ∀ o, W.cell? ⟨g, o, none⟩ = (#[.string x1, .string x2] : Array Value)[o]?)
                  (first | exact HX6.1 | exact (HX6.alloc _).1 | exact HX7.1 | go_keep)
                  (first
                    | (refine step_append_grows rfl _ _ 23 rfl 50 inf _ 2 32 Tryz.underlying23 HINF.out hz0 hz1 hz2' rfl (Nat.le_of_ble_eq_true rfl) none 0 0 [] rfl ?_ rfl ?_ ⟨w5.heap.size, 0, none⟩ 1 1 (Rl.cells ⟨x1, x2⟩) rfl rfl ?_ (rl1 x1 x2) (Nat.lt_succ_self _) ?_ ?_ ?_; (intro _; exact ⟨rfl, rfl⟩); (intro b hb; cases hb); exact cells_new _ _ _ _ rfl; (simp only [maxLen]; omega); omega; intro v7 w7 hown7 hg7; obtain ⟨a7, c7, rfl, hc7⟩ := own_form2 hown7; have hb7 := below_of_none hg7; have HX7 := (HX6.alloc _).below hb7)
                    | (refine step_zero _ rfl _ _ 23 rfl 50 inf Tryz.underlying23 HINF.out _ _ c7 hc7 rfl _ _ rfl ?_))
                have HBw5 := HB2.out.trans (HB5'.out.mono HB2.out.size)
                have HBw6 := (below_drew HBw5).alloc (B := w.heap.size) HBw5.size (.cells #[.string x1, .string x2] 50)
                have HB9 := Lib.hid (HBw6.trans (hb7.mono HBw6.size))
                have HSL9 := Lib.hid (Sl.of_own hown7)
                clear hg7 hb7 hown7 HX7 HBw5 HBw6
                go_wp2
                exact ⟨⟨k + 1, insAtR acc ⟨x1, x2⟩ acc.length, by omega, by rw [insAt_endR]; omega, by go_num, HB9.out, by rw [insAt_endR, ← app_endR, hacc]; exact HSL9.out, Lib.hid (by rw [HE.out, HPS.out])⟩, by simp [intOf]; omega⟩
              · simp only [Value.slice.injEq, true_and] at hv
                obtain ⟨rfl, rfl⟩ := hv
                by_cases hco : co = acc.length
                · skip
                  subst hco
                  clear hbj
                  go_wp2_with fail
                  go_big_quiet (fail)
                  go_wp2_with (at_builtin; refine halt_ ?_)
                  unfold Halt_
                  refine app_zero _ rfl _ _ 23 rfl 50 inf Tryz.underlying23 HINF.out (some ⟨wr.heap.size, 0, none⟩) 0 0 (Nat.le_refl _) rfl _ _ rfl ?_
                  obtain ⟨w5, hw5⟩ : ∃ w5, w5 = (wr.drewN nq).alloc (.cells #[] 50) := ⟨_, rfl⟩
                  have hb5 : Below wr.heap.size wr w5 := by rw [hw5]; exact (below_drewN (Below.refl _ _) _).alloc (Nat.le_refl _) _
                  have hh0 : wr.heap.size ≤ w5.heap.size := hb5.size
                  rw [← hw5]
                  have HX5 : Blk w5 g #[.string x1, .string x2] := HX3.below hb5
                  have HB5' := Lib.hid (HBJ.out.trans (hb5.mono HBJ.out.size))
                  have hh5 : b2 < w5.heap.size := Nat.lt_of_lt_of_le hb2 HB5'.out.size
                  have HSX := Lib.hid (fun i u (hu : (acc.flatMap Rl.cells)[i]? = some u) => show w5.drew.cell? ⟨b2, o2 + i, none⟩ = some u from (HB5'.out.cell (p := ⟨b2, o2 + i, none⟩) hb2).trans (hx2 i u hu))
                  have hi1 : (0 : Int) ≤ (acc.length : Int) := by omega
                  have hi3 : (acc.length : Int) ≤ (acc.length : Int) := by omega
                  have HX6 : Blk w5.drew g #[.string x1, .string x2] := HX5
                  have c5x := HX5.1
                  have hgb : g < (w5.drew.alloc (.cells #[.string x1, .string x2] 50)).heap.size := Nat.lt_of_lt_of_le HX6.2.2 (((Below.refl _ w5.drew).alloc (Nat.le_refl _) _).size)
                  clear hw5 hb5 HX5 HX3 cx hx2
                  go_wp2_with fail
                  go_region_held3 (fun W => ∀ o, W.cell? ⟨g, o, none⟩ = (#[.string x1, .string x2] : Array Value)[o]?)
                    (first | exact HX6.1 | exact (HX6.alloc _).1 | exact HX7.1 | go_keep)
                    (first
                      | (refine step_append_grows rfl _ _ 23 rfl 50 inf _ 2 32 Tryz.underlying23 HINF.out hz0 hz1 hz2' rfl (Nat.le_of_ble_eq_true rfl) (some ⟨b2, o2, none⟩) acc.length acc.length (acc.flatMap Rl.cells) rfl ?_ (flat_len _ 2 Rl.cells_len acc) ?_ ⟨w5.heap.size, 0, none⟩ 1 1 (Rl.cells ⟨x1, x2⟩) rfl rfl ?_ (rl1 x1 x2) (Nat.lt_succ_self _) ?_ ?_ ?_; (intro h; cases h); (intro b hb i u hu; cases hb; rw [addr_add]; exact (World.cell?_alloc_past _ _ _ hh5).trans (HSX.out i u hu)); exact cells_new _ _ _ _ rfl; (simp only [maxLen]; omega); omega; intro v7 w7 hown7 hg7; obtain ⟨a7, c7, rfl, hc7⟩ := own_form2 hown7; have hb7 := below_of_none hg7; have HX7 := (HX6.alloc _).below hb7)
                      | (refine step_zero _ rfl _ _ 23 rfl 50 inf Tryz.underlying23 HINF.out _ _ c7 hc7 rfl _ _ rfl ?_))
                  have HBw5 := HB2.out.trans (HB5'.out.mono HB2.out.size)
                  have HBw6 := (below_drew HBw5).alloc (B := w.heap.size) HBw5.size (.cells #[.string x1, .string x2] 50)
                  have HB9 := Lib.hid (HBw6.trans (hb7.mono HBw6.size))
                  have HSL9 := Lib.hid (Sl.of_own hown7)
                  clear hg7 hb7 hown7 HX7 HBw5 HBw6
                  go_wp2
                  exact ⟨⟨k + 1, insAtR acc ⟨x1, x2⟩ acc.length, by omega, by rw [insAt_endR]; omega, by go_num, HB9.out, by rw [insAt_endR, ← app_endR]; exact HSL9.out, Lib.hid (by rw [HE.out, HPS.out])⟩, by simp [intOf]; omega⟩
                · skip
                  have hco2 : acc.length < co := by omega
                  clear hbj
                  go_wp2_with fail
                  go_big_quiet (fail)
                  go_wp2_with (at_builtin; refine halt_ ?_)
                  unfold Halt_
                  refine app_zero _ rfl _ _ 23 rfl 50 inf Tryz.underlying23 HINF.out (some ⟨wr.heap.size, 0, none⟩) 0 0 (Nat.le_refl _) rfl _ _ rfl ?_
                  obtain ⟨w5, hw5⟩ : ∃ w5, w5 = (wr.drewN nq).alloc (.cells #[] 50) := ⟨_, rfl⟩
                  have hb5 : Below wr.heap.size wr w5 := by rw [hw5]; exact (below_drewN (Below.refl _ _) _).alloc (Nat.le_refl _) _
                  have hh0 : wr.heap.size ≤ w5.heap.size := hb5.size
                  rw [← hw5]
                  have HX5 : Blk w5 g #[.string x1, .string x2] := HX3.below hb5
                  have HB5' := Lib.hid (HBJ.out.trans (hb5.mono HBJ.out.size))
                  have hh5 : b2 < w5.heap.size := Nat.lt_of_lt_of_le hb2 HB5'.out.size
                  have HSX := Lib.hid (fun i u (hu : (acc.flatMap Rl.cells)[i]? = some u) => show w5.drew.cell? ⟨b2, o2 + i, none⟩ = some u from (HB5'.out.cell (p := ⟨b2, o2 + i, none⟩) hb2).trans (hx2 i u hu))
                  have hi1 : (0 : Int) ≤ (acc.length : Int) := by omega
                  have hi3 : (acc.length : Int) ≤ (co : Int) := by omega
                  have HX6 : Blk w5.drew g #[.string x1, .string x2] := HX5
                  have c5x := HX5.1
                  have hgb : g < (w5.drew.alloc (.cells #[.string x1, .string x2] 50)).heap.size := Nat.lt_of_lt_of_le HX6.2.2 (((Below.refl _ w5.drew).alloc (Nat.le_refl _) _).size)
                  clear hw5 hb5 HX5 HX3 cx hx2
                  go_wp2_with fail
                  go_region_held3 (fun W => ∀ o, W.cell? ⟨g, o, none⟩ = (#[.string x1, .string x2] : Array Value)[o]?)
                    (first | exact HX6.1 | exact (HX6.alloc _).1 | exact HX7.1 | go_keep)
                    (first
                      | (refine step_append_grows rfl _ _ 23 rfl 50 inf _ 2 32 Tryz.underlying23 HINF.out hz0 hz1 hz2' rfl (Nat.le_of_ble_eq_true rfl) (some ⟨b2, o2, none⟩) acc.length acc.length (acc.flatMap Rl.cells) rfl ?_ (flat_len _ 2 Rl.cells_len acc) ?_ ⟨w5.heap.size, 0, none⟩ 1 1 (Rl.cells ⟨x1, x2⟩) rfl rfl ?_ (rl1 x1 x2) (Nat.lt_succ_self _) ?_ ?_ ?_; (intro h; cases h); (intro b hb i u hu; cases hb; rw [addr_add]; exact (World.cell?_alloc_past _ _ _ hh5).trans (HSX.out i u hu)); exact cells_new _ _ _ _ rfl; (simp only [maxLen]; omega); omega; intro v7 w7 hown7 hg7; obtain ⟨a7, c7, rfl, hc7⟩ := own_form2 hown7; have hb7 := below_of_none hg7; have HX7 := (HX6.alloc _).below hb7)
                      | (refine step_zero _ rfl _ _ 23 rfl 50 inf Tryz.underlying23 HINF.out _ _ c7 hc7 rfl _ _ rfl ?_))
                  have HBw5 := HB2.out.trans (HB5'.out.mono HB2.out.size)
                  have HBw6 := (below_drew HBw5).alloc (B := w.heap.size) HBw5.size (.cells #[.string x1, .string x2] 50)
                  have HB9 := Lib.hid (HBw6.trans (hb7.mono HBw6.size))
                  have HSL9 := Lib.hid (Sl.of_own hown7)
                  clear hg7 hb7 hown7 HX7 HBw5 HBw6
                  go_wp2
                  exact ⟨⟨k + 1, insAtR acc ⟨x1, x2⟩ acc.length, by omega, by rw [insAt_endR]; omega, by go_num, HB9.out, by rw [insAt_endR, ← app_endR]; exact HSL9.out, Lib.hid (by rw [HE.out, HPS.out])⟩, by simp [intOf]; omega⟩
      · have R := Lib.hid (HI.out.trans (insAll_endR acc l k hlt))
        obtain ⟨ao, co, rfl⟩ := hso.form
        clear hbw hso
        go_wp2
        go_ret
        exact ⟨_, rfl, by rw [R.out]; exact HSO.out, HBW.out⟩
  · obtain ⟨a1, c1, rfl⟩ := ha.form
    obtain rfl : l = [] := List.eq_nil_of_length_eq_zero (by omega)
    clear ha h0 hl
    go_enter Tryz.func35, Tryz.ntmps35
    go_wp2
    go_loopw [3, 10] (fun vo i wr => vo = .slice none 0 0 ∧ i = .int .i64 0 ∧ wr = w) (fun _ _ _ => 0)
    case atStart => exact ⟨rfl, rfl, rfl⟩
    case round =>
      obtain ⟨rfl, rfl, rfl⟩ := hrel
      go_wp2
      go_ret
      exact ⟨_, rfl, Sl.nil _ _, Below.refl _ _⟩

end Go.Proofs.YtmpanikeeeoikaaGreat
