/- crupperref05.Prins, Names, Fits: some row of texts, some bool comes back (printed by gen_prins.py). -/
import Derived.Test.YtmpanikeeeoikaaStrRows
import Derived.Test.YtmpanikeeeoikaaRefRoles
namespace Go.Proofs.Ytmpanikeeeoikaa
open Go.RowKit Go.Shelf

theorem put_row (v : Value) (n : Nat) (s : ByteArray) (w : World) (h : RowS w v n) (hs : s.size ≤ 9223372036854775807) (hn : n ≤ 100000) :
    Calls Try.prog 84 #[v, .string s] w fun e w' => ∃ v', e = .returned v' ∧ RowS w' v' (n + 1) ∧ Below w.heap.size w w' := by
  obtain ⟨ss, h1, h2, h3⟩ := h
  refine (ref1_Put v ss s w h1 h3 hs (by omega)).mono ?_
  rintro e w' ⟨v', he, hr, hb⟩
  exact ⟨v', he, hr.mono (by omega), hb⟩

set_option maxRecDepth 100000 in
set_option maxHeartbeats 8000000 in
theorem ref5_Prins (v0 v1 v2 v3 : Value) (l : List St) (g h : List Rl) (qs : List Qv) (w : World) (hp : PolAt w v0 v1 v2 v3 l g h qs) (hl : l.length ≤ 100) (hg : g.length ≤ 100) (hh : h.length ≤ 100) (hq : qs.length ≤ 100) (hq40 : ∀ q ∈ qs, q.okN 40 w) :
    Calls Try.prog 72 #[pv v0 v1 v2 v3] w fun e w' => ∃ v, e = .returned v ∧ RowS w' v 10000 ∧ Below w.heap.size w w' := by
  have HP := Lib.hid hp
  have HR := Lib.hid (fun W (hb : Below w.heap.size w W) => ref5_Roles v0 v1 v2 v3 l g h qs W (hp.below hb) hl hg hh hq)
  have HQ4 := Lib.hid hq40
  obtain ⟨a0, c0, rfl⟩ := hp.rs.form
  obtain ⟨a1, c1, rfl⟩ := hp.rg.form
  obtain ⟨a2, c2, rfl⟩ := hp.rh.form
  obtain ⟨a3, c3, rfl⟩ := hp.rq.form
  have HT := Lib.hid (show OneAt w #[.slice a0 l.length c0, .slice a1 g.length c1, .slice a2 h.length c2, .slice a3 qs.length c3] (w.alloc (.cells #[.slice a0 l.length c0, .slice a1 g.length c1, .slice a2 h.length c2, .slice a3 qs.length c3] 26)) from ⟨Blk.new w _ _, (Below.refl _ _).alloc (Nat.le_refl _) _⟩)
  clear hp hq40
  go_enter Try.func72, Try.ntmps72
  go_wp2_with fail
  refine (HR.out _ HT.out.low).mono ?_
  rintro e w1 ⟨vr, rfl, hrr, hb1⟩
  have HT := Lib.hid (HT.out.later hb1)
  obtain ⟨rs, hr1, hr2, hr3⟩ := hrr
  have HRS := Lib.hid hr1
  have HRL := Lib.hid hr3
  obtain ⟨ro, rc, rfl⟩ := hr1.form
  clear hb1 hr1 hr3
  go_wp2_with fail
  go_loopw [3, 15] (fun vo i wr => ∃ (k : Nat) (vx : Value), k ≤ rs.length ∧ vx = vo ∧ i = .int .i64 k ∧ Hid (RowS wr vx k) ∧ Hid (OneAt w #[.slice a0 l.length c0, .slice a1 g.length c1, .slice a2 h.length c2, .slice a3 qs.length c3] wr) ∧ Hid (Below w1.heap.size w1 wr)) (fun _ i _ => rs.length - (intOf i).toNat)
  case atStart => exact ⟨0, _, by omega, rfl, rfl, Lib.hid (RowS.nil _), HT, Lib.hid (Below.refl _ _)⟩
  case round =>
    clear HT
    obtain ⟨k, vx, hk, rfl, rfl, HO, HT, HB⟩ := hrel
    by_cases hlt : k < rs.length
    · obtain ⟨b1, o1, e1, he1, hc1, hm1', hb1, hx1⟩ := HRS.out.pos (by omega)
      simp only [Value.slice.injEq, true_and] at he1
      obtain ⟨rfl, rfl⟩ := he1
      obtain ⟨p0, p1⟩ := rl_cell (w := wr) (fun j u hu => (HB.out.cell (p := ⟨b1, o1 + j, none⟩) hb1).trans (hx1 j u hu)) k hlt
      have hbr : b1 < wr.heap.size := Nat.lt_of_lt_of_le hb1 HB.out.size
      have l1 := HRL.out _ (List.getElem_mem hlt)
      clear hx1
      generalize rs[k] = x at *
      obtain ⟨x1, x2⟩ := x
      have hba : Below wr.heap.size wr (wr.alloc (.cells #[.string x1, .string x2] 28)) := (Below.refl _ _).alloc (Nat.le_refl _) _
      have PC := Lib.hid (put_row vx k x1 _ (HO.out.below hba) l1.1 (by omega))
      have HT2 := Lib.hid (HT.out.later hba)
      have HB2 := Lib.hid (HB.out.trans (hba.mono HB.out.size))
      clear hba l1
      go_wp2_with fail
      refine PC.out.mono ?_
      rintro e w3 ⟨vz, rfl, hr, hb3⟩
      have HR3 := Lib.hid hr
      have HT3 := Lib.hid (HT2.out.later hb3)
      have HB3 := Lib.hid (HB2.out.trans (hb3.mono HB2.out.size))
      clear hr hb3
      go_wp2
      exact ⟨⟨k + 1, _, by omega, rfl, by go_num, HR3, HT3, HB3⟩, by simp [intOf]; omega⟩
    · obtain ⟨ca, fa, za⟩ := HT.out.a
      have HO := Lib.hid (HO.out.mono (show k ≤ 1000 by omega))
      clear HB HRS HRL hk
      go_wp2_with fail
      clear ca fa za
      go_loopw [3, 27] (fun vo i wr => ∃ (k : Nat) (vx : Value), k ≤ l.length ∧ vx = vo ∧ i = .int .i64 k ∧ Hid (RowS wr vx (1000 + k)) ∧ Hid (OneAt w #[.slice a0 l.length c0, .slice a1 g.length c1, .slice a2 h.length c2, .slice a3 qs.length c3] wr)) (fun _ i _ => l.length - (intOf i).toNat)
      case atStart => exact ⟨0, _, by omega, rfl, rfl, HO, HT⟩
      case round =>
        clear HT HO
        obtain ⟨k, vx, hk, rfl, rfl, HO, HT⟩ := hrel
        by_cases hlt : k < l.length
        · obtain ⟨b1, o1, e1, he1, hc1, hm1', hb1, hx1⟩ := HP.out.rs.pos (by omega)
          simp only [Value.slice.injEq, true_and] at he1
          obtain ⟨rfl, rfl⟩ := he1
          obtain ⟨p0, p1, p2, p3, p4, p5, p6, p7, p8⟩ := st_cell (w := wr) (fun j u hu => (HT.out.low.cell (p := ⟨b1, o1 + j, none⟩) hb1).trans (hx1 j u hu)) k hlt
          have hbr : b1 < wr.heap.size := Nat.lt_of_lt_of_le hb1 HT.out.low.size
          have hxl := HP.out.ls _ (List.getElem_mem hlt)
          clear hx1
          generalize l[k] = x at *
          obtain ⟨xk, ⟨x1, x2⟩, xw, ⟨x3, x4⟩, ⟨x5, x6⟩, xv⟩ := x
          have hba : Below wr.heap.size wr (wr.alloc (.cells #[.int .i64 xk, .string x1, .string x2, .string xw, .string x3, .string x4, .string x5, .string x6, .string xv] 30)) := (Below.refl _ _).alloc (Nat.le_refl _) _
          have PC := Lib.hid (put_row vx (1000 + k) xw _ (HO.out.below hba) hxl.2.1 (by omega))
          have HT2 := Lib.hid (HT.out.later hba)
          have HO2 := Lib.hid (HO.out.below hba)
          clear hba hxl
          by_cases hkk : xk = 1
          · have d1 : (xk == 1) = true := by simp [hkk]
            clear hkk
            go_wp2_with fail
            refine PC.out.mono ?_
            rintro e w3 ⟨vz, rfl, hr, hb3⟩
            have HR3 := Lib.hid hr
            have HT3 := Lib.hid (HT2.out.later hb3)
            clear hr hb3
            go_wp2
            exact ⟨⟨k + 1, _, by omega, rfl, by go_num, HR3, HT3⟩, by simp [intOf]; omega⟩
          · have d1 : (xk == 1) = false := by simp [hkk]
            clear hkk
            go_wp2
            exact ⟨⟨k + 1, _, by omega, rfl, by go_num, Lib.hid (HO2.out.mono (by omega)), HT2⟩, by simp [intOf]; omega⟩
        · obtain ⟨ca, fa, za⟩ := HT.out.a
          have HO := Lib.hid (HO.out.mono (show 1000 + k ≤ 1100 by omega))
          clear hk
          go_wp2_with fail
          clear ca fa za
          go_loopw [3, 42] (fun vo i wr => ∃ (k : Nat) (vx : Value), k ≤ qs.length ∧ vx = vo ∧ i = .int .i64 k ∧ Hid (RowS wr vx (1100 + 40 * k)) ∧ Hid (OneAt w #[.slice a0 l.length c0, .slice a1 g.length c1, .slice a2 h.length c2, .slice a3 qs.length c3] wr)) (fun _ i _ => qs.length - (intOf i).toNat)
          case atStart => exact ⟨0, _, by omega, rfl, rfl, HO, HT⟩
          case round =>
            clear HT HO
            obtain ⟨k, vx, hk, rfl, rfl, HO, HT⟩ := hrel
            by_cases hlt : k < qs.length
            · obtain ⟨b1, o1, e1, he1, hc1, hm1', hb1, hx1⟩ := HP.out.rq.pos (by omega)
              simp only [Value.slice.injEq, true_and] at he1
              obtain ⟨rfl, rfl⟩ := he1
              obtain ⟨p0, p1, p2, p3, p4, p5⟩ := q_cell (w := wr) (fun j u hu => (HT.out.low.cell (p := ⟨b1, o1 + j, none⟩) hb1).trans (hx1 j u hu)) k hlt
              have hbr : b1 < wr.heap.size := Nat.lt_of_lt_of_le hb1 HT.out.low.size
              obtain ⟨_, _, us, hu1, hu2, hu3⟩ := HQ4.out _ (List.getElem_mem hlt)
              have HU := Lib.hid hu1
              have HUZ := Lib.hid hu3
              obtain ⟨wo, wc, hw5⟩ := hu1.form
              clear hx1 hu1 hu3
              generalize qs[k] = x at *
              obtain ⟨xk, ⟨x1, x2⟩, ⟨x3, x4⟩, xw⟩ := x
              dsimp only at hw5 HU
              subst hw5
              obtain ⟨nw, hnw⟩ : ∃ nw, nw = us.length := ⟨_, rfl⟩
              have HNW := Lib.hid hnw
              rw [← hnw] at p5 HU hu2
              clear hnw
              have hba : Below wr.heap.size wr (wr.alloc (.cells #[.int .i64 xk, .string x1, .string x2, .string x3, .string x4, .slice wo nw wc] 51)) := (Below.refl _ _).alloc (Nat.le_refl _) _
              have HT2 := Lib.hid (HT.out.later hba)
              have HO2 := Lib.hid (HO.out.below hba)
              clear hba
              go_wp2_with fail
              go_loopw [3, 49] (fun vo i wr => ∃ (j : Nat) (vx : Value), j ≤ nw ∧ vx = vo ∧ i = .int .i64 j ∧ Hid (RowS wr vx (1100 + 40 * k + j)) ∧ Hid (OneAt w #[.slice a0 l.length c0, .slice a1 g.length c1, .slice a2 h.length c2, .slice (some ⟨b1, o1, none⟩) qs.length c3] wr)) (fun _ i _ => nw - (intOf i).toNat)
              case atStart => exact ⟨0, _, by omega, rfl, rfl, HO2, HT2⟩
              case round =>
                clear HT HO HT2 HO2
                obtain ⟨j, vx, hj, rfl, rfl, HO, HT⟩ := hrel
                by_cases hlj : j < nw
                · obtain ⟨b1, o1, e1, he1, hc1, hm1', hb1, hx1⟩ := HU.out.pos (by omega)
                  simp only [Value.slice.injEq, true_and] at he1
                  obtain ⟨rfl, rfl⟩ := he1
                  have hju : j < us.length := by have := HNW.out; omega
                  have p0 := (HT.out.low.cell (p := ⟨b1, o1 + j, none⟩) hb1).trans (hx1 j _ (strs_get hju))
                  have hbr : b1 < wr.heap.size := Nat.lt_of_lt_of_le hb1 HT.out.low.size
                  have PC := Lib.hid (put_row vx (1100 + 40 * k + j) us[j] _ HO.out (HUZ.out _ (List.getElem_mem hju)) (by omega))
                  clear hx1
                  generalize us[j] = s at *
                  go_wp2_with fail
                  refine PC.out.mono ?_
                  rintro e w3 ⟨vz, rfl, hr, hb3⟩
                  have HR3 := Lib.hid hr
                  have HT3 := Lib.hid (HT.out.later hb3)
                  clear hr hb3
                  go_wp2
                  exact ⟨⟨j + 1, _, by omega, rfl, by go_num, HR3, HT3⟩, by simp [intOf]; omega⟩
                · have HO3 := Lib.hid (HO.out.mono (show 1100 + 40 * k + j ≤ 1100 + 40 * (k + 1) by omega))
                  go_wp2
                  exact ⟨⟨k + 1, _, by omega, rfl, by go_num, HO3, HT⟩, by simp [intOf]; omega⟩
            · have HO3 := Lib.hid (HO.out.mono (show 1100 + 40 * k ≤ 10000 by omega))
              go_wp2
              go_ret
              exact ⟨_, rfl, HO3.out, HT.out.low⟩

set_option maxRecDepth 100000 in
set_option maxHeartbeats 8000000 in
theorem ref5_Names (v0 v1 v2 v3 : Value) (l : List St) (g h : List Rl) (qs : List Qv) (w : World) (hp : PolAt w v0 v1 v2 v3 l g h qs) (hl : l.length ≤ 100) (hg : g.length ≤ 100) (hh : h.length ≤ 100) (hq : qs.length ≤ 100) (hq40 : ∀ q ∈ qs, q.okN 40 w) :
    Calls Try.prog 73 #[pv v0 v1 v2 v3] w fun e w' => ∃ v, e = .returned v ∧ RowS w' v 10000 ∧ Below w.heap.size w w' := by
  have HP := Lib.hid hp
  have HR := Lib.hid (fun W (hb : Below w.heap.size w W) => ref5_Roles v0 v1 v2 v3 l g h qs W (hp.below hb) hl hg hh hq)
  have HQ4 := Lib.hid hq40
  obtain ⟨a0, c0, rfl⟩ := hp.rs.form
  obtain ⟨a1, c1, rfl⟩ := hp.rg.form
  obtain ⟨a2, c2, rfl⟩ := hp.rh.form
  obtain ⟨a3, c3, rfl⟩ := hp.rq.form
  have HT := Lib.hid (show OneAt w #[.slice a0 l.length c0, .slice a1 g.length c1, .slice a2 h.length c2, .slice a3 qs.length c3] (w.alloc (.cells #[.slice a0 l.length c0, .slice a1 g.length c1, .slice a2 h.length c2, .slice a3 qs.length c3] 26)) from ⟨Blk.new w _ _, (Below.refl _ _).alloc (Nat.le_refl _) _⟩)
  clear hp hq40
  go_enter Try.func73, Try.ntmps73
  go_wp2_with fail
  refine (HR.out _ HT.out.low).mono ?_
  rintro e w1 ⟨vr, rfl, hrr, hb1⟩
  have HT := Lib.hid (HT.out.later hb1)
  obtain ⟨rs, hr1, hr2, hr3⟩ := hrr
  have HRS := Lib.hid hr1
  have HRL := Lib.hid hr3
  obtain ⟨ro, rc, rfl⟩ := hr1.form
  clear hb1 hr1 hr3
  go_wp2_with fail
  go_loopw [3, 11] (fun vo i wr => ∃ (k : Nat) (vx : Value), k ≤ rs.length ∧ vx = vo ∧ i = .int .i64 k ∧ Hid (RowS wr vx k) ∧ Hid (OneAt w #[.slice a0 l.length c0, .slice a1 g.length c1, .slice a2 h.length c2, .slice a3 qs.length c3] wr) ∧ Hid (Below w1.heap.size w1 wr)) (fun _ i _ => rs.length - (intOf i).toNat)
  case atStart => exact ⟨0, _, by omega, rfl, rfl, Lib.hid (RowS.nil _), HT, Lib.hid (Below.refl _ _)⟩
  case round =>
    clear HT
    obtain ⟨k, vx, hk, rfl, rfl, HO, HT, HB⟩ := hrel
    by_cases hlt : k < rs.length
    · obtain ⟨b1, o1, e1, he1, hc1, hm1', hb1, hx1⟩ := HRS.out.pos (by omega)
      simp only [Value.slice.injEq, true_and] at he1
      obtain ⟨rfl, rfl⟩ := he1
      obtain ⟨p0, p1⟩ := rl_cell (w := wr) (fun j u hu => (HB.out.cell (p := ⟨b1, o1 + j, none⟩) hb1).trans (hx1 j u hu)) k hlt
      have hbr : b1 < wr.heap.size := Nat.lt_of_lt_of_le hb1 HB.out.size
      have l1 := HRL.out _ (List.getElem_mem hlt)
      clear hx1
      generalize rs[k] = x at *
      obtain ⟨x1, x2⟩ := x
      have hba : Below wr.heap.size wr (wr.alloc (.cells #[.string x1, .string x2] 28)) := (Below.refl _ _).alloc (Nat.le_refl _) _
      have PC := Lib.hid (put_row vx k x2 _ (HO.out.below hba) l1.2 (by omega))
      have HT2 := Lib.hid (HT.out.later hba)
      have HB2 := Lib.hid (HB.out.trans (hba.mono HB.out.size))
      clear hba l1
      go_wp2_with fail
      refine PC.out.mono ?_
      rintro e w3 ⟨vz, rfl, hr, hb3⟩
      have HR3 := Lib.hid hr
      have HT3 := Lib.hid (HT2.out.later hb3)
      have HB3 := Lib.hid (HB2.out.trans (hb3.mono HB2.out.size))
      clear hr hb3
      go_wp2
      exact ⟨⟨k + 1, _, by omega, rfl, by go_num, HR3, HT3, HB3⟩, by simp [intOf]; omega⟩
    · obtain ⟨ca, fa, za⟩ := HT.out.a
      have HO := Lib.hid (HO.out.mono (show k ≤ 1000 by omega))
      clear HB HRS HRL hk
      go_wp2_with fail
      clear ca fa za
      go_loopw [3, 23] (fun vo i wr => ∃ (k : Nat) (vx : Value), k ≤ l.length ∧ vx = vo ∧ i = .int .i64 k ∧ Hid (RowS wr vx (1000 + k)) ∧ Hid (OneAt w #[.slice a0 l.length c0, .slice a1 g.length c1, .slice a2 h.length c2, .slice a3 qs.length c3] wr)) (fun _ i _ => l.length - (intOf i).toNat)
      case atStart => exact ⟨0, _, by omega, rfl, rfl, HO, HT⟩
      case round =>
        clear HT HO
        obtain ⟨k, vx, hk, rfl, rfl, HO, HT⟩ := hrel
        by_cases hlt : k < l.length
        · obtain ⟨b1, o1, e1, he1, hc1, hm1', hb1, hx1⟩ := HP.out.rs.pos (by omega)
          simp only [Value.slice.injEq, true_and] at he1
          obtain ⟨rfl, rfl⟩ := he1
          obtain ⟨p0, p1, p2, p3, p4, p5, p6, p7, p8⟩ := st_cell (w := wr) (fun j u hu => (HT.out.low.cell (p := ⟨b1, o1 + j, none⟩) hb1).trans (hx1 j u hu)) k hlt
          have hbr : b1 < wr.heap.size := Nat.lt_of_lt_of_le hb1 HT.out.low.size
          have hxl := HP.out.ls _ (List.getElem_mem hlt)
          clear hx1
          generalize l[k] = x at *
          obtain ⟨xk, ⟨x1, x2⟩, xw, ⟨x3, x4⟩, ⟨x5, x6⟩, xv⟩ := x
          have hba : Below wr.heap.size wr (wr.alloc (.cells #[.int .i64 xk, .string x1, .string x2, .string xw, .string x3, .string x4, .string x5, .string x6, .string xv] 30)) := (Below.refl _ _).alloc (Nat.le_refl _) _
          have PC := Lib.hid (put_row vx (1000 + k) xv _ (HO.out.below hba) hxl.2.2.2.2 (by omega))
          have HT2 := Lib.hid (HT.out.later hba)
          have HO2 := Lib.hid (HO.out.below hba)
          clear hba hxl
          by_cases hkk : xk = 3
          · have d1 : (xk == 3) = true := by simp [hkk]
            clear hkk
            go_wp2_with fail
            refine PC.out.mono ?_
            rintro e w3 ⟨vz, rfl, hr, hb3⟩
            have HR3 := Lib.hid hr
            have HT3 := Lib.hid (HT2.out.later hb3)
            clear hr hb3
            go_wp2
            exact ⟨⟨k + 1, _, by omega, rfl, by go_num, HR3, HT3⟩, by simp [intOf]; omega⟩
          · have d1 : (xk == 3) = false := by simp [hkk]
            clear hkk
            go_wp2
            exact ⟨⟨k + 1, _, by omega, rfl, by go_num, Lib.hid (HO2.out.mono (by omega)), HT2⟩, by simp [intOf]; omega⟩
        · have HO3 := Lib.hid (HO.out.mono (show 1000 + k ≤ 10000 by omega))
          go_wp2
          go_ret
          exact ⟨_, rfl, HO3.out, HT.out.low⟩
end Go.Proofs.Ytmpanikeeeoikaa
