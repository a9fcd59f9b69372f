/- The document's example of layer 6. crupperref05.Prins, Names, Fits: some row of texts, some bool comes back (printed by gen_prins.py). crupperref05.Fits, crupperref04.Right, crupperref03.SameRoles: some bool comes back. crupperref04.Right: some bool comes back. crupperref05.SortRoles: the rows of roles in order that it makes (printed by gen_rlsort.py out of RefSort). crupperref03.SameRoles: whether two rows of roles are one. Plain laws of rows of roles in order (printed by gen_rlall.py out of OrdLaw, RefSort, StFns). slices.Compact and slices.SortFunc at rows of roles; policy.SortRoles (printed by gen_rlall.py out of Compact, SynSort). slices.SortFunc, slices.Clone at rows of roles; policy.SortRoles (printed by gen_rlall.py out of SynSort). slices.Equal, Grow and Concat at rows of roles (printed by gen_rlall.py out of StSlices, StUnion). -/
import Derived.Test.YthickpocfplcoaaPart10
import Derived.Test.YthickpocfplcoaaPart6
import Derived.Test.YthickpocfplcoaaPart7
import Derived.Test.YthickpocfplcoaaPart5
import Derived.Deep.RegionLawGrows
import Derived.Test.YthickpocfplcoaaPart3
namespace Go.Proofs.Ythickpocfplcoaa
open Go.RowKit Go.Shelf

def exA : List ByteArray := [⟨#[66]⟩, ⟨#[65]⟩]
def exB : List ByteArray := [⟨#[115]⟩, ⟨#[114]⟩]
theorem exA_new : newB exA = [⟨#[65]⟩, ⟨#[66]⟩] := by rfl
theorem exB_new : newB exB = [⟨#[114]⟩, ⟨#[115]⟩] := by rfl
theorem ex_role : roleN (newB exA) (newB exB) ⟨⟨#[66]⟩, ⟨#[114]⟩⟩ = 2 := by rfl
theorem ex_roleAt : roleAt (newB exA) (newB exB) 2 = ⟨⟨#[66]⟩, ⟨#[114]⟩⟩ := by rfl
set_option maxRecDepth 100000 in
set_option maxHeartbeats 4000000 in
theorem law6_lives (w : World) : Calls Try.prog 8 #[] w fun e w' => e = .returned (.bool true) ∧ Below w.heap.size w w' := by
  obtain ⟨w0, hw0⟩ : ∃ V, V = (w.alloc (.cells #[.string ⟨#[66]⟩, .string ⟨#[65]⟩] 9)).alloc (.cells #[.string ⟨#[115]⟩, .string ⟨#[114]⟩] 9) := ⟨_, rfl⟩
  have NW := Lib.hid (table_New (.slice (some ⟨w.heap.size, 0, none⟩) 2 2) (.slice (some ⟨w.heap.size + 1, 0, none⟩) 2 2) exA exB w0
    (by rw [hw0]; exact ((Sl.new w (strs exA) 9 1 2 w.heap.size rfl rfl (by simp [maxLen])).below ((Below.refl _ _).alloc (by simp) _)).a)
    (by rw [hw0]; exact (Sl.new (w.alloc (.cells #[.string ⟨#[66]⟩, .string ⟨#[65]⟩] 9)) (strs exB) 9 1 2 (w.heap.size + 1) (by simp) rfl (by simp [maxLen])).a) (by decide) (by decide))
  have HB := Lib.hid (show Below w.heap.size w w0 by rw [hw0]; exact (((Below.refl _ _).alloc (Nat.le_refl _) _).alloc (by simp) _))
  have RO := Lib.hid (fun (t ba bb : Nat) (W : World) (h : TblAt W t ba bb (newB exA) (newB exB)) => ex_role ▸ table_Role h ⟨⟨#[66]⟩, ⟨#[114]⟩⟩)
  have RS := Lib.hid (fun (t ba bb : Nat) (W : World) (h : TblAt W t ba bb (newB exA) (newB exB)) => (show (newB exA).length * (newB exB).length = 4 from rfl) ▸ table_Roles h)
  have RA := Lib.hid (fun (t ba bb : Nat) (W : World) (h : TblAt W t ba bb (newB exA) (newB exB)) => ex_roleAt ▸ table_RoleAt h 2 (by decide))
  go_enter Try.func8, Try.ntmps8
  go_wp2_with fail
  rw [← hw0]
  clear hw0
  refine NW.out.mono ?_
  rintro e w1 ⟨t, ba, bb, rfl, ht, hb⟩
  have HT := Lib.hid ht
  have HB := Lib.hid (HB.out.trans (hb.mono HB.out.size))
  clear ht hb NW
  go_wp2_with fail
  refine (RO.out _ _ _ _ HT.out).mono ?_
  rintro e w2 ⟨rfl, hb⟩
  have HT := Lib.hid (HT.out.below hb)
  have HB := Lib.hid (HB.out.trans (hb.mono HB.out.size))
  clear hb RO
  go_wp2_with fail
  refine (RS.out _ _ _ _ HT.out).mono ?_
  rintro e w3 ⟨rfl, rfl⟩
  clear RS
  go_wp2_with fail
  refine (RA.out _ _ _ _ HT.out).mono ?_
  rintro e w4 ⟨rfl, hb⟩
  have HB := Lib.hid (HB.out.trans (hb.mono HB.out.size))
  clear hb RA HT
  go_wp2
  go_ret
  exact ⟨rfl, HB.out⟩
end Go.Proofs.Ythickpocfplcoaa
namespace Go.Proofs.Ythickpocfplcoaa
open Go.RowKit Go.Shelf

theorem put_row (v : Value) (n : Nat) (s : ByteArray) (w : World) (h : RowS w v n) (hs : s.size ≤ 9223372036854775807) (hn : n ≤ 100000) :
    Calls Try.prog 34 #[v, .string s] w fun e w' => ∃ v', e = .returned v' ∧ RowS w' v' (n + 1) ∧ Below w.heap.size w w' := by
  obtain ⟨ss, h1, h2, h3⟩ := h
  refine (ref1_Put v ss s w h1 h3 hs (by omega)).mono ?_
  rintro e w' ⟨v', he, hr, hb⟩
  exact ⟨v', he, hr.mono (by omega), hb⟩

set_option maxRecDepth 100000 in
set_option maxHeartbeats 8000000 in
theorem ref5_Prins (v0 v1 v2 v3 : Value) (l : List St) (g h : List Rl) (qs : List Qv) (w : World) (hp : PolAt w v0 v1 v2 v3 l g h qs) (hl : l.length ≤ 100) (hg : g.length ≤ 100) (hh : h.length ≤ 100) (hq : qs.length ≤ 100) (hq40 : ∀ q ∈ qs, q.okN 40 w) :
    Calls Try.prog 27 #[pv v0 v1 v2 v3] w fun e w' => ∃ v, e = .returned v ∧ RowS w' v 10000 ∧ Below w.heap.size w w' := by
  have HP := Lib.hid hp
  have HR := Lib.hid (fun W (hb : Below w.heap.size w W) => ref5_Roles v0 v1 v2 v3 l g h qs W (hp.below hb) hl hg hh hq)
  have HQ4 := Lib.hid hq40
  obtain ⟨a0, c0, rfl⟩ := hp.rs.form
  obtain ⟨a1, c1, rfl⟩ := hp.rg.form
  obtain ⟨a2, c2, rfl⟩ := hp.rh.form
  obtain ⟨a3, c3, rfl⟩ := hp.rq.form
  have HT := Lib.hid (show OneAt w #[.slice a0 l.length c0, .slice a1 g.length c1, .slice a2 h.length c2, .slice a3 qs.length c3] (w.alloc (.cells #[.slice a0 l.length c0, .slice a1 g.length c1, .slice a2 h.length c2, .slice a3 qs.length c3] 55)) from ⟨Blk.new w _ _, (Below.refl _ _).alloc (Nat.le_refl _) _⟩)
  clear hp hq40
  go_enter Try.func27, Try.ntmps27
  go_wp2_with fail
  refine (HR.out _ HT.out.low).mono ?_
  rintro e w1 ⟨vr, rfl, hrr, hb1⟩
  have HT := Lib.hid (HT.out.later hb1)
  obtain ⟨rs, hr1, hr2, hr3⟩ := hrr
  have HRS := Lib.hid hr1
  have HRL := Lib.hid hr3
  obtain ⟨ro, rc, rfl⟩ := hr1.form
  clear hb1 hr1 hr3
  go_wp2_with fail
  go_loopw [3, 15] (fun vo i wr => ∃ (k : Nat) (vx : Value), k ≤ rs.length ∧ vx = vo ∧ i = .int .i64 k ∧ Hid (RowS wr vx k) ∧ Hid (OneAt w #[.slice a0 l.length c0, .slice a1 g.length c1, .slice a2 h.length c2, .slice a3 qs.length c3] wr) ∧ Hid (Below w1.heap.size w1 wr)) (fun _ i _ => rs.length - (intOf i).toNat)
  case atStart => exact ⟨0, _, by omega, rfl, rfl, Lib.hid (RowS.nil _), HT, Lib.hid (Below.refl _ _)⟩
  case round =>
    clear HT
    obtain ⟨k, vx, hk, rfl, rfl, HO, HT, HB⟩ := hrel
    by_cases hlt : k < rs.length
    · obtain ⟨b1, o1, e1, he1, hc1, hm1', hb1, hx1⟩ := HRS.out.pos (by omega)
      simp only [Value.slice.injEq, true_and] at he1
      obtain ⟨rfl, rfl⟩ := he1
      obtain ⟨p0, p1⟩ := rl_cell (w := wr) (fun j u hu => (HB.out.cell (p := ⟨b1, o1 + j, none⟩) hb1).trans (hx1 j u hu)) k hlt
      have hbr : b1 < wr.heap.size := Nat.lt_of_lt_of_le hb1 HB.out.size
      have l1 := HRL.out _ (List.getElem_mem hlt)
      clear hx1
      generalize rs[k] = x at *
      obtain ⟨x1, x2⟩ := x
      have hba : Below wr.heap.size wr (wr.alloc (.cells #[.string x1, .string x2] 24)) := (Below.refl _ _).alloc (Nat.le_refl _) _
      have PC := Lib.hid (put_row vx k x1 _ (HO.out.below hba) l1.1 (by omega))
      have HT2 := Lib.hid (HT.out.later hba)
      have HB2 := Lib.hid (HB.out.trans (hba.mono HB.out.size))
      clear hba l1
      go_wp2_with fail
      refine PC.out.mono ?_
      rintro e w3 ⟨vz, rfl, hr, hb3⟩
      have HR3 := Lib.hid hr
      have HT3 := Lib.hid (HT2.out.later hb3)
      have HB3 := Lib.hid (HB2.out.trans (hb3.mono HB2.out.size))
      clear hr hb3
      go_wp2
      exact ⟨⟨k + 1, _, by omega, rfl, by go_num, HR3, HT3, HB3⟩, by simp [intOf]; omega⟩
    · obtain ⟨ca, fa, za⟩ := HT.out.a
      have HO := Lib.hid (HO.out.mono (show k ≤ 1000 by omega))
      clear HB HRS HRL hk
      go_wp2_with fail
      clear ca fa za
      go_loopw [3, 27] (fun vo i wr => ∃ (k : Nat) (vx : Value), k ≤ l.length ∧ vx = vo ∧ i = .int .i64 k ∧ Hid (RowS wr vx (1000 + k)) ∧ Hid (OneAt w #[.slice a0 l.length c0, .slice a1 g.length c1, .slice a2 h.length c2, .slice a3 qs.length c3] wr)) (fun _ i _ => l.length - (intOf i).toNat)
      case atStart => exact ⟨0, _, by omega, rfl, rfl, HO, HT⟩
      case round =>
        clear HT HO
        obtain ⟨k, vx, hk, rfl, rfl, HO, HT⟩ := hrel
        by_cases hlt : k < l.length
        · obtain ⟨b1, o1, e1, he1, hc1, hm1', hb1, hx1⟩ := HP.out.rs.pos (by omega)
          simp only [Value.slice.injEq, true_and] at he1
          obtain ⟨rfl, rfl⟩ := he1
          obtain ⟨p0, p1, p2, p3, p4, p5, p6, p7, p8⟩ := st_cell (w := wr) (fun j u hu => (HT.out.low.cell (p := ⟨b1, o1 + j, none⟩) hb1).trans (hx1 j u hu)) k hlt
          have hbr : b1 < wr.heap.size := Nat.lt_of_lt_of_le hb1 HT.out.low.size
          have hxl := HP.out.ls _ (List.getElem_mem hlt)
          clear hx1
          generalize l[k] = x at *
          obtain ⟨xk, ⟨x1, x2⟩, xw, ⟨x3, x4⟩, ⟨x5, x6⟩, xv⟩ := x
          have hba : Below wr.heap.size wr (wr.alloc (.cells #[.int .i64 xk, .string x1, .string x2, .string xw, .string x3, .string x4, .string x5, .string x6, .string xv] 26)) := (Below.refl _ _).alloc (Nat.le_refl _) _
          have PC := Lib.hid (put_row vx (1000 + k) xw _ (HO.out.below hba) hxl.2.1 (by omega))
          have HT2 := Lib.hid (HT.out.later hba)
          have HO2 := Lib.hid (HO.out.below hba)
          clear hba hxl
          by_cases hkk : xk = 1
          · have d1 : (xk == 1) = true := by simp [hkk]
            clear hkk
            go_wp2_with fail
            refine PC.out.mono ?_
            rintro e w3 ⟨vz, rfl, hr, hb3⟩
            have HR3 := Lib.hid hr
            have HT3 := Lib.hid (HT2.out.later hb3)
            clear hr hb3
            go_wp2
            exact ⟨⟨k + 1, _, by omega, rfl, by go_num, HR3, HT3⟩, by simp [intOf]; omega⟩
          · have d1 : (xk == 1) = false := by simp [hkk]
            clear hkk
            go_wp2
            exact ⟨⟨k + 1, _, by omega, rfl, by go_num, Lib.hid (HO2.out.mono (by omega)), HT2⟩, by simp [intOf]; omega⟩
        · obtain ⟨ca, fa, za⟩ := HT.out.a
          have HO := Lib.hid (HO.out.mono (show 1000 + k ≤ 1100 by omega))
          clear hk
          go_wp2_with fail
          clear ca fa za
          go_loopw [3, 42] (fun vo i wr => ∃ (k : Nat) (vx : Value), k ≤ qs.length ∧ vx = vo ∧ i = .int .i64 k ∧ Hid (RowS wr vx (1100 + 40 * k)) ∧ Hid (OneAt w #[.slice a0 l.length c0, .slice a1 g.length c1, .slice a2 h.length c2, .slice a3 qs.length c3] wr)) (fun _ i _ => qs.length - (intOf i).toNat)
          case atStart => exact ⟨0, _, by omega, rfl, rfl, HO, HT⟩
          case round =>
            clear HT HO
            obtain ⟨k, vx, hk, rfl, rfl, HO, HT⟩ := hrel
            by_cases hlt : k < qs.length
            · obtain ⟨b1, o1, e1, he1, hc1, hm1', hb1, hx1⟩ := HP.out.rq.pos (by omega)
              simp only [Value.slice.injEq, true_and] at he1
              obtain ⟨rfl, rfl⟩ := he1
              obtain ⟨p0, p1, p2, p3, p4, p5⟩ := q_cell (w := wr) (fun j u hu => (HT.out.low.cell (p := ⟨b1, o1 + j, none⟩) hb1).trans (hx1 j u hu)) k hlt
              have hbr : b1 < wr.heap.size := Nat.lt_of_lt_of_le hb1 HT.out.low.size
              obtain ⟨_, _, us, hu1, hu2, hu3⟩ := HQ4.out _ (List.getElem_mem hlt)
              have HU := Lib.hid hu1
              have HUZ := Lib.hid hu3
              obtain ⟨wo, wc, hw5⟩ := hu1.form
              clear hx1 hu1 hu3
              generalize qs[k] = x at *
              obtain ⟨xk, ⟨x1, x2⟩, ⟨x3, x4⟩, xw⟩ := x
              dsimp only at hw5 HU
              subst hw5
              obtain ⟨nw, hnw⟩ : ∃ nw, nw = us.length := ⟨_, rfl⟩
              have HNW := Lib.hid hnw
              rw [← hnw] at p5 HU hu2
              clear hnw
              have hba : Below wr.heap.size wr (wr.alloc (.cells #[.int .i64 xk, .string x1, .string x2, .string x3, .string x4, .slice wo nw wc] 80)) := (Below.refl _ _).alloc (Nat.le_refl _) _
              have HT2 := Lib.hid (HT.out.later hba)
              have HO2 := Lib.hid (HO.out.below hba)
              clear hba
              go_wp2_with fail
              go_loopw [3, 49] (fun vo i wr => ∃ (j : Nat) (vx : Value), j ≤ nw ∧ vx = vo ∧ i = .int .i64 j ∧ Hid (RowS wr vx (1100 + 40 * k + j)) ∧ Hid (OneAt w #[.slice a0 l.length c0, .slice a1 g.length c1, .slice a2 h.length c2, .slice (some ⟨b1, o1, none⟩) qs.length c3] wr)) (fun _ i _ => nw - (intOf i).toNat)
              case atStart => exact ⟨0, _, by omega, rfl, rfl, HO2, HT2⟩
              case round =>
                clear HT HO HT2 HO2
                obtain ⟨j, vx, hj, rfl, rfl, HO, HT⟩ := hrel
                by_cases hlj : j < nw
                · obtain ⟨b1, o1, e1, he1, hc1, hm1', hb1, hx1⟩ := HU.out.pos (by omega)
                  simp only [Value.slice.injEq, true_and] at he1
                  obtain ⟨rfl, rfl⟩ := he1
                  have hju : j < us.length := by have := HNW.out; omega
                  have p0 := (HT.out.low.cell (p := ⟨b1, o1 + j, none⟩) hb1).trans (hx1 j _ (strs_get hju))
                  have hbr : b1 < wr.heap.size := Nat.lt_of_lt_of_le hb1 HT.out.low.size
                  have PC := Lib.hid (put_row vx (1100 + 40 * k + j) us[j] _ HO.out (HUZ.out _ (List.getElem_mem hju)) (by omega))
                  clear hx1
                  generalize us[j] = s at *
                  go_wp2_with fail
                  refine PC.out.mono ?_
                  rintro e w3 ⟨vz, rfl, hr, hb3⟩
                  have HR3 := Lib.hid hr
                  have HT3 := Lib.hid (HT.out.later hb3)
                  clear hr hb3
                  go_wp2
                  exact ⟨⟨j + 1, _, by omega, rfl, by go_num, HR3, HT3⟩, by simp [intOf]; omega⟩
                · have HO3 := Lib.hid (HO.out.mono (show 1100 + 40 * k + j ≤ 1100 + 40 * (k + 1) by omega))
                  go_wp2
                  exact ⟨⟨k + 1, _, by omega, rfl, by go_num, HO3, HT⟩, by simp [intOf]; omega⟩
            · have HO3 := Lib.hid (HO.out.mono (show 1100 + 40 * k ≤ 10000 by omega))
              go_wp2
              go_ret
              exact ⟨_, rfl, HO3.out, HT.out.low⟩

set_option maxRecDepth 100000 in
set_option maxHeartbeats 8000000 in
theorem ref5_Names (v0 v1 v2 v3 : Value) (l : List St) (g h : List Rl) (qs : List Qv) (w : World) (hp : PolAt w v0 v1 v2 v3 l g h qs) (hl : l.length ≤ 100) (hg : g.length ≤ 100) (hh : h.length ≤ 100) (hq : qs.length ≤ 100) (hq40 : ∀ q ∈ qs, q.okN 40 w) :
    Calls Try.prog 28 #[pv v0 v1 v2 v3] w fun e w' => ∃ v, e = .returned v ∧ RowS w' v 10000 ∧ Below w.heap.size w w' := by
  have HP := Lib.hid hp
  have HR := Lib.hid (fun W (hb : Below w.heap.size w W) => ref5_Roles v0 v1 v2 v3 l g h qs W (hp.below hb) hl hg hh hq)
  have HQ4 := Lib.hid hq40
  obtain ⟨a0, c0, rfl⟩ := hp.rs.form
  obtain ⟨a1, c1, rfl⟩ := hp.rg.form
  obtain ⟨a2, c2, rfl⟩ := hp.rh.form
  obtain ⟨a3, c3, rfl⟩ := hp.rq.form
  have HT := Lib.hid (show OneAt w #[.slice a0 l.length c0, .slice a1 g.length c1, .slice a2 h.length c2, .slice a3 qs.length c3] (w.alloc (.cells #[.slice a0 l.length c0, .slice a1 g.length c1, .slice a2 h.length c2, .slice a3 qs.length c3] 55)) from ⟨Blk.new w _ _, (Below.refl _ _).alloc (Nat.le_refl _) _⟩)
  clear hp hq40
  go_enter Try.func28, Try.ntmps28
  go_wp2_with fail
  refine (HR.out _ HT.out.low).mono ?_
  rintro e w1 ⟨vr, rfl, hrr, hb1⟩
  have HT := Lib.hid (HT.out.later hb1)
  obtain ⟨rs, hr1, hr2, hr3⟩ := hrr
  have HRS := Lib.hid hr1
  have HRL := Lib.hid hr3
  obtain ⟨ro, rc, rfl⟩ := hr1.form
  clear hb1 hr1 hr3
  go_wp2_with fail
  go_loopw [3, 11] (fun vo i wr => ∃ (k : Nat) (vx : Value), k ≤ rs.length ∧ vx = vo ∧ i = .int .i64 k ∧ Hid (RowS wr vx k) ∧ Hid (OneAt w #[.slice a0 l.length c0, .slice a1 g.length c1, .slice a2 h.length c2, .slice a3 qs.length c3] wr) ∧ Hid (Below w1.heap.size w1 wr)) (fun _ i _ => rs.length - (intOf i).toNat)
  case atStart => exact ⟨0, _, by omega, rfl, rfl, Lib.hid (RowS.nil _), HT, Lib.hid (Below.refl _ _)⟩
  case round =>
    clear HT
    obtain ⟨k, vx, hk, rfl, rfl, HO, HT, HB⟩ := hrel
    by_cases hlt : k < rs.length
    · obtain ⟨b1, o1, e1, he1, hc1, hm1', hb1, hx1⟩ := HRS.out.pos (by omega)
      simp only [Value.slice.injEq, true_and] at he1
      obtain ⟨rfl, rfl⟩ := he1
      obtain ⟨p0, p1⟩ := rl_cell (w := wr) (fun j u hu => (HB.out.cell (p := ⟨b1, o1 + j, none⟩) hb1).trans (hx1 j u hu)) k hlt
      have hbr : b1 < wr.heap.size := Nat.lt_of_lt_of_le hb1 HB.out.size
      have l1 := HRL.out _ (List.getElem_mem hlt)
      clear hx1
      generalize rs[k] = x at *
      obtain ⟨x1, x2⟩ := x
      have hba : Below wr.heap.size wr (wr.alloc (.cells #[.string x1, .string x2] 24)) := (Below.refl _ _).alloc (Nat.le_refl _) _
      have PC := Lib.hid (put_row vx k x2 _ (HO.out.below hba) l1.2 (by omega))
      have HT2 := Lib.hid (HT.out.later hba)
      have HB2 := Lib.hid (HB.out.trans (hba.mono HB.out.size))
      clear hba l1
      go_wp2_with fail
      refine PC.out.mono ?_
      rintro e w3 ⟨vz, rfl, hr, hb3⟩
      have HR3 := Lib.hid hr
      have HT3 := Lib.hid (HT2.out.later hb3)
      have HB3 := Lib.hid (HB2.out.trans (hb3.mono HB2.out.size))
      clear hr hb3
      go_wp2
      exact ⟨⟨k + 1, _, by omega, rfl, by go_num, HR3, HT3, HB3⟩, by simp [intOf]; omega⟩
    · obtain ⟨ca, fa, za⟩ := HT.out.a
      have HO := Lib.hid (HO.out.mono (show k ≤ 1000 by omega))
      clear HB HRS HRL hk
      go_wp2_with fail
      clear ca fa za
      go_loopw [3, 23] (fun vo i wr => ∃ (k : Nat) (vx : Value), k ≤ l.length ∧ vx = vo ∧ i = .int .i64 k ∧ Hid (RowS wr vx (1000 + k)) ∧ Hid (OneAt w #[.slice a0 l.length c0, .slice a1 g.length c1, .slice a2 h.length c2, .slice a3 qs.length c3] wr)) (fun _ i _ => l.length - (intOf i).toNat)
      case atStart => exact ⟨0, _, by omega, rfl, rfl, HO, HT⟩
      case round =>
        clear HT HO
        obtain ⟨k, vx, hk, rfl, rfl, HO, HT⟩ := hrel
        by_cases hlt : k < l.length
        · obtain ⟨b1, o1, e1, he1, hc1, hm1', hb1, hx1⟩ := HP.out.rs.pos (by omega)
          simp only [Value.slice.injEq, true_and] at he1
          obtain ⟨rfl, rfl⟩ := he1
          obtain ⟨p0, p1, p2, p3, p4, p5, p6, p7, p8⟩ := st_cell (w := wr) (fun j u hu => (HT.out.low.cell (p := ⟨b1, o1 + j, none⟩) hb1).trans (hx1 j u hu)) k hlt
          have hbr : b1 < wr.heap.size := Nat.lt_of_lt_of_le hb1 HT.out.low.size
          have hxl := HP.out.ls _ (List.getElem_mem hlt)
          clear hx1
          generalize l[k] = x at *
          obtain ⟨xk, ⟨x1, x2⟩, xw, ⟨x3, x4⟩, ⟨x5, x6⟩, xv⟩ := x
          have hba : Below wr.heap.size wr (wr.alloc (.cells #[.int .i64 xk, .string x1, .string x2, .string xw, .string x3, .string x4, .string x5, .string x6, .string xv] 26)) := (Below.refl _ _).alloc (Nat.le_refl _) _
          have PC := Lib.hid (put_row vx (1000 + k) xv _ (HO.out.below hba) hxl.2.2.2.2 (by omega))
          have HT2 := Lib.hid (HT.out.later hba)
          have HO2 := Lib.hid (HO.out.below hba)
          clear hba hxl
          by_cases hkk : xk = 3
          · have d1 : (xk == 3) = true := by simp [hkk]
            clear hkk
            go_wp2_with fail
            refine PC.out.mono ?_
            rintro e w3 ⟨vz, rfl, hr, hb3⟩
            have HR3 := Lib.hid hr
            have HT3 := Lib.hid (HT2.out.later hb3)
            clear hr hb3
            go_wp2
            exact ⟨⟨k + 1, _, by omega, rfl, by go_num, HR3, HT3⟩, by simp [intOf]; omega⟩
          · have d1 : (xk == 3) = false := by simp [hkk]
            clear hkk
            go_wp2
            exact ⟨⟨k + 1, _, by omega, rfl, by go_num, Lib.hid (HO2.out.mono (by omega)), HT2⟩, by simp [intOf]; omega⟩
        · have HO3 := Lib.hid (HO.out.mono (show 1000 + k ≤ 10000 by omega))
          go_wp2
          go_ret
          exact ⟨_, rfl, HO3.out, HT.out.low⟩
end Go.Proofs.Ythickpocfplcoaa
namespace Go.Proofs.Ythickpocfplcoaa
open Go.RowKit Go.Shelf

end Go.Proofs.Ythickpocfplcoaa
namespace Go.Proofs.Ythickpocfplcoaa
open Go.RowKit Go.Shelf

set_option maxHeartbeats 400000 in
theorem ref3_IsRoleM (r : Rl) (w : World) (hs : r.le 9223372036854775807) :
    Calls Try.prog 42 #[rv r] w fun e w' => e = .returned (.bool (isRole r)) ∧ Below w.heap.size w w' := by
  obtain ⟨o, n⟩ := r
  obtain ⟨h1, h2⟩ := hs
  have H1 := Lib.hid (fun W => ref1_IsPrin o W h1)
  have H2 := Lib.hid (fun W => ref1_IsName n W h2)
  clear h1 h2
  have E := Lib.hid (show isRole ⟨o, n⟩ = (isP 65 90 (bl o) && isP 97 122 (bl n)) from rfl)
  cases hp : isP 65 90 (bl o)
  all_goals
    rw [hp] at E
    go_enter Try.func42, Try.ntmps42
    go_wp2_with (first | (go_at_call 20; refine (H1.out _).mono ?_; rintro e w' ⟨rfl, rfl⟩) | (go_at_call 21; refine (H2.out _).mono ?_; rintro e w' ⟨rfl, rfl⟩))
    go_ret
    exact ⟨ret_b (by rw [E.out]; rfl), (Below.refl _ _).alloc (Nat.le_refl _) _⟩

end Go.Proofs.Ythickpocfplcoaa
namespace Go.Proofs.Ythickpocfplcoaa
open Go.RowKit Go.Shelf
/-- The place of a statement in a row in order. -/
def posSR : List Rl → Rl → Nat
  | [], _ => 0
  | a :: r, x => if cmpR a x < 0 then posSR r x + 1 else 0
def insAtR (l : List Rl) (x : Rl) (k : Nat) : List Rl := l.take k ++ x :: l.drop k
def insSR (l : List Rl) (x : Rl) : List Rl := if hasR l x then l else insAtR l x (posSR l x)
def insAllR : List Rl → List Rl → List Rl
  | acc, [] => acc
  | acc, x :: l => insAllR (insSR acc x) l
theorem pos_leR : ∀ (l : List Rl) (x : Rl), posSR l x ≤ l.length
  | [], _ => Nat.le_refl _
  | a :: r, x => by unfold posSR; have := pos_leR r x; split <;> simp <;> omega
theorem pos_ofR : ∀ (l : List Rl) (x : Rl) (k : Nat), k ≤ l.length → (∀ j (hj : j < l.length), j < k → cmpR l[j] x < 0) → (∀ hk : k < l.length, ¬ cmpR l[k] x < 0) → posSR l x = k
  | [], x, k, hk, _, _ => by simp at hk; subst hk; rfl
  | a :: r, x, 0, _, _, h => by
    have h' : ¬ cmpR a x < 0 := h (by simp)
    unfold posSR; rw [if_neg h']
  | a :: r, x, k + 1, hk, h1, h2 => by
    have h' : cmpR a x < 0 := h1 0 (by simp) (by omega)
    unfold posSR
    rw [if_pos h', pos_ofR r x k (by simpa using hk) (fun j hj hjk => h1 (j + 1) (by simp; omega) (by omega)) (fun hk' => h2 (by simp; omega))]
theorem insS_lenR (l : List Rl) (x : Rl) : (insSR l x).length ≤ l.length + 1 := by
  unfold insSR insAtR; split
  · omega
  · simp [List.length_take, List.length_drop]; have := pos_leR l x; omega
theorem insAll_stepR (acc l : List Rl) (k : Nat) (hk : k < l.length) : insAllR acc (l.drop k) = insAllR (insSR acc l[k]) (l.drop (k + 1)) := by
  rw [List.drop_eq_getElem_cons hk]; rfl
theorem insAll_endR (acc l : List Rl) (k : Nat) (hk : ¬ k < l.length) : insAllR acc (l.drop k) = acc := by
  rw [List.drop_eq_nil_of_le (by omega)]; rfl
theorem insS_hasR {l : List Rl} {x : Rl} (h : hasR l x = true) : insSR l x = l := if_pos h
theorem insS_notR {l : List Rl} {x : Rl} (h : hasR l x = false) : insSR l x = insAtR l x (posSR l x) := if_neg (by rw [h]; exact Bool.false_ne_true)

theorem flat_dropR (l : List Rl) (j : Nat) (hj : j ≤ l.length) (i : Nat) : ((l.drop j).flatMap Rl.cells)[i]? = (l.flatMap Rl.cells)[j * 2 + i]? := by
  have h := List.take_append_drop j l
  have e : (l.flatMap Rl.cells) = (l.take j).flatMap Rl.cells ++ (l.drop j).flatMap Rl.cells := by rw [← List.flatMap_append, h]
  have hl : ((l.take j).flatMap Rl.cells).length = j * 2 := by rw [flat_len _ 2 Rl.cells_len, List.length_take]; congr 1; omega
  rw [e, List.getElem?_append_right (by omega), hl]
  congr 1; omega
theorem flat_takeR (l : List Rl) (j : Nat) (i : Nat) (u : Value) (h : ((l.take j).flatMap Rl.cells)[i]? = some u) : (l.flatMap Rl.cells)[i]? = some u := by
  have e : (l.flatMap Rl.cells) = (l.take j).flatMap Rl.cells ++ (l.drop j).flatMap Rl.cells := by rw [← List.flatMap_append, List.take_append_drop]
  rw [e]
  have hi := (List.getElem?_eq_some_iff.1 h).1
  rw [List.getElem?_append_left hi]; exact h
theorem take_len9R (l : List Rl) (j : Nat) (hj : j ≤ l.length) : ((l.take j).flatMap Rl.cells).length = j * 2 := by
  rw [flat_len _ 2 Rl.cells_len, List.length_take]; congr 1; omega
theorem drop_len9R (l : List Rl) (j : Nat) : ((l.drop j).flatMap Rl.cells).length = (l.length - j) * 2 := by
  rw [flat_len _ 2 Rl.cells_len, List.length_drop]
theorem sl_appR {l : List Rl} {x : Rl} {j : Nat} (_ : j ≤ l.length) : (l.take j).flatMap Rl.cells ++ x.cells ++ (l.drop j).flatMap Rl.cells = (insAtR l x j).flatMap Rl.cells := by
  unfold insAtR; rw [List.flatMap_append, List.flatMap_cons, List.append_assoc]
theorem insAt_lenR {l : List Rl} {x : Rl} {j : Nat} (hj : j ≤ l.length) : (insAtR l x j).length = j + 1 + (l.length - j) := by
  unfold insAtR; rw [List.length_append, List.length_cons, List.length_take, List.length_drop]; omega
theorem app_endR {l : List Rl} {x : Rl} : l.flatMap Rl.cells ++ x.cells = (insAtR l x l.length).flatMap Rl.cells := by
  have h := sl_appR (l := l) (x := x) (j := l.length) (Nat.le_refl _)
  rw [List.take_of_length_le (Nat.le_refl _), List.drop_of_length_le (Nat.le_refl _)] at h
  rw [← h]; simp
theorem insAt_endR {l : List Rl} {x : Rl} : (insAtR l x l.length).length = l.length + 1 := by rw [insAt_lenR (Nat.le_refl _)]; omega
abbrev Two (w : World) (b o : Nat) (s : Rl) : Prop := w.cell? ⟨b, o, none⟩ = some (.string s.o) ∧ w.cell? ⟨b, o + 1, none⟩ = some (.string s.n)
theorem ref3_LessD (x y : Rl) (w : World) : Calls Try.prog 43 #[rv x, rv y] w fun e w' => e = .returned (.bool (decide (cmpR x y < 0))) ∧ Below w.heap.size w w' := ref3_Less x y w
theorem Two.below {w w' : World} {b o : Nat} {s : Rl} (h : Two w b o s) (hb : b < w.heap.size) (hw : Below w.heap.size w w') : Two w' b o s := by
  have k : ∀ i, w'.cell? ⟨b, i, none⟩ = w.cell? ⟨b, i, none⟩ := fun i => hw.cell (p := ⟨b, i, none⟩) hb
  obtain ⟨h0, h1⟩ := h
  exact ⟨(k _).trans h0, (k _).trans h1⟩
end Go.Proofs.Ythickpocfplcoaa
namespace Go.Proofs.Ythickpocfplcoaa
open Go.RowKit Go.Shelf

theorem same_lenR {l m : List Rl} (h : ¬ l.length = m.length) : decide (l = m) = false := decide_eq_false (fun e => h (by rw [e]))
theorem take_moreR {l m : List Rl} {k : Nat} (h : l.take k = m.take k) (hl : k < l.length) (hm : k < m.length) (e : l[k] = m[k]) : l.take (k + 1) = m.take (k + 1) := by
  rw [List.take_succ_eq_append_getElem hl, List.take_succ_eq_append_getElem hm, h, e]
theorem same_endR {l m : List Rl} {k : Nat} (h : l.take k = m.take k) (hl : ¬ k < l.length) (hm : ¬ k < m.length) : decide (l = m) = true := by
  rw [List.take_of_length_le (by omega), List.take_of_length_le (by omega)] at h
  exact decide_eq_true h
theorem same_noR {l m : List Rl} {k : Nat} (hl : k < l.length) (hm : k < m.length) (e : ¬ l[k] = m[k]) : decide (l = m) = false := decide_eq_false (fun h => e (by subst h; rfl))

end Go.Proofs.Ythickpocfplcoaa
namespace Go.Proofs.Ythickpocfplcoaa
open Go.RowKit Go.Shelf

theorem eqRl_self (x : Rl) : eqRl x x = true := decide_eq_true rfl
theorem hasR_mem (l : List Rl) (x : Rl) : hasR l x = true ↔ x ∈ l := by
  unfold hasR; rw [List.any_eq_true]
  constructor
  · rintro ⟨y, hy, e⟩; rw [← of_decide_eq_true e]; exact hy
  · intro h; exact ⟨x, h, eqRl_self x⟩
theorem lt_trans'R {x y z : Rl} (h : cmpR x y < 0) (h' : cmpR y z < 0) : cmpR x z < 0 := by
  obtain ⟨a, b⟩ := wcmp_rl.le x y z (by omega) (by omega)
  have : ¬ cmpR x z = 0 := fun e => by have := (b e).1; omega
  omega
theorem lt_irrefl'R (x : Rl) : ¬ cmpR x x < 0 := by have := (cmpR_zero x x).2 rfl; omega
/-- A row in strict order. -/
def AscR (l : List Rl) : Prop := l.Pairwise fun x y => cmpR x y < 0
theorem asc_uniqueR : ∀ (l m : List Rl), AscR l → AscR m → (∀ x, x ∈ l ↔ x ∈ m) → l = m
  | [], [], _, _, _ => rfl
  | [], y :: m, _, _, h => absurd ((h y).2 (by simp)) (by simp)
  | x :: l, [], _, _, h => absurd ((h x).1 (by simp)) (by simp)
  | x :: l, y :: m, hl, hm, h => by
    have hl' := List.pairwise_cons.1 hl
    have hm' := List.pairwise_cons.1 hm
    have e : x = y := by
      rcases List.mem_cons.1 ((h x).1 (by simp)) with e | e
      · exact e
      · rcases List.mem_cons.1 ((h y).2 (by simp)) with e' | e'
        · exact e'.symm
        · exact absurd (lt_trans'R (hm'.1 x e) (hl'.1 y e')) (lt_irrefl'R y)
    subst e
    refine congrArg (x :: ·) (asc_uniqueR l m hl'.2 hm'.2 fun z => ?_)
    constructor
    · intro hz
      rcases List.mem_cons.1 ((h z).1 (by simp [hz])) with e | e
      · subst e; exact absurd (hl'.1 z hz) (lt_irrefl'R z)
      · exact e
    · intro hz
      rcases List.mem_cons.1 ((h z).2 (by simp [hz])) with e | e
      · subst e; exact absurd (hm'.1 z hz) (lt_irrefl'R z)
      · exact e
/-- A row in order without those that stand twice. -/
def dedupR : List Rl → List Rl
  | [] => []
  | [x] => [x]
  | x :: y :: r => if x = y then dedupR (y :: r) else x :: dedupR (y :: r)
theorem dedup_memR : ∀ (l : List Rl) (z : Rl), z ∈ dedupR l ↔ z ∈ l
  | [], z => by simp [dedupR]
  | [x], z => by simp [dedupR]
  | x :: y :: r, z => by
    have ih := dedup_memR (y :: r) z
    unfold dedupR
    by_cases e : x = y
    · rw [if_pos e, ih, e]; simp
    · rw [if_neg e, List.mem_cons, ih, List.mem_cons (b := x)]
theorem dedup_ascR : ∀ (l : List Rl), (l.Pairwise fun x y => cmpR x y ≤ 0) → AscR (dedupR l)
  | [], _ => List.Pairwise.nil
  | [x], _ => by simp [dedupR, AscR]
  | x :: y :: r, h => by
    have h' := List.pairwise_cons.1 h
    have ih := dedup_ascR (y :: r) h'.2
    unfold dedupR
    by_cases e : x = y
    · rw [if_pos e]; exact ih
    · rw [if_neg e]
      refine List.pairwise_cons.2 ⟨fun z hz => ?_, ih⟩
      have hxy : cmpR x y < 0 := by
        have := h'.1 y (by simp)
        have h0 : ¬ cmpR x y = 0 := fun e' => e ((cmpR_zero x y).1 e')
        omega
      have hz' := (dedup_memR (y :: r) z).1 hz
      rcases List.mem_cons.1 hz' with rfl | hz'
      · exact hxy
      · have hyz := (List.pairwise_cons.1 h'.2).1 z hz'
        obtain ⟨a, b⟩ := wcmp_rl.le x y z (by omega) hyz
        have : ¬ cmpR x z = 0 := fun e => by have := (b e).1; omega
        omega
theorem insS_memR (l : List Rl) (x z : Rl) : z ∈ insSR l x ↔ z ∈ l ∨ z = x := by
  unfold insSR
  by_cases h : hasR l x = true
  · rw [if_pos h]
    exact ⟨.inl, fun h' => h'.elim id (fun e => e ▸ (hasR_mem l x).1 h)⟩
  · rw [if_neg h]
    unfold insAtR
    rw [List.mem_append, List.mem_cons]
    have := List.take_append_drop (posSR l x) l
    constructor
    · rintro (h | h | h)
      · exact .inl (List.mem_of_mem_take h)
      · exact .inr h
      · exact .inl (List.mem_of_mem_drop h)
    · rintro (h | h)
      · rw [← this] at h
        rcases List.mem_append.1 h with h | h
        · exact .inl h
        · exact .inr (.inr h)
      · exact .inr (.inl h)
theorem pos_takeR : ∀ (l : List Rl) (x z : Rl), z ∈ l.take (posSR l x) → cmpR z x < 0
  | [], _, _, h => by simp at h
  | a :: r, x, z, h => by
    unfold posSR at h
    by_cases ha : cmpR a x < 0
    · rw [if_pos ha] at h
      rcases List.mem_cons.1 (by simpa using h) with rfl | h
      · exact ha
      · exact pos_takeR r x z h
    · rw [if_neg ha] at h; simp at h
theorem pos_dropR : ∀ (l : List Rl) (x z : Rl), AscR l → z ∈ l.drop (posSR l x) → ¬ cmpR z x < 0
  | [], _, _, _, h => by simp at h
  | a :: r, x, z, hl, h => by
    unfold posSR at h
    by_cases ha : cmpR a x < 0
    · rw [if_pos ha] at h
      exact pos_dropR r x z (List.pairwise_cons.1 hl).2 (by simpa using h)
    · rw [if_neg ha] at h
      rcases List.mem_cons.1 (by simpa using h) with rfl | h
      · exact ha
      · have := (List.pairwise_cons.1 hl).1 z h
        intro hz; exact ha (lt_trans'R this hz)
theorem insS_ascR {l : List Rl} (h : AscR l) (x : Rl) : AscR (insSR l x) := by
  unfold insSR
  by_cases hx : hasR l x = true
  · rw [if_pos hx]; exact h
  · rw [if_neg hx]
    have hn : ¬ x ∈ l := fun h' => hx ((hasR_mem l x).2 h')
    have h1 : AscR (l.take (posSR l x)) := h.sublist (List.take_sublist _ _)
    have h2 : AscR (l.drop (posSR l x)) := h.sublist (List.drop_sublist _ _)
    have h3 : ∀ a ∈ l.take (posSR l x), ∀ b ∈ l.drop (posSR l x), cmpR a b < 0 := by
      have := h
      rw [AscR, ← List.take_append_drop (posSR l x) l, List.pairwise_append] at this
      exact this.2.2
    unfold insAtR AscR
    rw [List.pairwise_append, List.pairwise_cons]
    refine ⟨h1, ⟨fun b hb => ?_, h2⟩, fun a ha b hb => ?_⟩
    · have h4 := pos_dropR l x b h hb
      have h5 : ¬ cmpR b x = 0 := fun e => hn ((cmpR_zero b x).1 e ▸ List.mem_of_mem_drop hb)
      have := wcmp_rl.neg b x
      omega
    · rcases List.mem_cons.1 hb with rfl | hb
      · exact pos_takeR l b a ha
      · exact h3 a ha b hb
theorem insAll_ascR : ∀ (l acc : List Rl), AscR acc → AscR (insAllR acc l)
  | [], _, h => h
  | x :: l, _, h => insAll_ascR l _ (insS_ascR h x)
theorem insAll_memR : ∀ (l acc : List Rl) (z : Rl), z ∈ insAllR acc l ↔ z ∈ acc ∨ z ∈ l
  | [], acc, z => by simp [insAllR]
  | x :: l, acc, z => by
    unfold insAllR
    rw [insAll_memR l, insS_memR, List.mem_cons, or_assoc]
/-- A row in order, each once. -/
def ordR (l : List Rl) : List Rl := insAllR [] l
theorem ord_ascR (l : List Rl) : AscR (ordR l) := insAll_ascR l [] List.Pairwise.nil
theorem ord_memR (l : List Rl) (x : Rl) : x ∈ ordR l ↔ x ∈ l := by unfold ordR; rw [insAll_memR]; simp
theorem ord_extR {l m : List Rl} (h : ∀ x, x ∈ l ↔ x ∈ m) : ordR l = ordR m := asc_uniqueR _ _ (ord_ascR _) (ord_ascR _) (fun x => by rw [ord_memR, ord_memR]; exact h x)
theorem asc_ordR {l : List Rl} (h : AscR l) : ordR l = l := asc_uniqueR _ _ (ord_ascR _) h (ord_memR l)
theorem ord_filterR (l : List Rl) (p : Rl → Bool) : ordR (l.filter p) = (ordR l).filter p :=
  asc_uniqueR _ _ (ord_ascR _) ((ord_ascR l).filter _) (fun x => by simp [ord_memR])
theorem insAll_lenR : ∀ (l acc : List Rl), (insAllR acc l).length ≤ acc.length + l.length
  | [], acc => Nat.le_refl _
  | x :: r, acc => by
    have h1 := insAll_lenR r (insSR acc x)
    have h2 := insS_lenR acc x
    show (insAllR (insSR acc x) r).length ≤ acc.length + (r.length + 1)
    omega
theorem ord_lenR (l : List Rl) : (ordR l).length ≤ l.length := by have := insAll_lenR l []; simpa [ordR] using this
theorem filter_takeR {l : List Rl} {p : Rl → Bool} {k : Nat} (h : k < l.length) : (l.take (k + 1)).filter p = (l.take k).filter p ++ (if p l[k] = true then [l[k]] else []) := by
  rw [List.take_succ_eq_append_getElem h, List.filter_append]
  cases hp : p l[k] <;> simp [hp]
theorem filter_yesR {l : List Rl} {p : Rl → Bool} {k : Nat} (h : k < l.length) (hp : p l[k] = true) : (l.take (k + 1)).filter p = (l.take k).filter p ++ [l[k]] := by
  rw [filter_takeR h, if_pos hp]
theorem filter_noR {l : List Rl} {p : Rl → Bool} {k : Nat} (h : k < l.length) (hp : p l[k] = false) : (l.take (k + 1)).filter p = (l.take k).filter p := by
  rw [filter_takeR h, if_neg (by rw [hp]; exact Bool.false_ne_true), List.append_nil]
end Go.Proofs.Ythickpocfplcoaa
namespace Go.Proofs.Ythickpocfplcoaa
open Go.RowKit Go.Shelf

theorem frozen_sets {b i : Nat} : ∀ (vs : List Value) (o : Nat) (w' : World), w'.frozen? ⟨b, i, none⟩ = false → (w'.setCells b o vs).frozen? ⟨b, i, none⟩ = false
  | [], _, _, h => h
  | v :: vs, o, w', h => by
    rw [World.setCells]
    exact frozen_sets vs (o + 1) _ (by simpa using h)

theorem dedup_snocR : ∀ (p : List Rl) (y z : Rl), dedupR (p ++ [y, z]) = if y = z then dedupR (p ++ [y]) else dedupR (p ++ [y]) ++ [z]
  | [], y, z => by
    show dedupR [y, z] = if y = z then dedupR [y] else dedupR [y] ++ [z]
    unfold dedupR
    by_cases h : y = z
    · rw [if_pos h, if_pos h, h]; rfl
    · rw [if_neg h, if_neg h]; rfl
  | [x], y, z => by
    have ih := dedup_snocR [] y z
    simp only [List.nil_append] at ih
    show dedupR (x :: y :: [z]) = if y = z then dedupR (x :: y :: []) else dedupR (x :: y :: []) ++ [z]
    have e1 : dedupR (x :: y :: [z]) = if x = y then dedupR [y, z] else x :: dedupR [y, z] := rfl
    have e2 : dedupR (x :: y :: []) = if x = y then dedupR [y] else x :: dedupR [y] := rfl
    rw [e1, e2, ih]
    by_cases h1 : x = y <;> by_cases h2 : y = z <;> simp [h1, h2]
  | x :: x' :: p, y, z => by
    have ih := dedup_snocR (x' :: p) y z
    simp only [List.cons_append] at ih ⊢
    have e1 : ∀ r, dedupR (x :: x' :: r) = if x = x' then dedupR (x' :: r) else x :: dedupR (x' :: r) := fun _ => rfl
    rw [e1, e1, ih]
    by_cases h1 : x = x' <;> by_cases h2 : y = z <;> simp [h1, h2]
theorem take_twoR (l : List Rl) (m : Nat) (h : m + 1 < l.length) : l.take (m + 2) = l.take m ++ [l[m], l[m + 1]] := by
  rw [List.take_succ_eq_append_getElem h, List.take_succ_eq_append_getElem (by omega), List.append_assoc]; rfl
theorem dedup_sameR (l : List Rl) (m : Nat) (h : m + 1 < l.length) (e : l[m] = l[m + 1]) : dedupR (l.take (m + 2)) = dedupR (l.take (m + 1)) := by
  rw [take_twoR l m h, dedup_snocR, if_pos e, List.take_succ_eq_append_getElem (by omega)]
theorem dedup_moreR (l : List Rl) (m : Nat) (h : m + 1 < l.length) (e : ¬ l[m] = l[m + 1]) : dedupR (l.take (m + 2)) = dedupR (l.take (m + 1)) ++ [l[m + 1]] := by
  rw [take_twoR l m h, dedup_snocR, if_neg e, List.take_succ_eq_append_getElem (by omega)]
theorem dedup_lenR : ∀ (l : List Rl), (dedupR l).length ≤ l.length
  | [] => Nat.le_refl _
  | [_] => Nat.le_refl _
  | x :: y :: r => by
    have ih := dedup_lenR (y :: r)
    unfold dedupR
    split <;> simp at ih ⊢ <;> omega
theorem dedup_oneR (l : List Rl) (h : 0 < l.length) : dedupR (l.take 1) = l.take 1 := by
  match l, h with
  | x :: r, _ => rfl
/-- The first k of a row that Compact works on are what stays of its first m; the rest is as it was. -/
structure HalfR (w : World) (b o : Nat) (l : List Rl) (m k : Nat) : Prop where
  len : (dedupR (l.take m)).length = k
  low : ∀ i (hi : i < (dedupR (l.take m)).length), Two w b (o + i * 2) (dedupR (l.take m))[i]
  high : ∀ i (hi : i < l.length), k ≤ i → Two w b (o + i * 2) l[i]
def W2 (w : World) (b a : Nat) (s : Rl) : World := (w.setCell ⟨b, a, none⟩ (.string s.o)).setCell ⟨b, a + 1, none⟩ (.string s.n)
theorem w2_far (w : World) (b a i : Nat) (s : Rl) (h : i < a ∨ a + 2 ≤ i) : (W2 w b a s).cell? ⟨b, i, none⟩ = w.cell? ⟨b, i, none⟩ := by
  unfold W2
  rw [set_far _ _ _ _ _ (by omega), set_far _ _ _ _ _ (by omega)]
theorem w2_new {w : World} {b a : Nat} (s s0 : Rl) (h : Two w b a s0) : Two (W2 w b a s) b a s := by
  obtain ⟨h0, h1⟩ := h
  refine ⟨?_, ?_⟩
  · unfold W2; rw [set_far _ _ _ _ _ (by omega)]; exact World.cell?_setCell_same _ _ _ (u := _) h0
  · unfold W2; refine World.cell?_setCell_same _ _ _ (u := .string s0.n) ?_; rw [set_far _ _ _ _ _ (by omega)]; exact h1
theorem Two.drop1 {w w' : World} {b x : Nat} {s : Rl} (h : Two w b x s) (hw : ∀ i, x ≤ i → i < x + 2 → w'.cell? ⟨b, i, none⟩ = w.cell? ⟨b, i, none⟩) : Two w' b x s := by
  obtain ⟨h0, h1⟩ := h
  exact ⟨(hw _ (by omega) (by omega)).trans h0, (hw _ (by omega) (by omega)).trans h1⟩
theorem HalfR.put {w : World} {b o m kk : Nat} {l : List Rl} (h : HalfR w b o l (m + 1) kk) (hm : m + 1 < l.length) (hk : kk ≤ m) (e : ¬ l[m] = l[m + 1]) : HalfR (W2 w b (o + kk * 2) l[m + 1]) b o l (m + 2) (kk + 1) := by
  have hd := dedup_moreR l m hm e
  refine ⟨by rw [hd, List.length_append, h.len]; rfl, fun i hi => ?_, fun i hi hik => ?_⟩
  · rw [hd, List.length_append, h.len] at hi
    simp only [List.length_cons, List.length_nil] at hi
    by_cases hik : i < kk
    · have e1 : (dedupR (l.take (m + 2)))[i]'(by rw [hd, List.length_append, h.len]; simp; omega) = (dedupR (l.take (m + 1)))[i]'(by rw [h.len]; exact hik) := by
        simp only [hd]; rw [List.getElem_append_left]
      rw [e1]
      exact (h.low i (by rw [h.len]; exact hik)).drop1 (fun j _ _ => w2_far _ _ _ _ _ (by omega))
    · obtain rfl : i = kk := by omega
      have e1 : (dedupR (l.take (m + 2)))[i]'(by rw [hd, List.length_append, h.len]; simp) = l[m + 1] := by
        simp only [hd]; rw [List.getElem_append_right (by rw [h.len]; exact Nat.le_refl _)]; simp [h.len]
      rw [e1]
      exact w2_new _ _ (h.high i (by omega) (Nat.le_refl _))
  · exact (h.high i hi (by omega)).drop1 (fun j _ _ => w2_far _ _ _ _ _ (by omega))
theorem HalfR.same {w : World} {b o m kk : Nat} {l : List Rl} (h : HalfR w b o l (m + 1) kk) (hm : m + 1 < l.length) (e : l[m] = l[m + 1]) : HalfR w b o l (m + 2) kk := by
  have hd := dedup_sameR l m hm e
  exact ⟨by rw [hd]; exact h.len, fun i hi => by simp only [hd]; exact h.low i (by rw [← hd]; exact hi), h.high⟩
theorem HalfR.drewN {w : World} {b o m k : Nat} {l : List Rl} (h : HalfR w b o l m k) (n : Nat) : HalfR (w.drewN n) b o l m k := ⟨h.len, h.low, h.high⟩
theorem grown_w9R {w w' : World} {b a : Nat} {s : Rl} (h : w.grownBy w' (some b)) : w.grownBy (W2 w' b a s) (some b) := by
  unfold W2
  exact grown_set (grown_set h)
theorem frozen_w9R {w : World} {b a i : Nat} {s : Rl} (h : w.frozen? ⟨b, i, none⟩ = false) : (W2 w b a s).frozen? ⟨b, i, none⟩ = false := by unfold W2; simpa using h
theorem size_w9R {w : World} {b a : Nat} {s : Rl} : (W2 w b a s).heap.size = w.heap.size := by unfold W2; simp
theorem run_clear2R {P : Program} (w : World) (t e ty : TypeId) (z : Value) (ht : P.underlying t = some (.slice e)) (hv : ∀ w, (zeroValue e).run P w = .ok z w) (b o n c : Nat) (hn : 0 < n) (hs : z.cells.size = 2)
    (hc : ∀ j, j < n * 2 → (w.cell? ⟨b, o + j, none⟩).isSome = true) (hf : ∀ j, w.frozen? ⟨b, o + j, none⟩ = false) (h1 : ∀ v ∈ (Builtin.zeroCells z.cells n).toList, v.oneCell' = true) :
    (Builtin.clear_ #[t] ty #[.slice (some ⟨b, o, none⟩) n c]).run P w = .ok (.tuple #[]) (w.setCells b o (Builtin.zeroCells z.cells n).toList) := by
  have hl : (Builtin.zeroCells z.cells n).toList.length = n * 2 := by simp [Builtin.zeroCells, hs]
  have hst := run_storeCells_cells (P := P) b o (Builtin.zeroCells z.cells n).toList 0 w (by intro j hj; rw [hl] at hj; simpa using hc j hj) (by intro j _; simp [hf]) h1
  simp only [Nat.add_zero] at hst
  obtain ⟨m, rfl⟩ : ∃ m, n = m + 1 := ⟨n - 1, by omega⟩
  simp [Builtin.clear_, run_underlying ht, hv, hst]
abbrev zeroRl : Value := .agg #[.string ByteArray.empty, .string ByteArray.empty]
theorem zero_oneR (n : Nat) : ∀ v ∈ (Builtin.zeroCells zeroRl.cells n).toList, v.oneCell' = true := by
  intro v hv
  simp only [Builtin.zeroCells, Array.toList_map, List.mem_map] at hv
  obtain ⟨i, _, rfl⟩ := hv
  have h9 : i % zeroRl.cells.size < 2 := Nat.mod_lt _ (by decide)
  generalize i % zeroRl.cells.size = q at h9
  match q, h9 with
  | 0, _ => rfl
  | 1, _ => rfl
  | n + 2, h => omega
theorem two_someR {w : World} {b x : Nat} {s : Rl} (h : Two w b x s) (f : Nat) (hf : f < 2) : (w.cell? ⟨b, x + f, none⟩).isSome = true := by
  obtain ⟨h0, h1⟩ := h
  match f, hf with
  | 0, _ => rw [Nat.add_zero, h0]; rfl
  | 1, _ => rw [h1]; rfl
theorem HalfR.all {w : World} {b o m k : Nat} {l : List Rl} (h : HalfR w b o l m k) (hm : m = l.length) : (dedupR l).length = k ∧ ∀ i (hi : i < (dedupR l).length), Two w b (o + i * 2) (dedupR l)[i] := by
  subst hm
  obtain ⟨h1, h2, _⟩ := h
  simp only [List.take_of_length_le (Nat.le_refl _)] at h1 h2
  exact ⟨h1, h2⟩
theorem two_cellsR {w : World} {b o : Nat} {l : List Rl} (h : ∀ i (hi : i < l.length), Two w b (o + i * 2) l[i]) (j : Nat) (u : Value) (hu : (l.flatMap Rl.cells)[j]? = some u) : w.cell? ⟨b, o + j, none⟩ = some u := by
  have hj : j < l.length * 2 := by rw [← flat_len Rl.cells 2 Rl.cells_len l]; exact (List.getElem?_eq_some_iff.1 hu).1
  have hi : j / 2 < l.length := by omega
  have hf : j % 2 < 2 := Nat.mod_lt _ (by decide)
  have e : j = j / 2 * 2 + j % 2 := by omega
  rw [e, flat_get Rl.cells 2 Rl.cells_len l (j / 2) (j % 2) hf _ (List.getElem?_eq_getElem hi)] at hu
  obtain ⟨h0, h1⟩ := h (j / 2) hi
  rw [show o + j = o + j / 2 * 2 + j % 2 by omega]
  generalize j % 2 = f at hf hu
  match f, hf with
  | 0, _ => rw [Nat.add_zero, h0]; exact hu
  | 1, _ => rw [h1]; exact hu
theorem high_someR {w : World} {b o m k : Nat} {l : List Rl} (h : HalfR w b o l m k) (hk : k ≤ l.length) : ∀ j, j < (l.length - k) * 2 → (w.cell? ⟨b, o + k * 2 + j, none⟩).isSome = true := by
  intro j hj
  have := two_someR (h.high (k + j / 2) (by omega) (by omega)) (j % 2) (Nat.mod_lt _ (by decide))
  rwa [show o + (k + j / 2) * 2 + j % 2 = o + k * 2 + j by omega] at this
set_option maxRecDepth 100000 in
theorem rl_zero (w : World) : (zeroValue 24).run Try.prog w = .ok zeroRl w := by rfl
end Go.Proofs.Ythickpocfplcoaa
namespace Go.Proofs.Ythickpocfplcoaa
open Go.RowKit Go.Shelf Go.Lib Go.Sort

instance rlInh : Inhabited Rl := ⟨⟨ByteArray.empty, ByteArray.empty⟩⟩
/-- A row of roles of the call's own, that may be turned. -/
def OwnR (w w' : World) (v : Value) (l : List Rl) : Prop :=
  (v = .slice none 0 0 ∧ l = []) ∨ ∃ g cap, v = .slice (some ⟨g, 0, none⟩) l.length cap ∧ w.heap.size ≤ g ∧ g < w'.heap.size ∧ l.length ≤ cap ∧ cap ≤ 9223372036854775807 ∧ (∀ j u, (l.flatMap Rl.cells)[j]? = some u → w'.cell? ⟨g, 0 + j, none⟩ = some u) ∧ ∀ i, w'.frozen? ⟨g, i, none⟩ = false
theorem OwnR.sl {w w' : World} {v : Value} {l : List Rl} (h : OwnR w w' v l) : Sl w' 2 v l.length (l.flatMap Rl.cells) := by
  have hmax : maxLen = 9223372036854775807 := by decide
  rcases h with ⟨rfl, rfl⟩ | ⟨g, cap, rfl, _, h2, h3, h4, h5, _⟩
  · exact Sl.nil _ _
  · exact ⟨flat_len _ _ Rl.cells_len _, by omega, .inr ⟨g, 0, cap, rfl, h3, by omega, h2, h5⟩⟩
theorem rlc_one (s : Rl) : ∀ u ∈ s.cells, u.oneCell' = true := fun u hu => rls_one [s] u (by simpa using hu)
set_option maxHeartbeats 1000000 in
theorem syn_LessG (x y : Rl) (w : World) : Calls Try.prog 55 #[rv x, rv y] w fun e w' => e = .returned (.bool (decide (cmpR x y < 0))) ∧ Gr w w' := by
  have O := Lib.hid (fun W => syn_orderG x y W)
  generalize cmpR x y = c at O ⊢
  obtain ⟨a, b⟩ := x
  obtain ⟨c1, d⟩ := y
  go_enter Try.func55, Try.ntmps55
  go_wp2_with (go_at_call 65; refine (O.out _).mono ?_; rintro e w1 ⟨rfl, hg⟩)
  go_ret
  exact ⟨rfl, (((Gr.refl w).alloc _).alloc _).trans hg⟩
theorem swo_stR : SWO (ltOf cmpR) where
  irrefl x := decide_eq_false (lt_irrefl'R x)
  trans x y z h h' := decide_eq_true (lt_trans'R (of_decide_eq_true h) (of_decide_eq_true h'))
  ntrans x y z h h' := by
    have h1 := of_decide_eq_false h
    have h2 := of_decide_eq_false h'
    have n1 := wcmp_rl.neg x y
    have n2 := wcmp_rl.neg y z
    have n3 := wcmp_rl.neg x z
    obtain ⟨a, _⟩ := wcmp_rl.le z y x (by omega) (by omega)
    exact decide_eq_false (by omega)
theorem tot_stR (x y : Rl) (h : ltOf cmpR x y = false) (h' : ltOf cmpR y x = false) : x = y := by
  have h1 := of_decide_eq_false h
  have h2 := of_decide_eq_false h'
  have n1 := wcmp_rl.neg x y
  exact (cmpR_zero x y).1 (by omega)
def sortSR (l : List Rl) : List Rl := l.mergeSort fun x y => !(ltOf cmpR) y x
theorem sort_leR (l : List Rl) : (sortSR l).Pairwise fun x y => cmpR x y ≤ 0 := by
  have h : (sortSR l).Pairwise fun x y => (!(ltOf cmpR) y x) = true := by
    refine List.pairwise_mergeSort ?_ ?_ l
    · intro a b c h1 h2
      simp only [Bool.not_eq_true'] at h1 h2 ⊢
      exact swo_stR.ntrans c b a h2 h1
    · intro a b
      cases h : ltOf cmpR b a with
      | false => simp
      | true => simp [swo_stR.asymmA h]
  refine h.imp fun {x y} h => ?_
  simp only [Bool.not_eq_true'] at h
  have h1 := of_decide_eq_false h
  have n1 := wcmp_rl.neg x y
  omega
theorem dedup_sortR (l : List Rl) : dedupR (sortSR l) = insAllR [] l := by
  refine asc_uniqueR _ _ (dedup_ascR _ (sort_leR l)) (insAll_ascR l [] List.Pairwise.nil) fun z => ?_
  rw [dedup_memR, insAll_memR]
  simp [sortSR]
theorem sort_lenR (l : List Rl) : (sortSR l).length = l.length := by simp [sortSR]
theorem flatK_getR (l : List Rl) (j : Nat) (u : Value) (h : (l.flatMap Rl.cells)[j]? = some u) : j < l.length * 2 ∧ (flatK Rl.cells 2 l.toArray)[j]! = u := by
  have hj : j < l.length * 2 := by rw [← flat_len Rl.cells 2 Rl.cells_len l]; exact (List.getElem?_eq_some_iff.1 h).1
  refine ⟨hj, ?_⟩
  have hi : j / 2 < l.length := by omega
  have hf : j % 2 < 2 := Nat.mod_lt _ (by decide)
  rw [get_flatK _ _ _ _ (by simpa using hj)]
  have e : j = j / 2 * 2 + j % 2 := by omega
  have h' := h
  rw [e, flat_get Rl.cells 2 Rl.cells_len l (j / 2) (j % 2) hf _ (List.getElem?_eq_getElem hi)] at h'
  have e1 : l.toArray[j / 2]! = l[j / 2] := by rw [getElem!_pos l.toArray (j / 2) (by simpa using hi)]; simp
  rw [e1, List.getElem!_eq_getElem?_getD, h']
  rfl
theorem holds_stR {w : World} {b o : Nat} {l : List Rl} (hx : ∀ j u, (l.flatMap Rl.cells)[j]? = some u → w.cell? ⟨b, o + j, none⟩ = some u) (hf : ∀ i, w.frozen? ⟨b, i, none⟩ = false) : HoldsK Rl.cells 2 w b o l.toArray := by
  intro j hj
  rw [size_flatK] at hj
  have hj' : j < (l.flatMap Rl.cells).length := by rw [flat_len Rl.cells 2 Rl.cells_len]; simpa using hj
  have hu := List.getElem?_eq_getElem hj'
  refine ⟨?_, hf _⟩
  rw [hx j _ hu, ← (flatK_getR l j _ hu).2]
  rfl
theorem cells_stR {w : World} {b o : Nat} {l : List Rl} (h : HoldsK Rl.cells 2 w b o l.toArray) (j : Nat) (u : Value) (hu : (l.flatMap Rl.cells)[j]? = some u) : w.cell? ⟨b, o + j, none⟩ = some u := by
  obtain ⟨hj, he⟩ := flatK_getR l j u hu
  have := (h j (by rw [size_flatK]; simpa using hj)).1
  rw [he] at this
  exact this
theorem sort_grownR (w : World) (blk off n : Nat) (d : Array Rl) (os : Array Obj) : w.grownBy (sortWorldK Rl.cells 2 w blk off n d os) (some blk) := by
  refine ⟨rfl, rfl, rfl, ?_, fun k hk hne => ?_⟩
  · unfold sortWorldK; rw [Go.Sort.size_grow, size_putRowK]; exact Nat.le_add_right _ _
  · have hkb : ¬ blk = k := fun e => hne (by rw [e])
    show ((w.heap.modify blk _) ++ os)[k]? = w.heap[k]?
    rw [Array.getElem?_append_left (by simpa using hk)]
    simp [Array.getElem?_modify, hkb]
theorem sort_frozenR (w : World) (blk off n : Nat) (d : Array Rl) (os : Array Obj) (hb : blk < w.heap.size) (i : Nat) : (sortWorldK Rl.cells 2 w blk off n d os).frozen? ⟨blk, i, none⟩ = w.frozen? ⟨blk, i, none⟩ := by
  unfold sortWorldK
  rw [Go.Sort.frozen?_grow _ _ _ (by rw [size_putRowK]; exact hb)]
  unfold putRowK
  rw [frozen?_putRow]
  rfl
end Go.Proofs.Ythickpocfplcoaa
namespace Go.Proofs.Ythickpocfplcoaa
open Go.RowKit Go.Shelf

theorem rl_Grow (n : Nat) (w : World) (hn : n ≤ 2000) : Calls Try.prog 86 #[.slice none 0 0, .int .i64 n] w fun e w' =>
    ∃ a cap, e = .returned (.slice a 0 cap) ∧ w'.ownsRow w.heap.size 24 2 (.slice a 0 cap) 0 [] ∧ Below w.heap.size w w' := by
  by_cases h0 : 0 < n
  · obtain ⟨inf, hinf, hz0, hz1, hz2⟩ := info_parts rl_info'
    refine (Any8.slices_Grow_grow Try.growR inf _ hinf hz0 (by omega) none 0 0 n [] w (Nat.le_refl _) (by omega) (by rw [hz2]; omega) (by omega) (by simp) (fun _ => rfl) (fun a h => by cases h)).mono ?_
    rintro e w' ⟨rfl, rfl⟩
    have hge := grownCap_ge w (0 + n) 0 24
    have hle := grownCap_le_maxLen w (0 + n) 0 24 (by simp only [maxLen]; omega)
    refine ⟨_, _, rfl, World.ownsRow_made w.drew _ _ (Nat.le_refl _) hle ?_, (below_drew (Below.refl _ _)).alloc (Nat.le_refl _) _⟩
    rw [Nat.zero_add] at hge hle ⊢
    simp [Builtin.zeroCells, Value.cells]
    rw [show Try.growR_ren.t 25 = 24 from rfl]
    omega
  · obtain rfl : n = 0 := by omega
    refine (Any8.slices_Grow_room Try.growR none 0 0 0 w (Nat.le_refl _) (by omega) (by omega) (by omega)).mono ?_
    rintro e w' ⟨rfl, rfl⟩
    exact ⟨_, _, rfl, World.ownsRow_nil _ _ _ _, Below.refl _ _⟩
set_option maxRecDepth 100000 in
set_option maxHeartbeats 4000000 in
/-- slices.Concat of two rows. -/
theorem rl_Concat (g : Nat) (va vb : Value) (l m : List Rl) (w : World) (hg : Blk w g #[va, vb]) (ha : SlA w 2 va l.length (l.flatMap Rl.cells)) (hb : SlA w 2 vb m.length (m.flatMap Rl.cells)) (hl : l.length ≤ 1000) (hm : m.length ≤ 1000) :
    Calls Try.prog 68 #[.slice (some ⟨g, 0, none⟩) 2 2] w fun e w' => ∃ v, e = .returned v ∧ Sl w' 2 v (l ++ m).length ((l ++ m).flatMap Rl.cells) ∧ Below w.heap.size w w' := by
  have HA := Lib.hid ha
  have HB := Lib.hid hb
  have HG := Lib.hid hg
  obtain ⟨ao, ac, hva⟩ := ha.form
  obtain ⟨bo, bc, hvb⟩ := hb.form
  subst hva hvb
  have GR : Hid (∀ W, Calls Try.prog 86 #[.slice none 0 0, .int .i64 ((l.length : Int) + (m.length : Int))] W fun e w' =>
      ∃ a cap, e = .returned (.slice a 0 cap) ∧ w'.ownsRow W.heap.size 24 2 (.slice a 0 cap) 0 [] ∧ Below W.heap.size W w') := Lib.hid (fun W => by
    have h := rl_Grow (l.length + m.length) W (by omega)
    rw [Int.natCast_add] at h
    exact h)
  have c0 : w.cell? ⟨g, 0, none⟩ = some (.slice ao l.length ac) := (hg.1 0).trans rfl
  have c1 : w.cell? ⟨g, 1, none⟩ = some (.slice bo m.length bc) := (hg.1 1).trans rfl
  have hgw : g < w.heap.size := hg.2.2
  clear ha hb hg
  go_enter Try.func68, Try.ntmps68
  go_wp2
  go_loop [3, 11] (fun n i => (n = .int .i64 0 ∧ i = .int .i64 0) ∨ (n = .int .i64 l.length ∧ i = .int .i64 1) ∨ (n = .int .i64 ((l.length : Int) + (m.length : Int)) ∧ i = .int .i64 2)) (fun _ i => 2 - (intOf i).toNat)
  case atStart => exact .inl ⟨rfl, rfl⟩
  case round =>
    obtain ⟨rfl, rfl⟩ | ⟨rfl, rfl⟩ | ⟨rfl, rfl⟩ := hrel
    · have d : decide ((l.length : Int) < 0) = false := by (rw [decide_eq_false_iff_not]; omega)
      have hw : IntKind.i64.wrap ((0 : Int) + (l.length : Int)) = (l.length : Int) := by rw [Int.zero_add]; exact Go.IntWalk.i64_in _ (by omega)
      go_wp2
      exact ⟨.inr (.inl ⟨rfl, rfl⟩), by simp [intOf]⟩
    · have d : decide ((l.length : Int) + (m.length : Int) < 0) = false := by (rw [decide_eq_false_iff_not]; omega)
      have hw : IntKind.i64.wrap ((l.length : Int) + (m.length : Int)) = (l.length : Int) + (m.length : Int) := Go.IntWalk.i64_in _ (by omega)
      go_wp2
      exact ⟨.inr (.inr ⟨rfl, rfl⟩), by simp [intOf]⟩
    · go_wp2_with fail
      refine (GR.out _).mono ?_
      rintro e w1 ⟨a1, cap1, rfl, hown, hb1⟩
      have HO := Lib.hid hown
      have HB1 := Lib.hid hb1
      clear hown hb1 c0 c1 hgw
      go_wp2_with fail
      go_loopw [6, 27] (fun vo i wr => Hid (Below w.heap.size w wr) ∧ ((i = .int .i64 0 ∧ Hid (wr.ownsRow w.heap.size 24 2 vo 0 [])) ∨ (i = .int .i64 1 ∧ Hid (wr.ownsRow w.heap.size 24 2 vo l.length (l.flatMap Rl.cells))) ∨ (i = .int .i64 2 ∧ Hid (wr.ownsRow w.heap.size 24 2 vo (l.length + m.length) ((l ++ m).flatMap Rl.cells))))) (fun _ i _ => 2 - (intOf i).toNat)
      case atStart => exact ⟨HB1, .inl ⟨rfl, HO⟩⟩
      case round =>
        obtain ⟨HBR, ⟨rfl, HOR⟩ | ⟨rfl, HOR⟩ | ⟨rfl, HOR⟩⟩ := hrel
        · have hbk := HG.out.below HBR.out
          have c0 : wr.cell? ⟨g, 0, none⟩ = some (.slice ao l.length ac) := (hbk.1 0).trans rfl
          have hgw : g < wr.heap.size := hbk.2.2
          obtain ⟨xo, xc, rfl⟩ := own_form HOR.out
          clear hbk
          go_wp2_with (at_builtin; refine halt_ ?_)
          unfold Halt_
          refine app_row Try.underlying52 rl_info' rfl (by decide) (by decide) rfl _ _ rfl w.heap.size rfl HOR.out rfl (HA.out.below HBR.out) (rls_one _) (by omega) HBR.out.size ?_
          intro a' cap' w3 hown' hgrow
          have HO3 := Lib.hid (show w3.ownsRow w.heap.size 24 2 (.slice a' l.length cap') l.length (l.flatMap Rl.cells) by simpa using hown')
          have HB3 := Lib.hid (below_own HBR.out HOR.out hgrow HBR.out.size (Nat.le_refl _))
          clear hown' hgrow
          go_wp2_with fail
          exact ⟨⟨HB3, .inr (.inl ⟨rfl, HO3⟩)⟩, by simp [intOf]⟩
        · have hbk := HG.out.below HBR.out
          have c1 : wr.cell? ⟨g, 1, none⟩ = some (.slice bo m.length bc) := (hbk.1 1).trans rfl
          have hgw : g < wr.heap.size := hbk.2.2
          obtain ⟨xo, xc, rfl⟩ := own_form HOR.out
          clear hbk
          go_wp2_with (at_builtin; refine halt_ ?_)
          unfold Halt_
          refine app_row Try.underlying52 rl_info' rfl (by decide) (by decide) rfl _ _ rfl w.heap.size rfl HOR.out rfl (HB.out.below HBR.out) (rls_one _) (by omega) HBR.out.size ?_
          intro a' cap' w3 hown' hgrow
          have HO3 := Lib.hid (show w3.ownsRow w.heap.size 24 2 (.slice a' (l.length + m.length) cap') (l.length + m.length) ((l ++ m).flatMap Rl.cells) by rw [rl_flat]; exact hown')
          have HB3 := Lib.hid (below_own HBR.out HOR.out hgrow HBR.out.size (Nat.le_refl _))
          clear hown' hgrow
          go_wp2_with fail
          exact ⟨⟨HB3, .inr (.inr ⟨rfl, HO3⟩)⟩, by simp [intOf]⟩
        · obtain ⟨xo, xc, rfl⟩ := own_form HOR.out
          have HS := Lib.hid (Sl.of_own HOR.out)
          go_wp2_with fail
          go_ret
          exact ⟨_, rfl, by rw [List.length_append]; exact HS.out, HBR.out⟩
end Go.Proofs.Ythickpocfplcoaa
