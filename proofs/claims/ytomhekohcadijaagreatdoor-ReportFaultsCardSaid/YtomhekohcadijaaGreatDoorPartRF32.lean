/- report.Print: the text of verdicts that may be; of others nothing (printed by gen_repprintw.py). Package delta: without, with, Back, Empty, Same. Whether two differences are the same (printed by gen_dlsame.py). crupperref32.Out: roles that aren't among others, in order (printed by gen_rlall.py out of StOf). Package state: Reaches; the reference's MayCome and Reaches. Package state's Reaches, and the reference's MayCome and Reaches. The reference's Reaches. -/
import Derived.Test.YtomhekohcadijaaGreatDoorPartRF31
import Derived.Test.YtomhekohcadijaaGreatDoorPartRF27
import Derived.Test.YtomhekohcadijaaGreatDoorPartRF28
import Derived.Test.YtomhekohcadijaaGreatDoorPartRF16
import Derived.Test.YtomhekohcadijaaGreatDoorPartRF14
namespace Go.Proofs.YtomhekohcadijaaGreatDoor
open Go.RowKit Go.Shelf

set_option maxRecDepth 100000 in
set_option maxHeartbeats 8000000 in
theorem rep_Print {w : World} {v0 v1 v2 v3 : Value} {p : Pd} {us : List (Qd × Value)} {B : Bool} (H : PolD w v0 v1 v2 v3 p us) (hle : LeP p 40 40) (hl : p.l.length ≤ 30) (hg : p.g.length ≤ 30) (hh : p.h.length ≤ 30) (hq : p.q.length ≤ 30) (hB : B = true ↔ RightD p) (va : Value) (zs : List VZ) (HV : VsAt w va zs) (hz : ∀ z ∈ zs, allLe z.d.st 4294967) (hsl : ∀ z ∈ zs, z.d.st.length ≤ 5000) :
    Calls Tryz.prog 34 #[pv v0 v1 v2 v3, va] w fun e w' => e = .returned (.string (printV B p zs)) ∧ Below w.heap.size w w' := by
  have RT := Lib.hid (fun W (hb : Below w.heap.size w W) => rep_Right (H.below hb) hle hl hg hh hq hB va zs (HV.below hb) hz)
  have RI := Lib.hid (rightR_iff (zs := zs) hB)
  have P0 := Lib.hid (fun (h : rightR B p zs = false) => show printV B p zs = emp from if_neg (by rw [h]; exact Bool.false_ne_true))
  have P1 := Lib.hid (fun (h : rightR B p zs = true) => show printV B p zs = textR p.l p.q (zs.map (·.d)) from if_pos h)
  have hul : us.length = p.q.length := by rw [← H.z, List.length_map]
  have HQE := Lib.hid (fun k (hk : k < us.length) (hk2 : k < p.q.length) => show us[k].1 = p.q[k] by
    have e := H.z
    have : (us.map (·.1))[k]'(by simpa using hk) = p.q[k] := by simp only [e]
    simpa using this)
  generalize printV B p zs = res at *
  generalize rightR B p zs = rb at *
  have HP := Lib.hid H
  have HA := Lib.hid HV
  have HSL := Lib.hid hsl
  have hmax := HV.r.max
  have hus : us.length ≤ 30 := by omega
  obtain ⟨a0, c0, rfl⟩ := H.rs.form
  obtain ⟨a1, c1, rfl⟩ := H.rg.form
  obtain ⟨a2, c2, rfl⟩ := H.rh.form
  obtain ⟨a3, c3, rfl⟩ := H.rq.form
  obtain ⟨ao, ac, rfl⟩ := HV.r.form
  have HT := Lib.hid (show OneAt w #[.slice a0 p.l.length c0, .slice a1 p.g.length c1, .slice a2 p.h.length c2, .slice a3 us.length c3] (w.alloc (.cells #[.slice a0 p.l.length c0, .slice a1 p.g.length c1, .slice a2 p.h.length c2, .slice a3 us.length c3] 26)) from ⟨Blk.new w _ _, (Below.refl _ _).alloc (Nat.le_refl _) _⟩)
  have HUL := Lib.hid hul
  clear H hle hB HV hz hul hsl
  go_enter Tryz.func34, Tryz.ntmps34
  go_wp2_with fail
  refine (RT.out _ HT.out.low).mono ?_
  rintro e w1 ⟨rfl, hb1⟩
  have HT := Lib.hid (HT.out.later hb1)
  clear hb1 RT
  cases rb with
  | false =>
    have R := Lib.hid (P0.out rfl)
    go_wp2_with fail
    go_ret
    exact ⟨ret_s R.out.symm, HT.out.low⟩
  | true =>
    have RES := Lib.hid (P1.out rfl)
    obtain ⟨hR1, hR2, hR3⟩ := RI.out.1 rfl
    have HR1 := Lib.hid hR1
    have HR2 := Lib.hid hR2
    have HR3 := Lib.hid hR3
    have hzs : zs.length ≤ 30 := by omega
    have hzu : zs.length = us.length := by have := HUL.out; omega
    have HZU := Lib.hid hzu
    clear RI P0 P1 hR1 hR2 hR3 hzu
    obtain ⟨ca, fa, za⟩ := HT.out.a
    have hR0 : w.heap.size < w1.heap.size := za
    have HS0 := Lib.hid (sb_new w1 w1.heap.size (Nat.le_refl _))
    have HB0 := Lib.hid ((Below.refl w1.heap.size w1).alloc (Nat.le_refl _) (.cells #[.pointer none, .slice none 0 0] 113))
    go_wp2_with fail
    go_loopw [20] (fun i wr => ∃ (k : Nat) (acc : List UInt8), k ≤ zs.length ∧ i = .int .i64 k ∧ Hid (acc = joinN (linesR p.l 0 (p.q.take k) ((zs.map (·.d)).take k))) ∧ acc.length ≤ k * 3000000 ∧ Hid (SbAt w1.heap.size w1.heap.size acc wr) ∧ Hid (Below w1.heap.size w1 wr) ∧ w1.heap.size + 1 ≤ wr.heap.size) (fun i _ => zs.length - (intOf i).toNat)
    case atStart => exact ⟨0, [], by omega, rfl, Lib.hid rfl, by simp, HS0, HB0, by simp⟩
    case round =>
      clear HS0 HB0 ca fa za
      obtain ⟨k, acc, hk, rfl, HAC, hacc, HS, HB, hsz⟩ := hrel
      have HW := Lib.hid (HT.out.low.trans (HB.out.mono HT.out.low.size))
      obtain ⟨ca, fa, za⟩ : Blk wr w.heap.size #[.slice a0 p.l.length c0, .slice a1 p.g.length c1, .slice a2 p.h.length c2, .slice a3 us.length c3] := ⟨fun o => (HB.out.cell (p := ⟨w.heap.size, o, none⟩) hR0).trans (HT.out.a.1 o), fun o => (HB.out.frozen (p := ⟨w.heap.size, o, none⟩) hR0).trans (HT.out.a.2.1 o), Nat.lt_of_lt_of_le hR0 (by omega)⟩
      by_cases hlt : k < zs.length
      · have hltu : k < us.length := by rw [← HZU.out]; exact hlt
        have hltq : k < p.q.length := by rw [← HUL.out]; exact hltu
        have hgq := HR1.out.ok.q _ (List.getElem_mem hltq)
        rw [← HQE.out k hltu hltq] at hgq
        obtain ⟨b1, o1, c1', he1, hc1, hm1, hb1, hx1⟩ := (HA.out.below HW.out).r.pos (by omega)
        simp only [Value.slice.injEq, true_and] at he1
        obtain ⟨rfl, rfl⟩ := he1
        obtain ⟨p0, p1, p2, p3⟩ := vz_cell (w := wr) hx1 k hlt
        have hst := HA.out.s _ (List.getElem_mem hlt)
        have hvok := HR3.out _ (List.getElem_mem hlt)
        have hsl := HSL.out _ (List.getElem_mem hlt)
        have HD := Lib.hid (fun W (hb : Below w.heap.size w W) => rep_head (HP.out.below hb) k zs[k].d.k hltu hgq (by omega))
        have SD := Lib.hid (rep_stated zs[k].d.k)
        have hhs := headV_size k us[k].1 zs[k].d.k (by omega) hgq
        have NX := Lib.hid (show joinN (linesR p.l 0 (p.q.take (k + 1)) ((zs.map (·.d)).take (k + 1))) = acc ++ (bl (headV k us[k].1 zs[k].d.k) ++ [10]) ++ (if statedV zs[k].d.k = true then joinN (lnS mk1 (minusS zs[k].d.st p.l)) ++ joinN (lnS mk0 (minusS p.l zs[k].d.st)) else []) by
          rw [linesR_take p.l p.q (zs.map (·.d)) k hltq (by simpa using hlt), joinN_app, ← HAC.out, HQE.out k hltu hltq, List.append_assoc]
          simp only [List.getElem_map]
          unfold linesV
          rw [show ∀ (a : ByteArray) (b : List ByteArray), joinN (a :: b) = (bl a ++ [10]) ++ joinN b from fun a b => rfl]
          by_cases h : statedV zs[k].d.k = true
          · rw [if_pos h, if_pos h, joinN_app]
          · rw [if_neg h, if_neg h]; rfl)
        have AD := Lib.hid (fun W (hb : Below w.heap.size w W) => state_AddedO (.slice a0 p.l.length c0) (.slice a1 p.g.length c1) (.slice a2 p.h.length c2) (.slice a3 us.length c3) zs[k].v p.l zs[k].d.st W rfl rfl rfl (HP.out.rs.below hb) (hst.below hb) hsl)
        have GN := Lib.hid (fun W (hb : Below w.heap.size w W) => state_GoneO (.slice a0 p.l.length c0) (.slice a1 p.g.length c1) (.slice a2 p.h.length c2) (.slice a3 us.length c3) zs[k].v p.l zs[k].d.st W rfl rfl rfl (HP.out.rs.below hb) (hst.below hb) (by omega))
        have HOKA : Hid (∀ x ∈ minusS zs[k].d.st p.l, rightS x = true) := Lib.hid (fun x hx => hvok.ok x ((minus_mem _ _ x).1 hx).1)
        have HOKG : Hid (∀ x ∈ minusS p.l zs[k].d.st, rightS x = true) := Lib.hid (fun x hx => HR1.out.ok.l x ((minus_mem _ _ x).1 hx).1)
        have hlA : (minusS zs[k].d.st p.l).length ≤ 5000 := Nat.le_trans (minus_len _ _) hsl
        have hlG : (minusS p.l zs[k].d.st).length ≤ 5000 := Nat.le_trans (minus_len _ _) (by omega)
        have PT := Lib.hid (fun W (hs : SbAt w1.heap.size w1.heap.size acc W) (hB : w1.heap.size ≤ W.heap.size) => rep_Print1 (headV k us[k].1 zs[k].d.k) w1.heap.size w1.heap.size acc W (by omega) hs (by omega) hB)
        have HLH := Lib.hid (show (bl (headV k us[k].1 zs[k].d.k)).length ≤ 300 by rw [bl_len]; exact hhs)
        clear hx1 hvok hsl hgq hhs
        generalize headV k us[k].1 zs[k].d.k = hd at *
        generalize minusS zs[k].d.st p.l = A at *
        generalize minusS p.l zs[k].d.st = G at *
        generalize statedV zs[k].d.k = std at *
        generalize zs[k] = z at *
        obtain ⟨⟨zk, zst⟩, zv, z2, z3⟩ := z
        dsimp only at *
        obtain ⟨so, sc, rfl⟩ := hst.form
        clear hst
        have hba : Below wr.heap.size wr (wr.alloc (.cells #[.int .i64 zk, .slice so zst.length sc, .int .i64 z2, .int .i64 z3] 56)) := (Below.refl _ _).alloc (Nat.le_refl _) _
        have HBA := Lib.hid hba
        clear hba
        go_wp2_with fail
        refine (HD.out _ (HW.out.trans (HBA.out.mono HW.out.size))).mono ?_
        rintro e w4 ⟨rfl, hb4⟩
        have hb40 := HBA.out.trans (hb4.mono HBA.out.size)
        obtain ⟨gv, hgv⟩ : ∃ g, g = wr.heap.size := ⟨_, rfl⟩
        have HG4 := Lib.hid (obj_belowV (heap_new1 wr (.cells #[.int .i64 zk, .slice so zst.length sc, .int .i64 z2, .int .i64 z3] 56)) hb4)
        have HS4 := Lib.hid (sb_below HS.out hb40)
        have HB4 := Lib.hid (HB.out.trans (hb40.mono HB.out.size))
        have hsz4 := HB4.out.size
        clear hb4 hb40 HD HBA p0 p1 p2 p3 ca fa za
        rw [← hgv] at HG4 ⊢
        have hgv1 : w1.heap.size + 1 ≤ gv := by omega
        clear hgv
        go_wp2_with fail
        refine (PT.out _ HS4.out hsz4).mono ?_
        rintro e w5 ⟨rfl, hs5, hb5, ho5⟩
        have HS5 := Lib.hid hs5
        have HB5 := Lib.hid (HB4.out.trans hb5)
        have HG5 := Lib.hid (obj_others HG4.out ho5 (by omega) verdict_byte)
        have hsz5 := HB5.out.size
        have hgw5 : gv < w5.heap.size := (Array.getElem?_eq_some_iff.1 HG5.out).1
        clear hs5 hb5 ho5 PT HS4 HB4 HG4 hsz4 HS HB hsz
        obtain ⟨cg, fg, zg⟩ := blk_of HG5.out
        go_wp2_with fail
        refine (SD.out _).mono ?_
        rintro e w6 ⟨rfl, rfl⟩
        cases std with
        | false =>
          have NX2 := Lib.hid (show acc ++ (bl hd ++ [10]) = joinN (linesR p.l 0 (p.q.take (k + 1)) ((zs.map (·.d)).take (k + 1))) by rw [NX.out, if_neg Bool.false_ne_true, List.append_nil])
          go_wp2
          exact ⟨⟨k + 1, acc ++ (bl hd ++ [10]), by omega, by go_num, NX2, by have := HLH.out; simp only [List.length_append, List.length_cons, List.length_nil]; omega, HS5, HB5, by omega⟩, by simp [intOf]; omega⟩
        | true =>
          have HW5 := Lib.hid (HT.out.low.trans (HB5.out.mono HT.out.low.size))
          obtain ⟨ca, fa, za⟩ : Blk w6 w.heap.size #[.slice a0 p.l.length c0, .slice a1 p.g.length c1, .slice a2 p.h.length c2, .slice a3 us.length c3] := ⟨fun o => (HB5.out.cell (p := ⟨w.heap.size, o, none⟩) hR0).trans (HT.out.a.1 o), fun o => (HB5.out.frozen (p := ⟨w.heap.size, o, none⟩) hR0).trans (HT.out.a.2.1 o), Nat.lt_of_lt_of_le hR0 (by omega)⟩
          have NX2 := Lib.hid (show joinN (linesR p.l 0 (p.q.take (k + 1)) ((zs.map (·.d)).take (k + 1))) = acc ++ (bl hd ++ [10]) ++ joinN (lnS mk1 A) ++ joinN (lnS mk0 G) by rw [NX.out, if_pos rfl]; simp only [List.append_assoc])
          clear NX
          have hl1 : (acc ++ (bl hd ++ [10])).length ≤ k * 3000000 + 400 := by have := HLH.out; simp only [List.length_append, List.length_cons, List.length_nil]; omega
          generalize hAC1 : acc ++ (bl hd ++ [10]) = acc1 at *
          clear hAC1
          go_wp2_with fail
          refine (AD.out _ HW5.out).mono ?_
          rintro e w7 ⟨v7, rfl, ho7, hb7⟩
          have HS := Lib.hid (sb_below HS5.out hb7)
          have HB := Lib.hid (HB5.out.trans (hb7.mono HB5.out.size))
          have HG := Lib.hid (obj_belowV HG5.out hb7)
          have HOA := Lib.hid (own_baseS ho7 (show w1.heap.size + 1 ≤ w6.heap.size by omega))
          have hsz := HB.out.size
          obtain ⟨eA, fA, rfl⟩ := own_form ho7
          clear hb7 ho7 HS5 HB5 HG5 AD cg fg zg ca fa za HW5 hgw5 hsz5
          obtain ⟨wr0, rfl⟩ : ∃ X, X = wr := ⟨_, rfl⟩
          go_wp2_with fail
          go_loopw [41] (fun i wr => ∃ (j : Nat) (ac2 : List UInt8), j ≤ A.length ∧ i = .int .i64 j ∧ Hid (ac2 = acc1 ++ joinN ((lnS mk1 A).take j)) ∧ ac2.length ≤ acc1.length + j * 200 ∧ Hid (SbAt w1.heap.size w1.heap.size ac2 wr) ∧ Hid (Below w1.heap.size w1 wr) ∧ w1.heap.size ≤ wr.heap.size ∧ Hid (wr.heap[gv]? = some (.cells #[.int .i64 zk, .slice so zst.length sc, .int .i64 z2, .int .i64 z3] 56 (0, 0))) ∧ Hid (wr.ownsRow (w1.heap.size + 1) 80 9 (.slice eA A.length fA) A.length (A.flatMap St.cells))) (fun i _ => A.length - (intOf i).toNat)
          case atStart => exact ⟨0, acc1, by omega, rfl, Lib.hid (by simp [joinN]), by omega, HS, HB, hsz, HG, HOA⟩
          case round =>
            clear HS HB HG HOA hsz
            obtain ⟨j, ac2, hj, rfl, HA2, hac2, HS, HB, hsz, HG, HOA⟩ := hrel
            have HW := Lib.hid (HT.out.low.trans (HB.out.mono HT.out.low.size))
            by_cases hlt2 : j < A.length
            · obtain ⟨b4, o4, x4, he4, hc4, hm4, hb4, hx4⟩ := (Sl.of_own HOA.out).pos (by omega)
              simp only [Value.slice.injEq, true_and] at he4
              obtain ⟨rfl, rfl⟩ := he4
              obtain ⟨p0, p1, p2, p3, p4, p5, p6, p7, p8⟩ := st_cell (w := wr) hx4 j hlt2
              have hr := HOKA.out _ (List.getElem_mem hlt2)
              have SP := Lib.hid (fun W => syn_Print A[j] W (st_le_mono (rightS_le hr) (by decide)))
              have hps := marked_size hr mk1 rfl
              have hps1 : (printS A[j]).size ≤ 4294967 := Nat.le_trans (printS_size hr) (by decide)
              have HN := Lib.hid (show ac2 ++ (bl (mk1 ++ printS A[j]) ++ [10]) = acc1 ++ joinN ((lnS mk1 A).take (j + 1)) by
                rw [HA2.out]
                unfold lnS
                rw [take_snocP _ _ hlt2]
                simp only [joinN_app, joinN_one, List.append_assoc])
              have HLEN := Lib.hid (show (bl (mk1 ++ printS A[j])).length ≤ 102 by rw [bl_len]; exact hps)
              have PT := Lib.hid (fun W (hs : SbAt w1.heap.size w1.heap.size ac2 W) (hB : w1.heap.size ≤ W.heap.size) => rep_Print1 (mk1 ++ printS A[j]) w1.heap.size w1.heap.size ac2 W (by omega) hs (by omega) hB)
              have HX := Lib.hid (show (⟨#[43, 32]⟩ : ByteArray) ++ printS A[j] = mk1 ++ printS A[j] from rfl)
              clear hx4 HA2 hr hps
              generalize mk1 ++ printS A[j] = y at *
              generalize printS A[j] = x at *
              generalize A[j] = st at *
              obtain ⟨k0, ⟨h1, h2⟩, who, ⟨A1, A2⟩, ⟨B1, B2⟩, via⟩ := st
              go_wp2_with fail
              refine (SP.out _).mono ?_
              rintro e w7 ⟨rfl, hb7⟩
              have hba : Below wr.heap.size wr (wr.alloc (.cells #[.int .i64 k0, .string h1, .string h2, .string who, .string A1, .string A2, .string B1, .string B2, .string via] 80)) := (Below.refl _ _).alloc (Nat.le_refl _) _
              have hb70 := hba.trans (hb7.mono hba.size)
              have HS7 := Lib.hid (sb_below HS.out hb70)
              have HB7 := Lib.hid (HB.out.trans (hb70.mono HB.out.size))
              have HG7 := Lib.hid (obj_belowV HG.out hb70)
              have HO7 := Lib.hid (own_below HOA.out hb70)
              have hsz7 := HB7.out.size
              clear hb7 hba hb70 SP p0 p1 p2 p3 p4 p5 p6 p7 p8
              go_wp2_with fail
              rw [HX.out]
              refine (PT.out _ HS7.out hsz7).mono ?_
              rintro e w8 ⟨rfl, hs8, hb8, ho8⟩
              have HS8 := Lib.hid hs8
              have HB8 := Lib.hid (HB7.out.trans hb8)
              have HG8 := Lib.hid (obj_others HG7.out ho8 (by omega) verdict_byte)
              have HO8 := Lib.hid (own_others HO7.out ho8 (by omega) stmt_byte)
              have hsz8 := HB8.out.size
              clear hs8 hb8 ho8 PT
              go_wp2
              exact ⟨⟨j + 1, ac2 ++ (bl y ++ [10]), by omega, by go_num, HN, by have := HLEN.out; simp only [List.length_append, List.length_cons, List.length_nil]; omega, HS8, HB8, hsz8, HG8, HO8⟩, by simp [intOf]; omega⟩
            · have HXA := Lib.hid (show ac2 = acc1 ++ joinN (lnS mk1 A) by
                have h := HA2.out
                rw [List.take_of_length_le (by unfold lnS; rw [List.length_map]; omega)] at h
                exact h)
              have hlenA : ac2.length ≤ acc1.length + 1000000 := by omega
              clear HA2 hac2 HOA
              obtain ⟨wrA, rfl⟩ : ∃ X, X = wr := ⟨_, rfl⟩
              obtain ⟨accA, rfl⟩ : ∃ X, X = ac2 := ⟨_, rfl⟩
              have HW5 := Lib.hid (HT.out.low.trans (HB.out.mono HT.out.low.size))
              obtain ⟨ca, fa, za⟩ : Blk wrA w.heap.size #[.slice a0 p.l.length c0, .slice a1 p.g.length c1, .slice a2 p.h.length c2, .slice a3 us.length c3] := ⟨fun o => (HB.out.cell (p := ⟨w.heap.size, o, none⟩) hR0).trans (HT.out.a.1 o), fun o => (HB.out.frozen (p := ⟨w.heap.size, o, none⟩) hR0).trans (HT.out.a.2.1 o), Nat.lt_of_lt_of_le hR0 hsz⟩
              obtain ⟨cg, fg, zg⟩ := blk_of HG.out
              go_wp2_with fail
              refine (GN.out _ HW5.out).mono ?_
              rintro e w9 ⟨v9, rfl, ho9, hb9⟩
              have HS := Lib.hid (sb_below HS.out hb9)
              have HOG := Lib.hid (own_baseS ho9 (show w1.heap.size + 1 ≤ wrA.heap.size by omega))
              have HB := Lib.hid (HB.out.trans (hb9.mono HB.out.size))
              have HG := Lib.hid (obj_belowV HG.out hb9)
              have hsz := HB.out.size
              obtain ⟨eG, fG, rfl⟩ := own_form ho9
              clear hb9 ho9 GN cg fg zg ca fa za HW5
              go_wp2_with fail
              go_loopw [56] (fun i wr => ∃ (j : Nat) (ac2 : List UInt8), j ≤ G.length ∧ i = .int .i64 j ∧ Hid (ac2 = accA ++ joinN ((lnS mk0 G).take j)) ∧ ac2.length ≤ accA.length + j * 200 ∧ Hid (SbAt w1.heap.size w1.heap.size ac2 wr) ∧ Hid (Below w1.heap.size w1 wr) ∧ w1.heap.size ≤ wr.heap.size ∧ Hid (wr.heap[gv]? = some (.cells #[.int .i64 zk, .slice so zst.length sc, .int .i64 z2, .int .i64 z3] 56 (0, 0))) ∧ Hid (wr.ownsRow (w1.heap.size + 1) 80 9 (.slice eG G.length fG) G.length (G.flatMap St.cells))) (fun i _ => G.length - (intOf i).toNat)
              case atStart => exact ⟨0, accA, by omega, rfl, Lib.hid (by simp [joinN]), by omega, HS, HB, hsz, HG, HOG⟩
              case round =>
                clear HS HB HG HOG hsz
                obtain ⟨j, ac2, hj, rfl, HA2, hac2, HS, HB, hsz, HG, HOG⟩ := hrel
                have HW := Lib.hid (HT.out.low.trans (HB.out.mono HT.out.low.size))
                by_cases hlt2 : j < G.length
                · obtain ⟨b4, o4, x4, he4, hc4, hm4, hb4, hx4⟩ := (Sl.of_own HOG.out).pos (by omega)
                  simp only [Value.slice.injEq, true_and] at he4
                  obtain ⟨rfl, rfl⟩ := he4
                  obtain ⟨p0, p1, p2, p3, p4, p5, p6, p7, p8⟩ := st_cell (w := wr) hx4 j hlt2
                  have hr := HOKG.out _ (List.getElem_mem hlt2)
                  have SP := Lib.hid (fun W => syn_Print G[j] W (st_le_mono (rightS_le hr) (by decide)))
                  have hps := marked_size hr mk0 rfl
                  have hps1 : (printS G[j]).size ≤ 4294967 := Nat.le_trans (printS_size hr) (by decide)
                  have HN := Lib.hid (show ac2 ++ (bl (mk0 ++ printS G[j]) ++ [10]) = accA ++ joinN ((lnS mk0 G).take (j + 1)) by
                    rw [HA2.out]
                    unfold lnS
                    rw [take_snocP _ _ hlt2]
                    simp only [joinN_app, joinN_one, List.append_assoc])
                  have HLEN := Lib.hid (show (bl (mk0 ++ printS G[j])).length ≤ 102 by rw [bl_len]; exact hps)
                  have PT := Lib.hid (fun W (hs : SbAt w1.heap.size w1.heap.size ac2 W) (hB : w1.heap.size ≤ W.heap.size) => rep_Print1 (mk0 ++ printS G[j]) w1.heap.size w1.heap.size ac2 W (by omega) hs (by omega) hB)
                  have HX := Lib.hid (show (⟨#[45, 32]⟩ : ByteArray) ++ printS G[j] = mk0 ++ printS G[j] from rfl)
                  clear hx4 HA2 hr hps
                  generalize mk0 ++ printS G[j] = y at *
                  generalize printS G[j] = x at *
                  generalize G[j] = st at *
                  obtain ⟨k0, ⟨h1, h2⟩, who, ⟨A1, A2⟩, ⟨B1, B2⟩, via⟩ := st
                  go_wp2_with fail
                  refine (SP.out _).mono ?_
                  rintro e w7 ⟨rfl, hb7⟩
                  have hba : Below wr.heap.size wr (wr.alloc (.cells #[.int .i64 k0, .string h1, .string h2, .string who, .string A1, .string A2, .string B1, .string B2, .string via] 80)) := (Below.refl _ _).alloc (Nat.le_refl _) _
                  have hb70 := hba.trans (hb7.mono hba.size)
                  have HS7 := Lib.hid (sb_below HS.out hb70)
                  have HB7 := Lib.hid (HB.out.trans (hb70.mono HB.out.size))
                  have HG7 := Lib.hid (obj_belowV HG.out hb70)
                  have HO7 := Lib.hid (own_below HOG.out hb70)
                  have hsz7 := HB7.out.size
                  clear hb7 hba hb70 SP p0 p1 p2 p3 p4 p5 p6 p7 p8
                  go_wp2_with fail
                  rw [HX.out]
                  refine (PT.out _ HS7.out hsz7).mono ?_
                  rintro e w8 ⟨rfl, hs8, hb8, ho8⟩
                  have HS8 := Lib.hid hs8
                  have HB8 := Lib.hid (HB7.out.trans hb8)
                  have HG8 := Lib.hid (obj_others HG7.out ho8 (by omega) verdict_byte)
                  have HO8 := Lib.hid (own_others HO7.out ho8 (by omega) stmt_byte)
                  have hsz8 := HB8.out.size
                  clear hs8 hb8 ho8 PT
                  go_wp2
                  exact ⟨⟨j + 1, ac2 ++ (bl y ++ [10]), by omega, by go_num, HN, by have := HLEN.out; simp only [List.length_append, List.length_cons, List.length_nil]; omega, HS8, HB8, hsz8, HG8, HO8⟩, by simp [intOf]; omega⟩
                · have HXG := Lib.hid (show ac2 = accA ++ joinN (lnS mk0 G) by
                    have h := HA2.out
                    rw [List.take_of_length_le (by unfold lnS; rw [List.length_map]; omega)] at h
                    exact h)
                  have hlenG : ac2.length ≤ accA.length + 1000000 := by omega
                  clear HA2 hac2 HOG
                  obtain ⟨wrG, rfl⟩ : ∃ X, X = wr := ⟨_, rfl⟩
                  obtain ⟨accG, rfl⟩ : ∃ X, X = ac2 := ⟨_, rfl⟩
                  have NX3 := Lib.hid (show accG = joinN (linesR p.l 0 (p.q.take (k + 1)) ((zs.map (·.d)).take (k + 1))) by rw [NX2.out, HXG.out, HXA.out])
                  have hgs : gv < wrG.heap.size := (Array.getElem?_eq_some_iff.1 HG.out).1
                  go_wp2
                  exact ⟨⟨k + 1, accG, by omega, by go_num, NX3, by omega, HS, HB, by omega⟩, by simp [intOf]; omega⟩
      · have HXZ := Lib.hid (show acc = joinN (linesR p.l 0 p.q (zs.map (·.d))) by
          have h := HAC.out
          rw [List.take_of_length_le (by have := HUL.out; have := HZU.out; omega), List.take_of_length_le (by rw [List.length_map]; omega)] at h
          exact h)
        have hsz' : w1.heap.size ≤ wr.heap.size := by omega
        go_wp2_with (go_at_call 84; refine (Tryz.Builder_String_any_k w1.heap.size w1.heap.size acc _ HS.out hsz').mono ?_; rintro e w9 ⟨rfl, _, hb9, _⟩)
        have HB9 := Lib.hid (HB.out.trans hb9)
        clear hb9
        go_ret
        exact ⟨ret_s (by rw [RES.out, HXZ.out]; rfl), HT.out.low.trans (HB9.out.mono HT.out.low.size)⟩
end Go.Proofs.YtomhekohcadijaaGreatDoor
namespace Go.Proofs.YtomhekohcadijaaGreatDoor
open Go.RowKit Go.Shelf

end Go.Proofs.YtomhekohcadijaaGreatDoor
namespace Go.Proofs.YtomhekohcadijaaGreatDoor
open Go.RowKit Go.Shelf

theorem TwoAt.new (w : World) (A B : Array Value) (t u : TypeId) : TwoAt w A B ((w.alloc (.cells A t)).alloc (.cells B u)) :=
  ⟨(Blk.new w A t).alloc _, by have := Blk.new (w.alloc (.cells A t)) B u; simpa using this, ((Below.refl _ _).alloc (Nat.le_refl _) _).alloc (by simp) _⟩
end Go.Proofs.YtomhekohcadijaaGreatDoor
namespace Go.Proofs.YtomhekohcadijaaGreatDoor
open Go.RowKit Go.Shelf

end Go.Proofs.YtomhekohcadijaaGreatDoor
namespace Go.Proofs.YtomhekohcadijaaGreatDoor
open Go.RowKit Go.Shelf

section
variable {α : Type} {l : List α} {p : α → Bool}
end

def stays (h : List Rl) (m : List St) (s : St) : Bool := hasR h s.h && !hasS m s
end Go.Proofs.YtomhekohcadijaaGreatDoor
namespace Go.Proofs.YtomhekohcadijaaGreatDoor
open Go.RowKit Go.Shelf

end Go.Proofs.YtomhekohcadijaaGreatDoor
namespace Go.Proofs.YtomhekohcadijaaGreatDoor
open Go.RowKit Go.Shelf

end Go.Proofs.YtomhekohcadijaaGreatDoor
