/- query.head, Print: a query's line. policy.Print: the lines of a policy that may be; nothing of another one. policy.Print: the lines of a policy that may be; nothing of another one (printed by gen_polprint.py). policy.Print and policy.Right of a policy that may be. policy.Right, crupperref05.Right: as the Bool that says RightD. -/
import Derived.Test.YtomhekohcadijaaGreatDoorPartRF29
import Derived.Test.YtomhekohcadijaaGreatDoorPartRF22
import Derived.Test.YtomhekohcadijaaGreatDoorPartRF16
import Derived.Test.YtomhekohcadijaaGreatDoorPartRF21
import Derived.Test.YtomhekohcadijaaGreatDoorPartRF6
import Derived.Test.YtomhekohcadijaaGreatDoorPartRF15
import Derived.Test.YtomhekohcadijaaGreatDoorPartRF27
import Derived.Test.YtomhekohcadijaaGreatDoorPartRF17
namespace Go.Proofs.YtomhekohcadijaaGreatDoor
open Go.RowKit Go.Shelf

theorem query_head (k : Int) (w : World) : Calls Tryz.prog 174 #[.int .i64 k] w fun e w' => e = .returned (.string (headW k)) ∧ w' = w := by
  have UN := Lib.hid (fun W => query_Universal k W)
  have HE := Lib.hid (show headW k = if univB k = true then wAlways else wCan from rfl)
  generalize headW k = r at *
  generalize univB k = u at *
  cases u with
  | true =>
    have HE := Lib.hid (show r = wAlways by rw [HE.out]; rfl)
    go_enter Tryz.func174, Tryz.ntmps174
    go_wp2_with fail
    refine (UN.out _).mono ?_
    rintro e w1 ⟨rfl, rfl⟩
    go_wp2
    go_ret
    exact ⟨ret_s (by rw [HE.out]; rfl), rfl⟩
  | false =>
    have HE := Lib.hid (show r = wCan by rw [HE.out]; rfl)
    go_enter Tryz.func174, Tryz.ntmps174
    go_wp2_with fail
    refine (UN.out _).mono ?_
    rintro e w1 ⟨rfl, rfl⟩
    go_wp2
    go_ret
    exact ⟨ret_s (by rw [HE.out]; rfl), rfl⟩
theorem syn_PrintRoleQ (r : Rl) (w : World) (hs : r.le 1000000000000000) : Calls Tryz.prog 103 #[rv r] w fun e w' => e = .returned (.string (roleT r)) ∧ Below w.heap.size w w' := by
  obtain ⟨o, n⟩ := r
  obtain ⟨h1, h2⟩ := hs
  dsimp only at h1 h2
  go_enter Tryz.func103, Tryz.ntmps103
  go_wp2
  go_ret
  exact ⟨rfl, (Below.refl _ _).alloc (Nat.le_refl _) _⟩
theorem own_two {w : World} (x y : ByteArray) (base : Nat) (hb : base ≤ w.heap.size) : (w.alloc (.cells #[.string x, .string y] 9)).ownsRow base 9 1 (.slice (some ⟨w.heap.size, 0, none⟩) 2 2) [x, y].length (strs [x, y]) :=
  ⟨rfl, .inr ⟨w.heap.size, 2, #[.string x, .string y], rfl, hb, heap_alloc_new w _, (by show 2 ≤ 2; decide), (by decide), rfl, rfl⟩⟩
def printQ (q : Qv) (us : List ByteArray) : ByteArray := if rightQ q us = true then textQ ⟨q.k, q.a, q.b, us⟩ else emp
set_option maxRecDepth 100000 in
set_option maxHeartbeats 8000000 in
theorem query_Print (q : Qv) (us : List ByteArray) (w : World) (hla : q.a.le 4294967) (hlb : q.b.le 4294967) (hu : SlA w 1 q.w us.length (strs us)) (hz : ∀ s ∈ us, s.size ≤ 9223372036854775807) :
    Calls Tryz.prog 121 #[qv q] w fun e w' => e = .returned (.string (printQ q us)) ∧ Below w.heap.size w w' := by
  have RT := Lib.hid (fun W (hb : Below w.heap.size w W) => query_RightL q us W hla hlb (hu.below hb) hz)
  have PQ := Lib.hid (show printQ q us = if rightQ q us = true then textQ ⟨q.k, q.a, q.b, us⟩ else emp from rfl)
  have GD := Lib.hid (fun h => good_of (q := q) (us := us) h)
  have PA := Lib.hid (fun W => syn_PrintRoleQ q.a W (hla.mono (by decide)))
  have PB := Lib.hid (fun W => syn_PrintRoleQ q.b W (hlb.mono (by decide)))
  have WQ := Lib.hid (fun h1 h6 W => query_Words q h1 h6 W)
  have HU := Lib.hid hu
  generalize printQ q us = res at *
  obtain ⟨k, ⟨x1, x2⟩, ⟨x3, x4⟩, wv⟩ := q
  dsimp only at HU PQ GD PA PB WQ hu
  obtain ⟨wo, wc, rfl⟩ := hu.form
  clear hu hla hlb hz
  generalize rightQ ⟨k, ⟨x1, x2⟩, ⟨x3, x4⟩, .slice wo us.length wc⟩ us = r at *
  obtain ⟨W0, hW0⟩ : ∃ W, W = w.alloc (.cells #[.int .i64 k, .string x1, .string x2, .string x3, .string x4, .slice wo us.length wc] 83) := ⟨_, rfl⟩
  have HT := Lib.hid (show OneAt w #[.int .i64 k, .string x1, .string x2, .string x3, .string x4, .slice wo us.length wc] W0 by rw [hW0]; exact ⟨Blk.new w _ _, (Below.refl _ _).alloc (Nat.le_refl _) _⟩)
  cases r with
  | false =>
    have R := Lib.hid (show res = emp by rw [PQ.out]; rfl)
    have RT0 := Lib.hid (RT.out W0 HT.out.low)
    obtain ⟨ca, fa, za⟩ := HT.out.a
    subst hW0
    go_enter Tryz.func121, Tryz.ntmps121
    go_wp2_with fail
    refine RT0.out.mono ?_
    rintro e w1 ⟨rfl, hb1⟩
    have HB := Lib.hid (HT.out.low.trans (hb1.mono HT.out.low.size))
    clear hb1
    go_wp2
    go_ret
    exact ⟨ret_s R.out.symm, HB.out⟩
  | true =>
    have G := GD.out rfl
    have R := Lib.hid (show res = textQ ⟨k, ⟨x1, x2⟩, ⟨x3, x4⟩, us⟩ by rw [PQ.out]; rfl)
    have hk1 : 1 ≤ k := G.lo
    have hk6 : k ≤ 6 := G.hi
    have hul : us.length ≤ 12 := G.few
    have TS := Lib.hid (textQ_size _ G)
    have WQ := Lib.hid (fun W => WQ.out hk1 hk6 W)
    have HD := Lib.hid (fun W => query_head k W)
    have SE := Lib.hid (fun W => query_secondB k W)
    have RT0 := Lib.hid (RT.out W0 HT.out.low)
    have hwl : (wordsL k).length ≤ 2 := by unfold wordsL; (repeat' split) <;> simp
    have HX := Lib.hid (show textQ ⟨k, ⟨x1, x2⟩, ⟨x3, x4⟩, us⟩ = joinB (headW k :: roleT ⟨x1, x2⟩ :: (wordsL k ++ ((if secB k = true then [roleT ⟨x3, x4⟩] else []) ++ us))) ⟨#[32]⟩ from rfl)
    generalize textQ ⟨k, ⟨x1, x2⟩, ⟨x3, x4⟩, us⟩ = tq at *
    generalize headW k = hw at *
    generalize roleT ⟨x1, x2⟩ = ra at *
    generalize roleT ⟨x3, x4⟩ = rb at *
    unfold WordsR at WQ
    generalize wordsL k = wl at *
    generalize secB k = sb at *
    obtain ⟨si, hsi, hs0, hs1, hs2⟩ := info_parts str_info
    have HSI := Lib.hid hsi
    clear hsi G GD PQ
    obtain ⟨ca, fa, za⟩ := HT.out.a
    subst hW0
    go_enter Tryz.func121, Tryz.ntmps121
    go_wp2_with fail
    refine RT0.out.mono ?_
    rintro e w1 ⟨rfl, hb1⟩
    have HT := Lib.hid (HT.out.later hb1)
    clear hb1 RT0 ca fa za
    go_upto_region 3 with fail
    go_cut [3] (fun s3 wx => ∃ (V : World) (a5 : Option Addr) (c5 : Nat), V = wx ∧ s3 = .slice a5 (2 + wl.length) c5 ∧ Hid (OneAt w #[.int .i64 k, .string x1, .string x2, .string x3, .string x4, .slice wo us.length wc] V) ∧ Hid (V.ownsRow (w.heap.size + 1) 9 1 (.slice a5 (2 + wl.length) c5) (2 + wl.length) (strs (hw :: ra :: wl))))
    case first =>
      refine wp_region_held_drew (S := (fun W => ∀ o, W.cell? ⟨w.heap.size, o, none⟩ = (#[.int .i64 k, .string x1, .string x2, .string x3, .string x4, .slice wo us.length wc] : Array Value)[o]?)) (by kernel_rfl) HT.out.drew.a.1 (fun hHeld => ?_)
      have HT := Lib.hid HT.out.drew
      obtain ⟨wk, hwk⟩ : ∃ W, W = w1.drew := ⟨_, rfl⟩
      rw [← hwk] at HT hHeld ⊢
      clear hwk
      (refine hyes 0 ?_); (refine hyes 1 ?_); (refine hyes 3 ?_); (refine hyes 4 ?_); (refine hyes 7 ?_); (try simp only [Act.put, List.setIfInBounds_toArray, List.set])
      (refine held_call 2 rfl (by kernel_rfl) (fun K hK => ?_); go_simp)
      go_at_call 174; refine (HD.out _).mono ?_; rintro e wz2 ⟨rfl, rfl⟩
      (refine hK.out _ _ (HT.out.a.1) (fun hHeld => ?_); clear hK K; (try simp only [Act.put, List.setIfInBounds_toArray, List.set]))
      (refine held_call 5 rfl (by kernel_rfl) (fun K hK => ?_); go_simp)
      go_at_call 103; refine (PA.out _).mono ?_; rintro e wz5 ⟨rfl, hbq⟩
      have HT := Lib.hid (HT.out.later hbq)
      clear hbq
      (refine hK.out _ _ (HT.out.a.1) (fun hHeld => ?_); clear hK K; (try simp only [Act.put, List.setIfInBounds_toArray, List.set]))
      refine wpAnyH_ready (rs := [6, 8]) (by kernel_rfl) (by simp) (AllReadyH.cons rfl (fun K hK => ?_) (AllReadyH.cons rfl (fun K hK => ?_) AllReadyH.nil))
      · go_simp
        obtain ⟨wz6, hwn⟩ : ∃ V, V = wz5.alloc (.cells #[.string hw, .string ra] 9) := ⟨_, rfl⟩
        obtain ⟨bn, hbn⟩ : ∃ b, b = wz5.heap.size := ⟨_, rfl⟩
        rw [← hwn, ← hbn]
        have hbq : Below wz5.heap.size wz5 wz6 := by rw [hwn]; exact (Below.refl _ _).alloc (Nat.le_refl _) _
        have HO := Lib.hid (show wz6.ownsRow (w.heap.size + 1) 9 1 (.slice (some ⟨bn, 0, none⟩) 2 2) 2 (strs [hw, ra]) by rw [hwn, hbn]; exact own_two hw ra (w.heap.size + 1) HT.out.a.2.2)
        have HT := Lib.hid (HT.out.later hbq)
        clear hbq hwn hbn
        (refine hK.out _ _ (HT.out.a.1) (fun hHeld => ?_); clear hK K; (try simp only [Act.put, List.setIfInBounds_toArray, List.set]))
        (refine held_call 8 rfl (by kernel_rfl) (fun K hK => ?_); go_simp)
        go_at_call 175; refine (WQ.out _).mono ?_; rintro e wz8 ⟨b2, _, rfl, hcell2, hbq⟩
        have HWL := Lib.hid (show SlA wz8 1 (.slice (some ⟨b2, 0, none⟩) wl.length wl.length) wl.length (strs wl) from .inl ⟨by simp [strs], by simp only [maxLen]; omega, .inr ⟨b2, 0, wl.length, rfl, Nat.le_refl _, by simp only [maxLen]; omega, (Array.getElem?_eq_some_iff.1 hcell2).1, fun j u hu => by rw [Nat.zero_add, cell_of_row _ b2 j _ _ _ hcell2]; simpa using hu⟩⟩)
        have HO := Lib.hid (own_below HO.out hbq)
        have HT := Lib.hid (HT.out.later hbq)
        clear hbq hcell2 WQ
        (refine hK.out _ _ (HT.out.a.1) (fun hHeld => ?_); clear hK K; (try simp only [Act.put, List.setIfInBounds_toArray, List.set]))
        refine held_call 9 rfl (by kernel_rfl) (fun K hK => ?_)
        have hsz : w.heap.size + 1 ≤ wz8.heap.size := HT.out.a.2.2
        refine step_row rfl _ _ 27 rfl (w.heap.size + 1) 9 si _ 1 16 Tryz.underlying27 HSI.out hs0 hs1 hs2 (by decide) rfl (by decide) _ 2 _ rfl HO.out _ wl.length _ rfl HWL.out (strs_one wl) (by omega) hsz ?_
        intro a5 c5 wc9 hown5 hg5
        have HT2 : OneAt w #[.int .i64 k, .string x1, .string x2, .string x3, .string x4, .slice wo us.length wc] wc9 := ⟨HT.out.a.grown hg5 (fun e => by have := (HO.out.lt _ e.symm).1; omega), below_own HT.out.low HO.out hg5 HT.out.low.size (by omega)⟩
        have HO5 := Lib.hid (show wc9.ownsRow (w.heap.size + 1) 9 1 (.slice a5 (2 + wl.length) c5) (2 + wl.length) (strs (hw :: ra :: wl)) from hown5)
        have HT := Lib.hid HT2
        clear hown5 hg5 HO HWL hsz HT2
        (refine hK.out _ _ (HT.out.a.1) (fun hHeld => ?_); clear hK K; (try simp only [Act.put, List.setIfInBounds_toArray, List.set]))
        (refine hyes 10 ?_); (try simp only [Act.put, List.setIfInBounds_toArray, List.set])
        refine wpAnyH_done (by kernel_rfl) ?_ _
        clear hHeld
        obtain ⟨wd, hwd⟩ : ∃ W, W = wc9 := ⟨_, rfl⟩
        rw [← hwd] at HT HO5 ⊢
        clear hwd
        go_wp2_with fail
        go_meet
        exact ⟨_, a5, c5, rfl, rfl, HT, HO5⟩
      · go_simp
        go_at_call 175; refine (WQ.out _).mono ?_; rintro e wz8 ⟨b2, _, rfl, hcell2, hbq⟩
        have HWL := Lib.hid (show SlA wz8 1 (.slice (some ⟨b2, 0, none⟩) wl.length wl.length) wl.length (strs wl) from .inl ⟨by simp [strs], by simp only [maxLen]; omega, .inr ⟨b2, 0, wl.length, rfl, Nat.le_refl _, by simp only [maxLen]; omega, (Array.getElem?_eq_some_iff.1 hcell2).1, fun j u hu => by rw [Nat.zero_add, cell_of_row _ b2 j _ _ _ hcell2]; simpa using hu⟩⟩)
        have HT := Lib.hid (HT.out.later hbq)
        clear hbq hcell2 WQ
        (refine hK.out _ _ (HT.out.a.1) (fun hHeld => ?_); clear hK K; (try simp only [Act.put, List.setIfInBounds_toArray, List.set]))
        (refine held_call 6 rfl (by kernel_rfl) (fun K hK => ?_); go_simp)
        obtain ⟨wz6, hwn⟩ : ∃ V, V = wz8.alloc (.cells #[.string hw, .string ra] 9) := ⟨_, rfl⟩
        obtain ⟨bn, hbn⟩ : ∃ b, b = wz8.heap.size := ⟨_, rfl⟩
        rw [← hwn, ← hbn]
        have hbq : Below wz8.heap.size wz8 wz6 := by rw [hwn]; exact (Below.refl _ _).alloc (Nat.le_refl _) _
        have HO := Lib.hid (show wz6.ownsRow (w.heap.size + 1) 9 1 (.slice (some ⟨bn, 0, none⟩) 2 2) 2 (strs [hw, ra]) by rw [hwn, hbn]; exact own_two hw ra (w.heap.size + 1) HT.out.a.2.2)
        have HWL := Lib.hid (HWL.out.below hbq)
        have HT := Lib.hid (HT.out.later hbq)
        clear hbq hwn hbn
        (refine hK.out _ _ (HT.out.a.1) (fun hHeld => ?_); clear hK K; (try simp only [Act.put, List.setIfInBounds_toArray, List.set]))
        refine held_call 9 rfl (by kernel_rfl) (fun K hK => ?_)
        have hsz : w.heap.size + 1 ≤ wz6.heap.size := HT.out.a.2.2
        refine step_row rfl _ _ 27 rfl (w.heap.size + 1) 9 si _ 1 16 Tryz.underlying27 HSI.out hs0 hs1 hs2 (by decide) rfl (by decide) _ 2 _ rfl HO.out _ wl.length _ rfl HWL.out (strs_one wl) (by omega) hsz ?_
        intro a5 c5 wc9 hown5 hg5
        have HT2 : OneAt w #[.int .i64 k, .string x1, .string x2, .string x3, .string x4, .slice wo us.length wc] wc9 := ⟨HT.out.a.grown hg5 (fun e => by have := (HO.out.lt _ e.symm).1; omega), below_own HT.out.low HO.out hg5 HT.out.low.size (by omega)⟩
        have HO5 := Lib.hid (show wc9.ownsRow (w.heap.size + 1) 9 1 (.slice a5 (2 + wl.length) c5) (2 + wl.length) (strs (hw :: ra :: wl)) from hown5)
        have HT := Lib.hid HT2
        clear hown5 hg5 HO HWL hsz HT2
        (refine hK.out _ _ (HT.out.a.1) (fun hHeld => ?_); clear hK K; (try simp only [Act.put, List.setIfInBounds_toArray, List.set]))
        (refine hyes 10 ?_); (try simp only [Act.put, List.setIfInBounds_toArray, List.set])
        refine wpAnyH_done (by kernel_rfl) ?_ _
        clear hHeld
        obtain ⟨wd, hwd⟩ : ∃ W, W = wc9 := ⟨_, rfl⟩
        rw [← hwd] at HT HO5 ⊢
        clear hwd
        go_wp2_with fail
        go_meet
        exact ⟨_, a5, c5, rfl, rfl, HT, HO5⟩
    case rest =>
    clear HT
    obtain ⟨V, a5, c5, rfl, rfl, HT, HO⟩ := hcut
    obtain ⟨ca, fa, za⟩ := HT.out.a
    go_wp2_with fail
    refine (SE.out _).mono ?_
    rintro e w6 ⟨rfl, hw6⟩
    subst hw6
    have hw2 : (hw :: ra :: wl).length = 2 + wl.length := by simp only [List.length_cons]; omega
    go_upto_if 19 with fail
    clear ca fa za
    go_cut [3] (fun s3 wx => ∃ (V : World) (a6 : Option Addr) (c6 : Nat) (zs : List ByteArray), V = wx ∧ s3 = .slice a6 zs.length c6 ∧ Hid (zs = hw :: ra :: wl ++ (if sb = true then [rb] else [])) ∧ Hid (OneAt w #[.int .i64 k, .string x1, .string x2, .string x3, .string x4, .slice wo us.length wc] V) ∧ Hid (V.ownsRow (w.heap.size + 1) 9 1 (.slice a6 zs.length c6) zs.length (strs zs)))
    case first =>
      obtain ⟨ca, fa, za⟩ := HT.out.a
      cases sb with
      | false =>
        go_wp2
        go_meet
        exact ⟨_, a5, c5, hw :: ra :: wl, rfl, by rw [hw2], Lib.hid (by simp), HT, by rw [hw2]; exact HO⟩
      | true =>
        go_wp2_with fail
        refine (PB.out _).mono ?_
        rintro e w7 ⟨rfl, hb7⟩
        have HT7 := Lib.hid (HT.out.later hb7)
        have HO7 := Lib.hid (own_below HO.out hb7)
        clear hb7 ca fa za
        have hsz : w.heap.size + 1 ≤ w7.heap.size := HT7.out.a.2.2
        go_wp2_with (at_builtin; refine halt_ ?_)
        unfold Halt_
        refine app_own Tryz.underlying27 str_info rfl (by decide) (by decide) rfl _ _ rfl (w.heap.size + 1) rfl (HO7.out.alloc _) [.string rb] rfl (heap_new1 _ _) rfl (str1 _) (by omega) (by simp; omega) ?_
        intro a8 c8 w8 hown8 hg8
        have HT8 := Lib.hid (show OneAt w #[.int .i64 k, .string x1, .string x2, .string x3, .string x4, .slice wo us.length wc] w8 from ⟨(HT7.out.a.alloc _).grown hg8 (fun e => by have := (HO7.out.lt _ e.symm).1; omega), below_own (HT7.out.low.alloc HT7.out.low.size _) (HO7.out.alloc _) hg8 (by simp; omega) (by omega)⟩)
        have hz8 : (hw :: ra :: wl ++ [rb]).length = 2 + wl.length + 1 := by simp only [List.length_append, List.length_cons, List.length_nil]; omega
        have HO8 := Lib.hid (show w8.ownsRow (w.heap.size + 1) 9 1 (.slice a8 (hw :: ra :: wl ++ [rb]).length c8) (hw :: ra :: wl ++ [rb]).length (strs (hw :: ra :: wl ++ [rb])) by rw [hz8, show strs (hw :: ra :: wl ++ [rb]) = strs (hw :: ra :: wl) ++ [.string rb] by simp [strs]]; exact hown8)
        clear hown8 hg8
        go_wp2
        go_meet
        exact ⟨_, a8, c8, hw :: ra :: wl ++ [rb], rfl, by rw [hz8], Lib.hid (by simp), HT8, HO8⟩
    case rest =>
    clear HT HO
    obtain ⟨V, a6, c6, zs, rfl, rfl, HZ, HT, HO⟩ := hcut
    have hzl : zs.length ≤ 5 := by
      rw [HZ.out]
      cases sb <;> simp <;> omega
    have hsz : w.heap.size + 1 ≤ V.heap.size := HT.out.a.2.2
    obtain ⟨ca, fa, za⟩ := HT.out.a
    go_wp2_with (at_builtin; refine halt_ ?_)
    unfold Halt_
    refine app_row Tryz.underlying27 str_info rfl (by decide) (by decide) rfl _ _ rfl (w.heap.size + 1) rfl HO.out rfl (HU.out.below HT.out.low) (strs_one _) (by omega) hsz ?_
    intro a9 c9 w9 hown9 hg9
    have HB9 := Lib.hid (below_own HT.out.low HO.out hg9 HT.out.low.size (by omega))
    have HZ9 := Lib.hid (show zs ++ us = hw :: ra :: (wl ++ ((if sb = true then [rb] else []) ++ us)) by rw [HZ.out]; simp)
    have hl9 : (zs ++ us).length = zs.length + us.length := List.length_append
    have HJ := Lib.hid (str_Join (.slice a9 (zs ++ us).length c9) (zs ++ us) ⟨#[32]⟩ w9 (Sl.of_own (by rw [hl9, show strs (zs ++ us) = strs zs ++ strs us by simp [strs]]; exact hown9)).a (by omega) (by rw [HZ9.out, ← HX.out]; exact Nat.le_trans TS.out (by decide)))
    rw [hl9, HZ9.out, ← HX.out, ← R.out] at HJ
    clear hown9 hg9 ca fa za
    go_wp2_with fail
    refine HJ.out.mono ?_
    rintro e w10 ⟨rfl, hb10⟩
    have HB10 := Lib.hid (HB9.out.trans (hb10.mono HB9.out.size))
    clear hb10
    go_wp2
    go_ret
    exact ⟨rfl, HB10.out⟩
end Go.Proofs.YtomhekohcadijaaGreatDoor
namespace Go.Proofs.YtomhekohcadijaaGreatDoor
open Go.RowKit Go.Shelf

theorem sb_below {B b : Nat} {l : List UInt8} {w w' : World} (h : SbAt B b l w) (hb : Below w.heap.size w w') : SbAt B b l w' := by
  have one : ∀ p, Lib.BuilderAtF 113 5 B b p (Lib.byteCells l) w → Lib.BuilderAtF 113 5 B b p (Lib.byteCells l) w' := fun p ⟨h1, v, h2, h3, h4⟩ =>
    ⟨h1, v, (hb.block b (Array.getElem?_eq_some_iff.1 h2).1).trans h2, h3.kept (grown_of_below hb none) (by cases v.ownBlock <;> simp), h4⟩
  exact h.elim (fun x => .inl (one _ x)) (fun x => .inr (one _ x))
end Go.Proofs.YtomhekohcadijaaGreatDoor
namespace Go.Proofs.YtomhekohcadijaaGreatDoor
open Go.RowKit Go.Shelf

theorem rightD_iff {p : Pd} {zs : List (Qd × Value)} {F : Qv → List ByteArray} (hz : zs.map (·.1) = p.q) (hF : ∀ z ∈ zs, F (qz z) = z.1.us) (hl : p.l.length ≤ 80) (hg : p.g.length ≤ 40) (hh : p.h.length ≤ 40) : RightP p.l p.g p.h (zs.map qz) F ↔ RightD p := by
  have hq : (∀ q ∈ zs.map qz, rightQ q (F q) = true) ↔ ∀ x ∈ p.q, GoodQ x := by
    constructor
    · intro h x hx
      rw [← hz] at hx
      obtain ⟨z, hz, rfl⟩ := List.mem_map.1 hx
      have h1 := h (qz z) (List.mem_map_of_mem hz)
      rw [hF z hz] at h1
      exact right_iff.1 h1
    · intro h q hq
      obtain ⟨z, hz', rfl⟩ := List.mem_map.1 hq
      rw [hF z hz']
      exact right_iff.2 (h z.1 (by rw [← hz]; exact List.mem_map_of_mem hz'))
  unfold RightP
  rw [hq, ← fitsD_of p zs F hz hF hl hg hh]
  constructor
  · rintro ⟨h1, h2, h3, h4, h5, h6, h7⟩
    exact ⟨⟨h1, fun x hx => h2 x (List.mem_append.2 (.inl hx)), fun x hx => h2 x (List.mem_append.2 (.inr hx)), h3⟩, h4, h5, h6, h7⟩
  · rintro ⟨⟨h1, h2, h2', h3⟩, h4, h5, h6, h7⟩
    exact ⟨h1, fun x hx => (List.mem_append.1 hx).elim (h2 x) (h2' x), h3, h4, h5, h6, h7⟩
theorem joinN_app (a b : List ByteArray) : joinN (a ++ b) = joinN a ++ joinN b := by unfold joinN; rw [List.flatMap_append]
theorem joinN_one (x : ByteArray) : joinN [x] = bl x ++ [10] := by simp [joinN]
theorem take_snocP {α β : Type} (f : α → β) (l : List α) {k : Nat} (h : k < l.length) : (l.map f).take (k + 1) = (l.map f).take k ++ [f l[k]] := by
  rw [List.take_succ_eq_append_getElem (by simpa using h)]; simp
theorem printS_size {s : St} (h : rightS s = true) : (printS s).size ≤ 100 := by
  obtain ⟨⟨l1, l2⟩, l3, ⟨l4, l5⟩, ⟨l6, l7⟩, l8⟩ := rightS_le h
  unfold printS
  rw [if_pos h]
  have e1 : (⟨#[46]⟩ : ByteArray).size = 1 := rfl
  have e4 : (⟨#[32, 60, 45, 32]⟩ : ByteArray).size = 4 := rfl
  have e3 : (⟨#[32, 38, 32]⟩ : ByteArray).size = 3 := rfl
  have : ∀ x : ByteArray, x.size ≤ 50 → (roleT s.h ++ ⟨#[32, 60, 45, 32]⟩ ++ x).size ≤ 100 := fun x hx => by
    simp only [roleT, ByteArray.size_append, e1, e4]; omega
  refine this _ ?_
  (repeat' split) <;> (try simp only [roleT, ByteArray.size_append, e1, e3]) <;> omega

end Go.Proofs.YtomhekohcadijaaGreatDoor
namespace Go.Proofs.YtomhekohcadijaaGreatDoor
open Go.RowKit Go.Shelf

theorem right_any {w : World} {v0 v1 v2 v3 : Value} {p : Pd} {zs : List (Qd × Value)} (H : PolD w v0 v1 v2 v3 p zs) (hle : LeP p 4294967 40) (hl : p.l.length ≤ 80) (hg : p.g.length ≤ 40) (hh : p.h.length ≤ 40) (hq : p.q.length ≤ 100) :
    Calls Tryz.prog 65 #[pv v0 v1 v2 v3] w fun e w' => (∃ b, e = .returned (.bool b) ∧ (b = true ↔ RightD p)) ∧ Below w.heap.size w w' := by
  have hm : ∀ z ∈ zs, z.1 ∈ p.q := fun z hz => by rw [← H.z]; exact List.mem_map_of_mem hz
  refine (policy_RightL v0 v1 v2 v3 p.l p.g p.h (zs.map qz) w (H.at (hle.mono (by decide) (Nat.le_refl _))) hl hg hh (by rw [H.qlen]; exact hq) (fun x hx => hle.l x hx) (fun x hx => (List.mem_append.1 hx).elim (hle.g x) (hle.h x)) (fun q hq => by
    obtain ⟨z, hz, rfl⟩ := List.mem_map.1 hq
    exact ⟨hle.qa _ (hm z hz), hle.qb _ (hm z hz)⟩) (FAt w) (H.who hle (by decide)) (fun q hq s hs => by
    obtain ⟨z, hz, rfl⟩ := List.mem_map.1 hq
    rw [H.F z hz] at hs
    have := hle.qs _ (hm z hz) s hs
    omega)).mono ?_
  rintro e w1 ⟨⟨b, rfl, hb⟩, hw⟩
  exact ⟨⟨b, rfl, hb.trans (rightD_iff H.z H.F hl hg hh)⟩, hw⟩
end Go.Proofs.YtomhekohcadijaaGreatDoor
namespace Go.Proofs.YtomhekohcadijaaGreatDoor
open Go.RowKit Go.Shelf

theorem policy_RightB {w : World} {v0 v1 v2 v3 : Value} {p : Pd} {zs : List (Qd × Value)} {B : Bool} (H : PolD w v0 v1 v2 v3 p zs) (hle : LeP p 40 40) (hl : p.l.length ≤ 30) (hg : p.g.length ≤ 30) (hh : p.h.length ≤ 30) (hq : p.q.length ≤ 30) (hB : B = true ↔ RightD p) :
    Calls Tryz.prog 65 #[pv v0 v1 v2 v3] w fun e w' => e = .returned (.bool B) ∧ Below w.heap.size w w' := by
  refine (right_any H (hle.mono (by decide) (Nat.le_refl _)) (by omega) (by omega) (by omega) (by omega)).mono ?_
  rintro e w1 ⟨⟨b, rfl, hb⟩, hw⟩
  obtain rfl : b = B := Bool.eq_iff_iff.2 (hb.trans hB.symm)
  exact ⟨rfl, hw⟩
end Go.Proofs.YtomhekohcadijaaGreatDoor
