/- strings.Join of any row of texts. query.head, Print: a query's line. query.Is: does a line begin like a query? And crupperlaw04.lives. crupperref04.Universal (out of Ref13D). crupperref04: name, Words, front, goes. The reference's Tokens returns the tokens of a line, or what is wrong first, and where. A row of the call's own stands above every lower bound. crupperref01.Put, crupperref05.Prins, Names: the rows that are returned are the calls' own (turned by gen_owns.py). -/
import Derived.Test.YtedkkegjiikcmaaDoorPart7
import Derived.Test.YtedkkegjiikcmaaDoorPart5
import Derived.Test.YtedkkegjiikcmaaDoorPart8
import Derived.Test.YtedkkegjiikcmaaDoorPart6
import Derived.Test.YtedkkegjiikcmaaDoorPart3
import Derived.Test.YtedkkegjiikcmaaDoorPart1
namespace Go.Proofs.YtedkkegjiikcmaaDoor
open Go.RowKit Go.Shelf

theorem str_Join (v : Value) (xs : List ByteArray) (sep : ByteArray) (w : World) (h : SlA w 1 v xs.length (strs xs)) (hN : xs.length ≤ 1000000) (hlen : (joinB xs sep).size ≤ 140737488355328) :
    Calls Tryd.prog 60 #[v, .string sep] w fun e w' => e = .returned (.string (joinB xs sep)) ∧ Below w.heap.size w w' := by
  obtain ⟨ao, c, rfl⟩ := h.form
  by_cases h0 : xs.length = 0
  · have hx : xs = [] := List.eq_nil_of_length_eq_zero h0
    subst hx
    refine (str_Join_none ao c sep w).mono ?_
    rintro e w' ⟨rfl, rfl⟩
    exact ⟨rfl, Below.refl _ _⟩
  · obtain ⟨b1, o1, c1, he1, hc1, hm1, hb1, hx1⟩ := h.pos (by omega)
    simp only [Value.slice.injEq, true_and] at he1
    obtain ⟨rfl, rfl⟩ := he1
    have hcl : ∀ (j : Nat) x, xs[j]? = some x → w.cell? ⟨b1, o1 + j, none⟩ = some (.string x) := fun j x hj => hx1 j _ (by unfold strs; rw [List.getElem?_map, hj]; rfl)
    by_cases h1 : xs.length = 1
    · obtain ⟨x, hx⟩ := List.length_eq_one_iff.1 h1
      subst hx
      refine (str_Join_one b1 o1 c x sep w (by have := hcl 0 x rfl; simpa using this)).mono ?_
      rintro e w' ⟨rfl, rfl⟩
      exact ⟨by rw [joinB_one], Below.refl _ _⟩
    · refine (str_Join_many b1 o1 c xs sep w hcl hb1 (by omega) (by omega) hc1 ?_).mono ?_
      · have : (joinB xs sep).size = (Lib.join (xs.map (·.data.toList)) sep.data.toList).length := by unfold joinB; simp [ByteArray.size, bl]
        omega
      · rintro e w' ⟨rfl, hb⟩
        exact ⟨rfl, hb⟩
end Go.Proofs.YtedkkegjiikcmaaDoor
namespace Go.Proofs.YtedkkegjiikcmaaDoor
open Go.RowKit Go.Shelf

theorem query_head (k : Int) (w : World) : Calls Tryd.prog 58 #[.int .i64 k] w fun e w' => e = .returned (.string (headW k)) ∧ w' = w := by
  have UN := Lib.hid (fun W => query_Universal k W)
  have HE := Lib.hid (show headW k = if univB k = true then wAlways else wCan from rfl)
  generalize headW k = r at *
  generalize univB k = u at *
  cases u with
  | true =>
    have HE := Lib.hid (show r = wAlways by rw [HE.out]; rfl)
    go_enter Tryd.func58, Tryd.ntmps58
    go_wp2_with fail
    refine (UN.out _).mono ?_
    rintro e w1 ⟨rfl, rfl⟩
    go_wp2
    go_ret
    exact ⟨ret_s (by rw [HE.out]; rfl), rfl⟩
  | false =>
    have HE := Lib.hid (show r = wCan by rw [HE.out]; rfl)
    go_enter Tryd.func58, Tryd.ntmps58
    go_wp2_with fail
    refine (UN.out _).mono ?_
    rintro e w1 ⟨rfl, rfl⟩
    go_wp2
    go_ret
    exact ⟨ret_s (by rw [HE.out]; rfl), rfl⟩
theorem syn_PrintRoleQ (r : Rl) (w : World) (hs : r.le 1000000000000000) : Calls Tryd.prog 59 #[rv r] w fun e w' => e = .returned (.string (roleT r)) ∧ Below w.heap.size w w' := by
  obtain ⟨o, n⟩ := r
  obtain ⟨h1, h2⟩ := hs
  dsimp only at h1 h2
  go_enter Tryd.func59, Tryd.ntmps59
  go_wp2
  go_ret
  exact ⟨rfl, (Below.refl _ _).alloc (Nat.le_refl _) _⟩
theorem own_two {w : World} (x y : ByteArray) (base : Nat) (hb : base ≤ w.heap.size) : (w.alloc (.cells #[.string x, .string y] 9)).ownsRow base 9 1 (.slice (some ⟨w.heap.size, 0, none⟩) 2 2) [x, y].length (strs [x, y]) :=
  ⟨rfl, .inr ⟨w.heap.size, 2, #[.string x, .string y], rfl, hb, heap_alloc_new w _, (by show 2 ≤ 2; decide), (by decide), rfl, rfl⟩⟩
def printQ (q : Qv) (us : List ByteArray) : ByteArray := if rightQ q us = true then textQ ⟨q.k, q.a, q.b, us⟩ else emp
set_option maxRecDepth 100000 in
set_option maxHeartbeats 8000000 in
theorem query_Print (q : Qv) (us : List ByteArray) (w : World) (hla : q.a.le 4294967) (hlb : q.b.le 4294967) (hu : SlA w 1 q.w us.length (strs us)) (hz : ∀ s ∈ us, s.size ≤ 9223372036854775807) :
    Calls Tryd.prog 21 #[qv q] w fun e w' => e = .returned (.string (printQ q us)) ∧ Below w.heap.size w w' := by
  have RT := Lib.hid (fun W (hb : Below w.heap.size w W) => query_RightL q us W hla hlb (hu.below hb) hz)
  have PQ := Lib.hid (show printQ q us = if rightQ q us = true then textQ ⟨q.k, q.a, q.b, us⟩ else emp from rfl)
  have GD := Lib.hid (fun h => good_of (q := q) (us := us) h)
  have PA := Lib.hid (fun W => syn_PrintRoleQ q.a W (hla.mono (by decide)))
  have PB := Lib.hid (fun W => syn_PrintRoleQ q.b W (hlb.mono (by decide)))
  have WQ := Lib.hid (fun h1 h6 W => query_Words q h1 h6 W)
  have HU := Lib.hid hu
  generalize printQ q us = res at *
  obtain ⟨k, ⟨x1, x2⟩, ⟨x3, x4⟩, wv⟩ := q
  dsimp only at HU PQ GD PA PB WQ hu
  obtain ⟨wo, wc, rfl⟩ := hu.form
  clear hu hla hlb hz
  generalize rightQ ⟨k, ⟨x1, x2⟩, ⟨x3, x4⟩, .slice wo us.length wc⟩ us = r at *
  obtain ⟨W0, hW0⟩ : ∃ W, W = w.alloc (.cells #[.int .i64 k, .string x1, .string x2, .string x3, .string x4, .slice wo us.length wc] 31) := ⟨_, rfl⟩
  have HT := Lib.hid (show OneAt w #[.int .i64 k, .string x1, .string x2, .string x3, .string x4, .slice wo us.length wc] W0 by rw [hW0]; exact ⟨Blk.new w _ _, (Below.refl _ _).alloc (Nat.le_refl _) _⟩)
  cases r with
  | false =>
    have R := Lib.hid (show res = emp by rw [PQ.out]; rfl)
    have RT0 := Lib.hid (RT.out W0 HT.out.low)
    obtain ⟨ca, fa, za⟩ := HT.out.a
    subst hW0
    go_enter Tryd.func21, Tryd.ntmps21
    go_wp2_with fail
    refine RT0.out.mono ?_
    rintro e w1 ⟨rfl, hb1⟩
    have HB := Lib.hid (HT.out.low.trans (hb1.mono HT.out.low.size))
    clear hb1
    go_wp2
    go_ret
    exact ⟨ret_s R.out.symm, HB.out⟩
  | true =>
    have G := GD.out rfl
    have R := Lib.hid (show res = textQ ⟨k, ⟨x1, x2⟩, ⟨x3, x4⟩, us⟩ by rw [PQ.out]; rfl)
    have hk1 : 1 ≤ k := G.lo
    have hk6 : k ≤ 6 := G.hi
    have hul : us.length ≤ 12 := G.few
    have TS := Lib.hid (textQ_size _ G)
    have WQ := Lib.hid (fun W => WQ.out hk1 hk6 W)
    have HD := Lib.hid (fun W => query_head k W)
    have SE := Lib.hid (fun W => query_secondB k W)
    have RT0 := Lib.hid (RT.out W0 HT.out.low)
    have hwl : (wordsL k).length ≤ 2 := by unfold wordsL; (repeat' split) <;> simp
    have HX := Lib.hid (show textQ ⟨k, ⟨x1, x2⟩, ⟨x3, x4⟩, us⟩ = joinB (headW k :: roleT ⟨x1, x2⟩ :: (wordsL k ++ ((if secB k = true then [roleT ⟨x3, x4⟩] else []) ++ us))) ⟨#[32]⟩ from rfl)
    generalize textQ ⟨k, ⟨x1, x2⟩, ⟨x3, x4⟩, us⟩ = tq at *
    generalize headW k = hw at *
    generalize roleT ⟨x1, x2⟩ = ra at *
    generalize roleT ⟨x3, x4⟩ = rb at *
    unfold WordsR at WQ
    generalize wordsL k = wl at *
    generalize secB k = sb at *
    obtain ⟨si, hsi, hs0, hs1, hs2⟩ := info_parts str_info
    have HSI := Lib.hid hsi
    clear hsi G GD PQ
    obtain ⟨ca, fa, za⟩ := HT.out.a
    subst hW0
    go_enter Tryd.func21, Tryd.ntmps21
    go_wp2_with fail
    refine RT0.out.mono ?_
    rintro e w1 ⟨rfl, hb1⟩
    have HT := Lib.hid (HT.out.later hb1)
    clear hb1 RT0 ca fa za
    go_upto_region 3 with fail
    go_cut [3] (fun s3 wx => ∃ (V : World) (a5 : Option Addr) (c5 : Nat), V = wx ∧ s3 = .slice a5 (2 + wl.length) c5 ∧ Hid (OneAt w #[.int .i64 k, .string x1, .string x2, .string x3, .string x4, .slice wo us.length wc] V) ∧ Hid (V.ownsRow (w.heap.size + 1) 9 1 (.slice a5 (2 + wl.length) c5) (2 + wl.length) (strs (hw :: ra :: wl))))
    case first =>
      refine wp_region_held_drew (S := (fun W => ∀ o, W.cell? ⟨w.heap.size, o, none⟩ = (#[.int .i64 k, .string x1, .string x2, .string x3, .string x4, .slice wo us.length wc] : Array Value)[o]?)) (by kernel_rfl) HT.out.drew.a.1 (fun hHeld => ?_)
      have HT := Lib.hid HT.out.drew
      obtain ⟨wk, hwk⟩ : ∃ W, W = w1.drew := ⟨_, rfl⟩
      rw [← hwk] at HT hHeld ⊢
      clear hwk
      (refine hyes 0 ?_); (refine hyes 1 ?_); (refine hyes 3 ?_); (refine hyes 4 ?_); (refine hyes 7 ?_); (try simp only [Act.put, List.setIfInBounds_toArray, List.set])
      (refine held_call 2 rfl (by kernel_rfl) (fun K hK => ?_); go_simp)
      go_at_call 58; refine (HD.out _).mono ?_; rintro e wz2 ⟨rfl, rfl⟩
      (refine hK.out _ _ (HT.out.a.1) (fun hHeld => ?_); clear hK K; (try simp only [Act.put, List.setIfInBounds_toArray, List.set]))
      (refine held_call 5 rfl (by kernel_rfl) (fun K hK => ?_); go_simp)
      go_at_call 59; refine (PA.out _).mono ?_; rintro e wz5 ⟨rfl, hbq⟩
      have HT := Lib.hid (HT.out.later hbq)
      clear hbq
      (refine hK.out _ _ (HT.out.a.1) (fun hHeld => ?_); clear hK K; (try simp only [Act.put, List.setIfInBounds_toArray, List.set]))
      refine wpAnyH_ready (rs := [6, 8]) (by kernel_rfl) (by simp) (AllReadyH.cons rfl (fun K hK => ?_) (AllReadyH.cons rfl (fun K hK => ?_) AllReadyH.nil))
      · go_simp
        obtain ⟨wz6, hwn⟩ : ∃ V, V = wz5.alloc (.cells #[.string hw, .string ra] 9) := ⟨_, rfl⟩
        obtain ⟨bn, hbn⟩ : ∃ b, b = wz5.heap.size := ⟨_, rfl⟩
        rw [← hwn, ← hbn]
        have hbq : Below wz5.heap.size wz5 wz6 := by rw [hwn]; exact (Below.refl _ _).alloc (Nat.le_refl _) _
        have HO := Lib.hid (show wz6.ownsRow (w.heap.size + 1) 9 1 (.slice (some ⟨bn, 0, none⟩) 2 2) 2 (strs [hw, ra]) by rw [hwn, hbn]; exact own_two hw ra (w.heap.size + 1) HT.out.a.2.2)
        have HT := Lib.hid (HT.out.later hbq)
        clear hbq hwn hbn
        (refine hK.out _ _ (HT.out.a.1) (fun hHeld => ?_); clear hK K; (try simp only [Act.put, List.setIfInBounds_toArray, List.set]))
        (refine held_call 8 rfl (by kernel_rfl) (fun K hK => ?_); go_simp)
        go_at_call 23; refine (WQ.out _).mono ?_; rintro e wz8 ⟨b2, _, rfl, hcell2, hbq⟩
        have HWL := Lib.hid (show SlA wz8 1 (.slice (some ⟨b2, 0, none⟩) wl.length wl.length) wl.length (strs wl) from .inl ⟨by simp [strs], by simp only [maxLen]; omega, .inr ⟨b2, 0, wl.length, rfl, Nat.le_refl _, by simp only [maxLen]; omega, (Array.getElem?_eq_some_iff.1 hcell2).1, fun j u hu => by rw [Nat.zero_add, cell_of_row _ b2 j _ _ _ hcell2]; simpa using hu⟩⟩)
        have HO := Lib.hid (own_below HO.out hbq)
        have HT := Lib.hid (HT.out.later hbq)
        clear hbq hcell2 WQ
        (refine hK.out _ _ (HT.out.a.1) (fun hHeld => ?_); clear hK K; (try simp only [Act.put, List.setIfInBounds_toArray, List.set]))
        refine held_call 9 rfl (by kernel_rfl) (fun K hK => ?_)
        have hsz : w.heap.size + 1 ≤ wz8.heap.size := HT.out.a.2.2
        refine step_row rfl _ _ 22 rfl (w.heap.size + 1) 9 si _ 1 16 Tryd.underlying22 HSI.out hs0 hs1 hs2 (by decide) rfl (by decide) _ 2 _ rfl HO.out _ wl.length _ rfl HWL.out (strs_one wl) (by omega) hsz ?_
        intro a5 c5 wc9 hown5 hg5
        have HT2 : OneAt w #[.int .i64 k, .string x1, .string x2, .string x3, .string x4, .slice wo us.length wc] wc9 := ⟨HT.out.a.grown hg5 (fun e => by have := (HO.out.lt _ e.symm).1; omega), below_own HT.out.low HO.out hg5 HT.out.low.size (by omega)⟩
        have HO5 := Lib.hid (show wc9.ownsRow (w.heap.size + 1) 9 1 (.slice a5 (2 + wl.length) c5) (2 + wl.length) (strs (hw :: ra :: wl)) from hown5)
        have HT := Lib.hid HT2
        clear hown5 hg5 HO HWL hsz HT2
        (refine hK.out _ _ (HT.out.a.1) (fun hHeld => ?_); clear hK K; (try simp only [Act.put, List.setIfInBounds_toArray, List.set]))
        (refine hyes 10 ?_); (try simp only [Act.put, List.setIfInBounds_toArray, List.set])
        refine wpAnyH_done (by kernel_rfl) ?_ _
        clear hHeld
        obtain ⟨wd, hwd⟩ : ∃ W, W = wc9 := ⟨_, rfl⟩
        rw [← hwd] at HT HO5 ⊢
        clear hwd
        go_wp2_with fail
        go_meet
        exact ⟨_, a5, c5, rfl, rfl, HT, HO5⟩
      · go_simp
        go_at_call 23; refine (WQ.out _).mono ?_; rintro e wz8 ⟨b2, _, rfl, hcell2, hbq⟩
        have HWL := Lib.hid (show SlA wz8 1 (.slice (some ⟨b2, 0, none⟩) wl.length wl.length) wl.length (strs wl) from .inl ⟨by simp [strs], by simp only [maxLen]; omega, .inr ⟨b2, 0, wl.length, rfl, Nat.le_refl _, by simp only [maxLen]; omega, (Array.getElem?_eq_some_iff.1 hcell2).1, fun j u hu => by rw [Nat.zero_add, cell_of_row _ b2 j _ _ _ hcell2]; simpa using hu⟩⟩)
        have HT := Lib.hid (HT.out.later hbq)
        clear hbq hcell2 WQ
        (refine hK.out _ _ (HT.out.a.1) (fun hHeld => ?_); clear hK K; (try simp only [Act.put, List.setIfInBounds_toArray, List.set]))
        (refine held_call 6 rfl (by kernel_rfl) (fun K hK => ?_); go_simp)
        obtain ⟨wz6, hwn⟩ : ∃ V, V = wz8.alloc (.cells #[.string hw, .string ra] 9) := ⟨_, rfl⟩
        obtain ⟨bn, hbn⟩ : ∃ b, b = wz8.heap.size := ⟨_, rfl⟩
        rw [← hwn, ← hbn]
        have hbq : Below wz8.heap.size wz8 wz6 := by rw [hwn]; exact (Below.refl _ _).alloc (Nat.le_refl _) _
        have HO := Lib.hid (show wz6.ownsRow (w.heap.size + 1) 9 1 (.slice (some ⟨bn, 0, none⟩) 2 2) 2 (strs [hw, ra]) by rw [hwn, hbn]; exact own_two hw ra (w.heap.size + 1) HT.out.a.2.2)
        have HWL := Lib.hid (HWL.out.below hbq)
        have HT := Lib.hid (HT.out.later hbq)
        clear hbq hwn hbn
        (refine hK.out _ _ (HT.out.a.1) (fun hHeld => ?_); clear hK K; (try simp only [Act.put, List.setIfInBounds_toArray, List.set]))
        refine held_call 9 rfl (by kernel_rfl) (fun K hK => ?_)
        have hsz : w.heap.size + 1 ≤ wz6.heap.size := HT.out.a.2.2
        refine step_row rfl _ _ 22 rfl (w.heap.size + 1) 9 si _ 1 16 Tryd.underlying22 HSI.out hs0 hs1 hs2 (by decide) rfl (by decide) _ 2 _ rfl HO.out _ wl.length _ rfl HWL.out (strs_one wl) (by omega) hsz ?_
        intro a5 c5 wc9 hown5 hg5
        have HT2 : OneAt w #[.int .i64 k, .string x1, .string x2, .string x3, .string x4, .slice wo us.length wc] wc9 := ⟨HT.out.a.grown hg5 (fun e => by have := (HO.out.lt _ e.symm).1; omega), below_own HT.out.low HO.out hg5 HT.out.low.size (by omega)⟩
        have HO5 := Lib.hid (show wc9.ownsRow (w.heap.size + 1) 9 1 (.slice a5 (2 + wl.length) c5) (2 + wl.length) (strs (hw :: ra :: wl)) from hown5)
        have HT := Lib.hid HT2
        clear hown5 hg5 HO HWL hsz HT2
        (refine hK.out _ _ (HT.out.a.1) (fun hHeld => ?_); clear hK K; (try simp only [Act.put, List.setIfInBounds_toArray, List.set]))
        (refine hyes 10 ?_); (try simp only [Act.put, List.setIfInBounds_toArray, List.set])
        refine wpAnyH_done (by kernel_rfl) ?_ _
        clear hHeld
        obtain ⟨wd, hwd⟩ : ∃ W, W = wc9 := ⟨_, rfl⟩
        rw [← hwd] at HT HO5 ⊢
        clear hwd
        go_wp2_with fail
        go_meet
        exact ⟨_, a5, c5, rfl, rfl, HT, HO5⟩
    case rest =>
    clear HT
    obtain ⟨V, a5, c5, rfl, rfl, HT, HO⟩ := hcut
    obtain ⟨ca, fa, za⟩ := HT.out.a
    go_wp2_with fail
    refine (SE.out _).mono ?_
    rintro e w6 ⟨rfl, hw6⟩
    subst hw6
    have hw2 : (hw :: ra :: wl).length = 2 + wl.length := by simp only [List.length_cons]; omega
    go_upto_if 19 with fail
    clear ca fa za
    go_cut [3] (fun s3 wx => ∃ (V : World) (a6 : Option Addr) (c6 : Nat) (zs : List ByteArray), V = wx ∧ s3 = .slice a6 zs.length c6 ∧ Hid (zs = hw :: ra :: wl ++ (if sb = true then [rb] else [])) ∧ Hid (OneAt w #[.int .i64 k, .string x1, .string x2, .string x3, .string x4, .slice wo us.length wc] V) ∧ Hid (V.ownsRow (w.heap.size + 1) 9 1 (.slice a6 zs.length c6) zs.length (strs zs)))
    case first =>
      obtain ⟨ca, fa, za⟩ := HT.out.a
      cases sb with
      | false =>
        go_wp2
        go_meet
        exact ⟨_, a5, c5, hw :: ra :: wl, rfl, by rw [hw2], Lib.hid (by simp), HT, by rw [hw2]; exact HO⟩
      | true =>
        go_wp2_with fail
        refine (PB.out _).mono ?_
        rintro e w7 ⟨rfl, hb7⟩
        have HT7 := Lib.hid (HT.out.later hb7)
        have HO7 := Lib.hid (own_below HO.out hb7)
        clear hb7 ca fa za
        have hsz : w.heap.size + 1 ≤ w7.heap.size := HT7.out.a.2.2
        go_wp2_with (at_builtin; refine halt_ ?_)
        unfold Halt_
        refine app_own Tryd.underlying22 str_info rfl (by decide) (by decide) rfl _ _ rfl (w.heap.size + 1) rfl (HO7.out.alloc _) [.string rb] rfl (heap_new1 _ _) rfl (str1 _) (by omega) (by simp; omega) ?_
        intro a8 c8 w8 hown8 hg8
        have HT8 := Lib.hid (show OneAt w #[.int .i64 k, .string x1, .string x2, .string x3, .string x4, .slice wo us.length wc] w8 from ⟨(HT7.out.a.alloc _).grown hg8 (fun e => by have := (HO7.out.lt _ e.symm).1; omega), below_own (HT7.out.low.alloc HT7.out.low.size _) (HO7.out.alloc _) hg8 (by simp; omega) (by omega)⟩)
        have hz8 : (hw :: ra :: wl ++ [rb]).length = 2 + wl.length + 1 := by simp only [List.length_append, List.length_cons, List.length_nil]; omega
        have HO8 := Lib.hid (show w8.ownsRow (w.heap.size + 1) 9 1 (.slice a8 (hw :: ra :: wl ++ [rb]).length c8) (hw :: ra :: wl ++ [rb]).length (strs (hw :: ra :: wl ++ [rb])) by rw [hz8, show strs (hw :: ra :: wl ++ [rb]) = strs (hw :: ra :: wl) ++ [.string rb] by simp [strs]]; exact hown8)
        clear hown8 hg8
        go_wp2
        go_meet
        exact ⟨_, a8, c8, hw :: ra :: wl ++ [rb], rfl, by rw [hz8], Lib.hid (by simp), HT8, HO8⟩
    case rest =>
    clear HT HO
    obtain ⟨V, a6, c6, zs, rfl, rfl, HZ, HT, HO⟩ := hcut
    have hzl : zs.length ≤ 5 := by
      rw [HZ.out]
      cases sb <;> simp <;> omega
    have hsz : w.heap.size + 1 ≤ V.heap.size := HT.out.a.2.2
    obtain ⟨ca, fa, za⟩ := HT.out.a
    go_wp2_with (at_builtin; refine halt_ ?_)
    unfold Halt_
    refine app_row Tryd.underlying22 str_info rfl (by decide) (by decide) rfl _ _ rfl (w.heap.size + 1) rfl HO.out rfl (HU.out.below HT.out.low) (strs_one _) (by omega) hsz ?_
    intro a9 c9 w9 hown9 hg9
    have HB9 := Lib.hid (below_own HT.out.low HO.out hg9 HT.out.low.size (by omega))
    have HZ9 := Lib.hid (show zs ++ us = hw :: ra :: (wl ++ ((if sb = true then [rb] else []) ++ us)) by rw [HZ.out]; simp)
    have hl9 : (zs ++ us).length = zs.length + us.length := List.length_append
    have HJ := Lib.hid (str_Join (.slice a9 (zs ++ us).length c9) (zs ++ us) ⟨#[32]⟩ w9 (Sl.of_own (by rw [hl9, show strs (zs ++ us) = strs zs ++ strs us by simp [strs]]; exact hown9)).a (by omega) (by rw [HZ9.out, ← HX.out]; exact Nat.le_trans TS.out (by decide)))
    rw [hl9, HZ9.out, ← HX.out, ← R.out] at HJ
    clear hown9 hg9 ca fa za
    go_wp2_with fail
    refine HJ.out.mono ?_
    rintro e w10 ⟨rfl, hb10⟩
    have HB10 := Lib.hid (HB9.out.trans (hb10.mono HB9.out.size))
    clear hb10
    go_wp2
    go_ret
    exact ⟨rfl, HB10.out⟩
end Go.Proofs.YtedkkegjiikcmaaDoor
namespace Go.Proofs.YtedkkegjiikcmaaDoor
open Go.RowKit Go.Shelf

def isQT (t : List Tok × Int × Int) : Bool := if t.2.2 = 0 then match t.1 with | [] => false | x :: _ => decide (x.tx = wAlways) || decide (x.tx = wCan) else false
def isQ (s : ByteArray) : Bool := isQT (tokens (bl s))
theorem eq_always (x : ByteArray) : (x.toList == [97, 108, 119, 97, 121, 115]) = decide (x = wAlways) := by
  rw [← beq_str, show wAlways.toList = [97, 108, 119, 97, 121, 115] from by rw [ByteArray.toList_eq]; rfl]
theorem eq_can (x : ByteArray) : (x.toList == [99, 97, 110]) = decide (x = wCan) := by
  rw [← beq_str, show wCan.toList = [99, 97, 110] from by rw [ByteArray.toList_eq]; rfl]
set_option maxRecDepth 100000 in
set_option maxHeartbeats 2000000 in
theorem query_Is (s : ByteArray) (w : World) (hg : Gl w) (hs : s.size ≤ 9223372036854775807) :
    Calls Tryd.prog 17 #[.string s] w fun e w' => e = .returned (.bool (isQ s)) ∧ Below w.heap.size w w' := by
  have E := Lib.hid (show isQ s = isQT (tokens (bl s)) from rfl)
  have HT := Lib.hid (scan_Tokens_any s w hg hs)
  generalize isQ s = r at *
  generalize tokens (bl s) = t at *
  obtain ⟨l, i, y⟩ := t
  clear hg
  go_enter Tryd.func17, Tryd.ntmps17
  go_wp2_with fail
  refine HT.out.mono ?_
  rintro e w1 ⟨va, rfl, hown1, hb1⟩
  obtain ⟨sa, sc, rfl⟩ := own_form hown1
  have hsl1 := Lib.hid (Sl.of_own hown1)
  have HB := Lib.hid hb1
  clear hown1 hb1 HT
  dsimp only at hsl1 ⊢
  by_cases hy : y = 0
  case neg =>
    have R := Lib.hid (show r = false by rw [E.out]; exact if_neg hy)
    have d : (y == 0) = false := by simpa using hy
    clear E hy
    go_wp2
    go_ret
    exact ⟨ret_b R.out.symm, HB.out⟩
  subst hy
  cases l with
  | nil =>
    have R := Lib.hid (show r = false by rw [E.out]; rfl)
    clear E
    go_wp2
    go_ret
    exact ⟨ret_b R.out.symm, HB.out⟩
  | cons t tl =>
    obtain ⟨b, off, cap, he, hc, hm, hlt, hx⟩ := hsl1.out.pos (by simp)
    simp only [Value.slice.injEq, true_and] at he
    obtain ⟨rfl, rfl⟩ := he
    obtain ⟨t0, t1, t2⟩ := tk_head hx
    have R := Lib.hid (show r = (decide (t.tx = wAlways) || decide (t.tx = wCan)) by rw [E.out]; rfl)
    rw [show (⟨t.text.toArray⟩ : ByteArray) = t.tx from rfl] at t1
    have d1 := eq_always t.tx
    have d2 := eq_can t.tx
    have d0 : decide ((0 : Int) < (tl.length : Int) + 1) = true := by (rw [decide_eq_true_iff]; omega)
    clear E hx t0 t2
    generalize t.tx = x at *
    cases h1 : decide (x = wAlways) with
    | true =>
      rw [h1] at d1
      replace R := Lib.hid (show r = true by rw [R.out, h1]; rfl)
      clear h1 d2
      go_wp2
      go_ret
      exact ⟨ret_b R.out.symm, HB.out⟩
    | false =>
      rw [h1] at d1
      replace R := Lib.hid (show r = decide (x = wCan) by rw [R.out, h1]; rfl)
      clear h1
      generalize decide (x = wCan) = c at *
      go_wp2
      go_ret
      exact ⟨ret_b R.out.symm, HB.out⟩
def livesIn : ByteArray := ⟨#[97, 108, 119, 97, 121, 115, 32, 65, 46, 114, 32, 119, 105, 116, 104, 105, 110, 32, 67, 32, 66]⟩
def livesOut : ByteArray := ⟨#[97, 108, 119, 97, 121, 115, 32, 65, 46, 114, 32, 119, 105, 116, 104, 105, 110, 32, 66, 32, 67]⟩
def livesQd : Qd := ⟨3, ⟨⟨#[65]⟩, ⟨#[114]⟩⟩, noR, [⟨#[66]⟩, ⟨#[67]⟩]⟩
theorem lives_parse : parseQ livesIn = (livesQd, 0, 0) := by
  kernel_rfl
set_option maxRecDepth 100000 in
set_option maxHeartbeats 2000000 in
theorem law4_livesQ (w : World) (hg : Gl w) : Calls Tryd.prog 18 #[] w fun e w' => e = .returned (.bool true) ∧ Below w.heap.size w w' := by
  have P1 := Lib.hid (query_Parse livesIn w (by decide) hg)
  rw [lives_parse] at P1
  have l1 : (⟨⟨#[65]⟩, ⟨#[114]⟩⟩ : Rl).le 4294967 := ⟨by decide, by decide⟩
  have l2 : noR.le 4294967 := ⟨by decide, by decide⟩
  have P2 := Lib.hid (fun (wv : Value) W (h : SlA W 1 wv 2 (strs [⟨#[66]⟩, ⟨#[67]⟩])) => query_Print ⟨3, ⟨⟨#[65]⟩, ⟨#[114]⟩⟩, noR, wv⟩ [⟨#[66]⟩, ⟨#[67]⟩] W l1 l2 h (by decide))
  have R2 := Lib.hid (show ∀ wv, printQ ⟨3, ⟨⟨#[65]⟩, ⟨#[114]⟩⟩, noR, wv⟩ [⟨#[66]⟩, ⟨#[67]⟩] = livesOut from fun wv => by kernel_rfl)
  clear hg
  go_enter Tryd.func18, Tryd.ntmps18
  go_wp2_with fail
  refine P1.out.mono ?_
  rintro e w1 ⟨v, rfl, hv, hb1⟩
  have HV := Lib.hid (show SlA w1 1 v 2 (strs [⟨#[66]⟩, ⟨#[67]⟩]) from hv)
  obtain ⟨vo, vc, rfl⟩ := HV.out.form
  clear hv P1
  obtain ⟨W1, hW1⟩ : ∃ W, W = w1.alloc (.cells #[.int .i64 3, .string ⟨#[65]⟩, .string ⟨#[114]⟩, .string ⟨#[]⟩, .string ⟨#[]⟩, .slice vo 2 vc] 31) := ⟨_, rfl⟩
  have HT := Lib.hid (show OneAt w1 #[.int .i64 3, .string ⟨#[65]⟩, .string ⟨#[114]⟩, .string ⟨#[]⟩, .string ⟨#[]⟩, .slice vo 2 vc] W1 by rw [hW1]; exact ⟨Blk.new w1 _ _, (Below.refl _ _).alloc (Nat.le_refl _) _⟩)
  have HB := Lib.hid hb1
  have S1 := Lib.hid (fun W (h : Below w1.heap.size w1 W) => ref1_SameQB (.slice vo 2 vc) (.slice (some ⟨W.heap.size, 0, none⟩) 2 2) [⟨#[66]⟩, ⟨#[67]⟩] [⟨#[66]⟩, ⟨#[67]⟩] (W.alloc (.cells #[.string ⟨#[66]⟩, .string ⟨#[67]⟩] 9)) ((HV.out.below h).below ((Below.refl _ _).alloc (Nat.le_refl _) _)) (Sl.new1 W (strs [⟨#[66]⟩, ⟨#[67]⟩]) 9 W.heap.size 2 rfl rfl (by decide)).a)
  clear hb1
  have P2 := Lib.hid (fun W (h : Below w1.heap.size w1 W) => P2.out (.slice vo 2 vc) W (HV.out.below h))
  rw [R2.out] at P2
  obtain ⟨ca, fa, za⟩ := HT.out.a
  have HT1 := HT
  have S0 := Lib.hid (S1.out _ HT1.out.low)
  clear S1
  subst hW1
  rw [show ((w1.alloc (.cells #[.int .i64 3, .string ⟨#[65]⟩, .string ⟨#[114]⟩, .string ⟨#[]⟩, .string ⟨#[]⟩, .slice vo 2 vc] 31)).heap.size) = w1.heap.size + 1 by simp] at S0
  go_wp2_with fail
  refine S0.out.mono ?_
  rintro e w2 ⟨rfl, hb2⟩
  have HT2 := Lib.hid ((HT1.out.alloc (.cells #[.string ⟨#[66]⟩, .string ⟨#[67]⟩] 9)).later hb2)
  have P3 := Lib.hid (P2.out w2 HT2.out.low)
  clear hb2 P2 S0 ca fa za
  obtain ⟨ca, fa, za⟩ := HT2.out.a
  go_wp2_with fail
  refine P3.out.mono ?_
  rintro e w3 ⟨rfl, hb3⟩
  have HT3 := Lib.hid (HT2.out.later hb3)
  clear hb3 P3
  have dO : (livesOut.toList == [97, 108, 119, 97, 121, 115, 32, 65, 46, 114, 32, 119, 105, 116, 104, 105, 110, 32, 66, 32, 67]) = true := by rw [show livesOut.toList = [97, 108, 119, 97, 121, 115, 32, 65, 46, 114, 32, 119, 105, 116, 104, 105, 110, 32, 66, 32, 67] from by rw [ByteArray.toList_eq]; rfl]; rfl
  go_wp2
  go_ret
  exact ⟨rfl, HB.out.trans (HT3.out.low.mono HB.out.size)⟩
end Go.Proofs.YtedkkegjiikcmaaDoor
namespace Go.Proofs.YtedkkegjiikcmaaDoor
open Go.RowKit Go.Shelf

theorem ref4_UniversalQ (k : Int) (w : World) : Calls Tryd.prog 26 #[.int .i64 k] w fun e w' => e = .returned (.bool (univB k)) ∧ w' = w := by
  have R := Lib.hid (show univB k = (decide (k = 1) || decide (k = 3) || decide (k = 5) || decide (k = 6)) from rfl)
  generalize univB k = r at *
  go_enter Tryd.func26, Tryd.ntmps26
  by_cases h1 : k = 1
  · have d1 : (k == 1) = true := by simp [h1]
    have R2 := Lib.hid (show r = true by rw [R.out, decide_eq_true h1]; rfl)
    clear h1
    go_wp2
    go_ret
    exact ⟨ret_b R2.out.symm, rfl⟩
  have d1 : (k == 1) = false := by simp [h1]
  by_cases h3 : k = 3
  · have d3 : (k == 3) = true := by simp [h3]
    have R2 := Lib.hid (show r = true by rw [R.out, decide_eq_true h3, Bool.or_true]; rfl)
    clear h1 h3
    go_wp2
    go_ret
    exact ⟨ret_b R2.out.symm, rfl⟩
  have d3 : (k == 3) = false := by simp [h3]
  by_cases h5 : k = 5
  · have d5 : (k == 5) = true := by simp [h5]
    have R2 := Lib.hid (show r = true by rw [R.out, decide_eq_true h5, Bool.or_true]; rfl)
    clear h1 h3 h5
    go_wp2
    go_ret
    exact ⟨ret_b R2.out.symm, rfl⟩
  have d5 : (k == 5) = false := by simp [h5]
  by_cases h6 : k = 6
  · have d6 : (k == 6) = true := by simp [h6]
    have R2 := Lib.hid (show r = true by rw [R.out, decide_eq_true h6, Bool.or_true])
    clear h1 h3 h5 h6
    go_wp2
    go_ret
    exact ⟨ret_b R2.out.symm, rfl⟩
  · have d6 : (k == 6) = false := by simp [h6]
    have R2 := Lib.hid (show r = false by rw [R.out, decide_eq_false h1, decide_eq_false h3, decide_eq_false h5, decide_eq_false h6]; rfl)
    clear h1 h3 h5 h6
    go_wp2
    go_ret
    exact ⟨ret_b R2.out.symm, rfl⟩
theorem ref4_UnivQ {k : Int} {b : Bool} (hu : univB k = b) (w : World) : Calls Tryd.prog 26 #[.int .i64 k] w fun e w' => e = .returned (.bool b) ∧ w' = w := by
  rw [← hu]; exact ref4_UniversalQ k w
end Go.Proofs.YtedkkegjiikcmaaDoor
namespace Go.Proofs.YtedkkegjiikcmaaDoor
open Go.RowKit Go.Shelf

set_option maxRecDepth 100000 in
set_option maxHeartbeats 2000000 in
theorem ref4_name (t : Tok) (s : ByteArray) (w : World) : Calls Tryd.prog 86 #[tkv t, .string s] w fun e w' => e = .returned (.bool (nameT t s)) ∧ Below w.heap.size w w' := by
  have HB := Lib.hid (show Below w.heap.size w (w.alloc (.cells #[.int .i64 t.kind, .string ⟨t.text.toArray⟩, .int .i64 t.col] 39)) from (Below.refl _ _).alloc (Nat.le_refl _) _)
  have hbs : (t.text == s.toList) = decide (t.tx = s) := by
    have h := beq_str t.tx s
    rwa [show t.tx.toList = t.text by rw [ByteArray.toList_eq]; simp [Tok.tx]] at h
  by_cases h2 : t.kind = 2
  · have d : (t.kind == 2) = true := by simp [h2]
    have HE := Lib.hid (show nameT t s = decide (t.tx = s) by unfold nameT; rw [decide_eq_true h2, Bool.true_and])
    generalize nameT t s = res at *
    clear h2
    go_enter Tryd.func86, Tryd.ntmps86
    go_wp2
    go_ret
    exact ⟨ret_b (by rw [HE.out, ← hbs]), HB.out⟩
  · have d : (t.kind == 2) = false := by simp [h2]
    have HE := Lib.hid (show nameT t s = false by unfold nameT; rw [decide_eq_false h2, Bool.false_and])
    generalize nameT t s = res at *
    clear h2 hbs
    go_enter Tryd.func86, Tryd.ntmps86
    go_wp2
    go_ret
    exact ⟨ret_b HE.out.symm, HB.out⟩
theorem ref4_Words (k : Int) (h1 : 1 ≤ k) (h6 : k ≤ 6) (w : World) : Calls Tryd.prog 27 #[.int .i64 k] w fun e w' => e = .returned (.string (wordsQ k)) ∧ w' = w := by
  rcases (show k = 1 ∨ k = 2 ∨ k = 3 ∨ k = 4 ∨ k = 5 ∨ k = 6 by omega) with rfl | rfl | rfl | rfl | rfl | rfl
  all_goals (
    go_enter Tryd.func27, Tryd.ntmps27
    go_wp2
    go_ret
    exact ⟨rfl, rfl⟩)
theorem ref4_front (k : Int) (w : World) : Calls Tryd.prog 48 #[.int .i64 k] w fun e w' => e = .returned (.int .i64 (frontQ k)) ∧ w' = w := by
  have R := Lib.hid (show frontQ k = if k = 4 then 6 else if 5 ≤ k then 8 else 5 from rfl)
  generalize frontQ k = r at *
  by_cases h4 : k = 4
  · have d : (k == 4) = true := by simp [h4]
    have R := Lib.hid (show r = 6 by rw [R.out, if_pos h4])
    clear h4
    go_enter Tryd.func48, Tryd.ntmps48
    go_wp2
    go_ret
    exact ⟨ret_int (by rw [R.out]; rfl), rfl⟩
  · have d : (k == 4) = false := by simp [h4]
    by_cases h5 : 5 ≤ k
    · have d5 : decide (5 ≤ k) = true := decide_eq_true h5
      have R := Lib.hid (show r = 8 by rw [R.out, if_neg h4, if_pos h5])
      clear h4
      go_enter Tryd.func48, Tryd.ntmps48
      go_wp2
      go_ret
      exact ⟨ret_int (by rw [R.out]; rfl), rfl⟩
    · have d5 : decide (5 ≤ k) = false := decide_eq_false h5
      have R := Lib.hid (show r = 5 by rw [R.out, if_neg h4, if_neg h5])
      clear h4
      go_enter Tryd.func48, Tryd.ntmps48
      go_wp2
      go_ret
      exact ⟨ret_int (by rw [R.out]; rfl), rfl⟩
abbrev tkc (t : Tok) : Array Value := #[.int .i64 t.kind, .string ⟨t.text.toArray⟩, .int .i64 t.col]
set_option maxRecDepth 100000 in
set_option maxHeartbeats 8000000 in
theorem ref4_goes (k : Int) (h1 : 1 ≤ k) (h6 : k ≤ 6) (i : Nat) (t : Tok) (w : World) (hi : i ≤ 1000) : Calls Tryd.prog 49 #[.int .i64 k, .int .i64 i, tkv t] w fun e w' => e = .returned (.bool (goesQ k i t)) ∧ Below w.heap.size w w' := by
  have HB := Lib.hid (show Below w.heap.size w (w.alloc (.cells (tkc t) 39)) from (Below.refl _ _).alloc (Nat.le_refl _) _)
  have HT := Lib.hid (show OneAt w (tkc t) (w.alloc (.cells (tkc t) 39)) from ⟨Blk.new w _ _, HB.out⟩)
  have NM := Lib.hid (fun s W => ref4_name t s W)
  by_cases i0 : i = 0
  · subst i0
    cases hu : univB k with
    | true =>
      have UN := Lib.hid (fun W => ref4_UnivQ hu W)
      have HE := Lib.hid (show goesQ k 0 t = nameT t wAlways by rw [g0, hu]; simp)
      generalize goesQ k 0 t = res at *
      have NA := Lib.hid (fun W => NM.out wAlways W)
      generalize nameT t wAlways = b at *
      clear hu NM
      go_enter Tryd.func49, Tryd.ntmps49
      go_wp2_with fail
      refine (UN.out _).mono ?_
      rintro e w1 ⟨rfl, hw1⟩
      subst hw1
      obtain ⟨ca, fa, za⟩ := HT.out.a
      go_wp2_with fail
      refine (NA.out _).mono ?_
      rintro e w2 ⟨rfl, hb2⟩
      have HB2 := Lib.hid (HB.out.trans (hb2.mono HB.out.size))
      clear hb2
      cases b with
      | true =>
        go_wp2
        go_ret
        exact ⟨ret_b HE.out.symm, HB2.out⟩
      | false =>
        go_wp2_with fail
        refine (UN.out _).mono ?_
        rintro e w3 ⟨rfl, hw3⟩
        subst hw3
        go_wp2
        go_ret
        exact ⟨ret_b HE.out.symm, HB2.out⟩
    | false =>
      have UN := Lib.hid (fun W => ref4_UnivQ hu W)
      have HE := Lib.hid (show goesQ k 0 t = nameT t wCan by rw [g0, hu]; simp)
      generalize goesQ k 0 t = res at *
      have NA := Lib.hid (fun W => NM.out wCan W)
      generalize nameT t wCan = b at *
      clear hu NM
      go_enter Tryd.func49, Tryd.ntmps49
      go_wp2_with fail
      refine (UN.out _).mono ?_
      rintro e w1 ⟨rfl, hw1⟩
      subst hw1
      obtain ⟨ca, fa, za⟩ := HT.out.a
      go_wp2_with fail
      refine (UN.out _).mono ?_
      rintro e w3 ⟨rfl, hw3⟩
      subst hw3
      go_wp2_with fail
      refine (NA.out _).mono ?_
      rintro e w2 ⟨rfl, hb2⟩
      have HB2 := Lib.hid (HB.out.trans (hb2.mono HB.out.size))
      clear hb2
      go_wp2
      go_ret
      exact ⟨ret_b HE.out.symm, HB2.out⟩
  by_cases i4 : i = 4
  · subst i4
    by_cases k4 : k = 4
    · subst k4
      have HE := Lib.hid (show goesQ 4 4 t = nameT t wBe by rw [g4]; simp)
      generalize goesQ 4 4 t = res at *
      have NA := Lib.hid (fun W => NM.out wBe W)
      generalize nameT t wBe = b at *
      clear NM h1 h6 i0 hi
      go_enter Tryd.func49, Tryd.ntmps49
      go_upto_region 11 with fail
      refine wp_region_held_drew (S := (fun W => ∀ o, W.cell? ⟨w.heap.size, o, none⟩ = (tkc t)[o]?)) (by kernel_rfl) HT.out.drew.a.1 (fun hHeld => ?_)
      have HT := Lib.hid HT.out.drew
      (refine hyes 0 ?_); (refine hyes 1 ?_); (refine hyes 2 ?_); (refine hyes 3 ?_); (try simp only [Act.put, List.setIfInBounds_toArray, List.set])
      (refine held_call 4 rfl (by kernel_rfl) (fun K hK => ?_); go_simp)
      go_at_call 86; refine (NA.out _).mono ?_; rintro e wz4 ⟨rfl, hbq⟩
      have HT := Lib.hid (HT.out.later hbq)
      clear hbq
      (refine hK.out _ _ (HT.out.a.1) (fun hHeld => ?_); clear hK K; (try simp only [Act.put, List.setIfInBounds_toArray, List.set]))
      cases b with
      | true =>
        (refine hyes 5 ?_); (refine hyes 6 ?_); (try simp only [Act.put, List.setIfInBounds_toArray, List.set])
        (refine hno 7 ?_); (refine hno 8 ?_); (try simp only [Act.put, List.setIfInBounds_toArray, List.set])
        (refine hno 9 ?_); (try simp only [Act.put, List.setIfInBounds_toArray, List.set])
        (refine hno 10 ?_); (refine hno 11 ?_); (try simp only [Act.put, List.setIfInBounds_toArray, List.set])
        (refine hno 12 ?_); (try simp only [Act.put, List.setIfInBounds_toArray, List.set])
        (refine hno 13 ?_); (try simp only [Act.put, List.setIfInBounds_toArray, List.set])
        (refine hno 14 ?_); (try simp only [Act.put, List.setIfInBounds_toArray, List.set])
        (refine hyes 15 ?_); (refine hyes 16 ?_); (try simp only [Act.put, List.setIfInBounds_toArray, List.set])
        refine wpAnyH_done (by kernel_rfl) ?_ _
        go_wp2
        go_ret
        exact ⟨ret_b HE.out.symm, HT.out.low⟩
      | false =>
        (refine hyes 5 ?_); (refine hyes 6 ?_); (refine hyes 7 ?_); (refine hyes 8 ?_); (refine hyes 9 ?_); (try simp only [Act.put, List.setIfInBounds_toArray, List.set])
        (refine hno 10 ?_); (refine hno 11 ?_); (try simp only [Act.put, List.setIfInBounds_toArray, List.set])
        (refine hno 12 ?_); (try simp only [Act.put, List.setIfInBounds_toArray, List.set])
        (refine hno 13 ?_); (try simp only [Act.put, List.setIfInBounds_toArray, List.set])
        (refine hyes 14 ?_); (refine hyes 15 ?_); (refine hyes 16 ?_); (try simp only [Act.put, List.setIfInBounds_toArray, List.set])
        refine wpAnyH_done (by kernel_rfl) ?_ _
        go_wp2
        go_ret
        exact ⟨ret_b HE.out.symm, HT.out.low⟩
    · have d4 : (k == 4) = false := by simp [k4]
      have d4' : (k != 4) = true := by simp [k4]
      have HE := Lib.hid (show goesQ k 4 t = nameT t (wordsQ k) by rw [g4, decide_eq_false k4]; simp)
      have WD := Lib.hid (fun W => ref4_Words k h1 h6 W)
      generalize goesQ k 4 t = res at *
      have NA := Lib.hid (fun W => NM.out (wordsQ k) W)
      generalize nameT t (wordsQ k) = b at *
      generalize wordsQ k = wd at *
      clear NM h1 h6 i0 hi k4
      go_enter Tryd.func49, Tryd.ntmps49
      go_upto_region 11 with fail
      refine wp_region_held_drew (S := (fun W => ∀ o, W.cell? ⟨w.heap.size, o, none⟩ = (tkc t)[o]?)) (by kernel_rfl) HT.out.drew.a.1 (fun hHeld => ?_)
      have HT := Lib.hid HT.out.drew
      (refine hyes 0 ?_); (refine hyes 1 ?_); (refine hyes 2 ?_); (try simp only [Act.put, List.setIfInBounds_toArray, List.set])
      (refine hno 3 ?_); (try simp only [Act.put, List.setIfInBounds_toArray, List.set])
      (refine hno 4 ?_); (try simp only [Act.put, List.setIfInBounds_toArray, List.set])
      (refine hyes 5 ?_); (refine hyes 6 ?_); (refine hyes 7 ?_); (refine hyes 8 ?_); (refine hyes 9 ?_); (refine hyes 10 ?_); (refine hyes 11 ?_); (try simp only [Act.put, List.setIfInBounds_toArray, List.set])
      (refine held_call 12 rfl (by kernel_rfl) (fun K hK => ?_); go_simp)
      go_at_call 27; refine (WD.out _).mono ?_; rintro e wz12 ⟨rfl, rfl⟩
      (refine hK.out _ _ (HT.out.a.1) (fun hHeld => ?_); clear hK K; (try simp only [Act.put, List.setIfInBounds_toArray, List.set]))
      (refine held_call 13 rfl (by kernel_rfl) (fun K hK => ?_); go_simp)
      go_at_call 86; refine (NA.out _).mono ?_; rintro e wz13 ⟨rfl, hbq⟩
      have HT := Lib.hid (HT.out.later hbq)
      clear hbq
      (refine hK.out _ _ (HT.out.a.1) (fun hHeld => ?_); clear hK K; (try simp only [Act.put, List.setIfInBounds_toArray, List.set]))
      (refine hyes 14 ?_); (refine hyes 15 ?_); (refine hyes 16 ?_); (try simp only [Act.put, List.setIfInBounds_toArray, List.set])
      refine wpAnyH_done (by kernel_rfl) ?_ _
      go_wp2
      go_ret
      exact ⟨ret_b HE.out.symm, HT.out.low⟩
  have d0 : ((i : Int) == 0) = false := by rw [beq_eq_false_iff_ne]; omega
  have d4 : ((i : Int) == 4) = false := by rw [beq_eq_false_iff_ne]; omega
  obtain ⟨ca, fa, za⟩ := HT.out.a
  by_cases i5 : i = 5
  · subst i5
    by_cases k4 : k = 4
    · subst k4
      have HE := Lib.hid (show goesQ 4 5 t = nameT t wEmpty by rw [g5]; simp)
      generalize goesQ 4 5 t = res at *
      have NA := Lib.hid (fun W => NM.out wEmpty W)
      generalize nameT t wEmpty = b at *
      clear NM h1 h6 i0 i4 hi d0 d4
      go_enter Tryd.func49, Tryd.ntmps49
      go_wp2_with fail
      refine (NA.out _).mono ?_
      rintro e w2 ⟨rfl, hb2⟩
      have HB2 := Lib.hid (HB.out.trans (hb2.mono HB.out.size))
      have HT2 := HT.out.later hb2
      obtain ⟨ca2, fa2, za2⟩ := HT2.a
      clear hb2
      cases b <;>
      · go_wp2
        go_ret
        exact ⟨ret_b HE.out.symm, HB2.out⟩
    · have d4 : (k == 4) = false := by simp [k4]
      have hk : (t.kind == 1) = decide (t.kind = 1) := by by_cases h : t.kind = 1 <;> simp [h]
      have HE := Lib.hid (show goesQ k 5 t = (decide (5 ≤ k) && decide (t.kind = 1)) by rw [g5, decide_eq_false k4]; simp)
      generalize goesQ k 5 t = res at *
      by_cases k5 : 5 ≤ k
      · have d5 : decide (5 ≤ k) = true := decide_eq_true k5
        have HE := Lib.hid (show res = decide (t.kind = 1) by rw [HE.out, d5, Bool.true_and])
        clear NM i0 i4 hi k4
        go_enter Tryd.func49, Tryd.ntmps49
        go_wp2
        go_ret
        exact ⟨ret_b (by rw [HE.out, ← hk]), HB.out⟩
      · have d5 : decide (5 ≤ k) = false := decide_eq_false k5
        have HE := Lib.hid (show res = false by rw [HE.out, d5, Bool.false_and])
        clear NM i0 i4 hi k4 hk
        go_enter Tryd.func49, Tryd.ntmps49
        go_wp2
        go_ret
        exact ⟨ret_b HE.out.symm, HB.out⟩
  have hk1 : (t.kind == 1) = decide (t.kind = 1) := by by_cases h : t.kind = 1 <;> simp [h]
  have hk2 : (t.kind == 2) = decide (t.kind = 2) := by by_cases h : t.kind = 2 <;> simp [h]
  have hk3 : (t.kind == 3) = decide (t.kind = 3) := by by_cases h : t.kind = 3 <;> simp [h]
  clear NM
  by_cases i1 : i = 1
  · subst i1
    have HE := Lib.hid (g1 k t)
    generalize goesQ k 1 t = res at *
    clear hk2 hk3 d0 d4 i0 i4 i5
    go_enter Tryd.func49, Tryd.ntmps49
    go_wp2
    go_ret
    exact ⟨ret_b (by rw [HE.out, ← hk1]), HB.out⟩
  by_cases i2 : i = 2
  · subst i2
    have HE := Lib.hid (g2 k t)
    generalize goesQ k 2 t = res at *
    clear hk2 hk1 d0 d4 i0 i4 i5 i1
    go_enter Tryd.func49, Tryd.ntmps49
    go_wp2
    go_ret
    exact ⟨ret_b (by rw [HE.out, ← hk3]), HB.out⟩
  by_cases i3 : i = 3
  · subst i3
    have HE := Lib.hid (g3 k t)
    generalize goesQ k 3 t = res at *
    clear hk1 hk3 d0 d4 i0 i4 i5 i1 i2
    go_enter Tryd.func49, Tryd.ntmps49
    go_wp2
    go_ret
    exact ⟨ret_b (by rw [HE.out, ← hk2]), HB.out⟩
  have d1 : ((i : Int) == 1) = false := by rw [beq_eq_false_iff_ne]; omega
  have d2 : ((i : Int) == 2) = false := by rw [beq_eq_false_iff_ne]; omega
  have d3 : ((i : Int) == 3) = false := by rw [beq_eq_false_iff_ne]; omega
  have d5' : ((i : Int) == 5) = false := by rw [beq_eq_false_iff_ne]; omega
  by_cases i6 : i = 6
  · subst i6
    have HE := Lib.hid (g6 k t)
    generalize goesQ k 6 t = res at *
    by_cases k5 : 5 ≤ k
    · have d5 : decide (5 ≤ k) = true := decide_eq_true k5
      have HE := Lib.hid (show res = decide (t.kind = 3) by rw [HE.out, d5, Bool.true_and])
      clear hk1 hk2 d0 d4 i0 i4 i5 i1 i2 i3 d1 d2 d3 d5'
      go_enter Tryd.func49, Tryd.ntmps49
      go_wp2
      go_ret
      exact ⟨ret_b (by rw [HE.out, ← hk3]), HB.out⟩
    · have d5 : decide (5 ≤ k) = false := decide_eq_false k5
      have HE := Lib.hid (show res = false by rw [HE.out, d5, Bool.false_and])
      clear hk1 hk2 hk3 d0 d4 i0 i4 i5 i1 i2 i3 d1 d2 d3 d5'
      go_enter Tryd.func49, Tryd.ntmps49
      go_wp2
      go_ret
      exact ⟨ret_b HE.out.symm, HB.out⟩
  have d6 : ((i : Int) == 6) = false := by rw [beq_eq_false_iff_ne]; omega
  by_cases i7 : i = 7
  · subst i7
    have HE := Lib.hid (g7 k t)
    generalize goesQ k 7 t = res at *
    by_cases k5 : 5 ≤ k
    · have d5 : decide (5 ≤ k) = true := decide_eq_true k5
      have HE := Lib.hid (show res = decide (t.kind = 2) by rw [HE.out, d5, Bool.true_and])
      clear hk1 hk3 d0 d4 i0 i4 i5 i1 i2 i3 d1 d2 d3 d5' d6 i6
      go_enter Tryd.func49, Tryd.ntmps49
      go_wp2
      go_ret
      exact ⟨ret_b (by rw [HE.out, ← hk2]), HB.out⟩
    · have d5 : decide (5 ≤ k) = false := decide_eq_false k5
      have HE := Lib.hid (show res = false by rw [HE.out, d5, Bool.false_and])
      clear hk1 hk2 hk3 d0 d4 i0 i4 i5 i1 i2 i3 d1 d2 d3 d5' d6 i6
      go_enter Tryd.func49, Tryd.ntmps49
      go_wp2
      go_ret
      exact ⟨ret_b HE.out.symm, HB.out⟩
  have d7 : ((i : Int) == 7) = false := by rw [beq_eq_false_iff_ne]; omega
  have HE := Lib.hid (show goesQ k i t = false by
    unfold goesQ
    rw [if_neg i0, if_neg i1, if_neg i2, if_neg i3, if_neg i4, if_neg i5, if_neg i6, if_neg i7])
  generalize goesQ k i t = res at *
  clear hk1 hk2 hk3 i0 i4 i5 i1 i2 i3 i6 i7
  by_cases k5 : 5 ≤ k
  · have d5 : decide (5 ≤ k) = true := decide_eq_true k5
    go_enter Tryd.func49, Tryd.ntmps49
    go_wp2
    go_ret
    exact ⟨ret_b HE.out.symm, HB.out⟩
  · have d5 : decide (5 ≤ k) = false := decide_eq_false k5
    go_enter Tryd.func49, Tryd.ntmps49
    go_wp2
    go_ret
    exact ⟨ret_b HE.out.symm, HB.out⟩
end Go.Proofs.YtedkkegjiikcmaaDoor
namespace Go.Proofs.YtedkkegjiikcmaaDoor
open Go.RowKit Go.Shelf

theorem tok_push {w2 : World} {B : Nat} {v : Value} {acc : List Tok} {X : ByteArray} {kd co : Int} (t : Tok) (ht : t.cells = [.int .i64 kd, .string X, .int .i64 co])
    (h : w2.ownsRow B 39 3 v (acc.length + 1) (acc.flatMap Tok.cells ++ [.int .i64 kd, .string X, .int .i64 co])) :
    w2.ownsRow B 39 3 v (acc ++ [t]).length ((acc ++ [t]).flatMap Tok.cells) := by
  rw [List.length_append, List.flatMap_append]
  simp only [List.flatMap_cons, List.flatMap_nil, List.append_nil, ht]
  exact h

theorem word_at (s : ByteArray) (k j : Nat) (h1 : k ≤ j) (h2 : j ≤ s.size) (hal : ∀ x ∈ ((bl s).drop k).take (j - k), alnum x = true) (hc : ∀ c, ((bl s).drop k)[j - k]? = some c → alnum c = false) :
    (wordOf ((bl s).drop k)).length = j - k ∧ s.extract k j = ⟨(wordOf ((bl s).drop k)).toArray⟩ := by
  have h := word_stop _ _ hal (by rw [List.length_drop, bl_len]; omega) hc
  have h3 := sword s k
  rw [h, show k + (j - k) = j by omega] at h3
  exact ⟨h, str_eq h3⟩
theorem alnum_big {c : UInt8} (h : btw c.toNat 65 90 = true) : alnum c = true := by simp [alnum, h]
theorem alnum_small {c : UInt8} (h : btw c.toNat 97 122 = true) : alnum c = true := by simp [alnum, h]
theorem alnum_fig {c : UInt8} (h : btw c.toNat 48 57 = true) : alnum c = true := by simp [alnum, h]
theorem alnum_none {c : UInt8} (h1 : btw c.toNat 65 90 = false) (h2 : btw c.toNat 97 122 = false) (h3 : btw c.toNat 48 57 = false) : alnum c = false := by simp [alnum, h1, h2, h3]

set_option maxRecDepth 100000 in
set_option maxHeartbeats 4000000 in
theorem ref2_Tokens (s : ByteArray) (w : World) (hs : s.size ≤ 200) :
    Calls Tryd.prog 15 #[.string s] w (TokPost (tokens (bl s)) w) := by
  have ht : tokens (bl s) = toks (bare (bl s)).length (bare (bl s)) 0 [] := by unfold tokens; rw [if_neg (by rw [bl_len]; omega)]
  have HT := Lib.hid ht
  have HB := Lib.hid (ref2_Bare s w (by omega))
  have hle := bare_le (bl s)
  rw [bl_len] at hle
  generalize hr : (⟨(bare (bl s)).toArray⟩ : ByteArray) = r at HB
  have hbr : bl r = bare (bl s) := by rw [← hr]
  have hrs : r.size ≤ 200 := by rw [← bl_len, hbr]; omega
  have HR := Lib.hid hbr
  clear hr hbr hle ht
  have h200 : decide (200 < (s.size : Int)) = false := by simp; omega
  go_enter Tryd.func15, Tryd.ntmps15
  go_wp2_with (go_at_call 36; refine HB.out.mono ?_; rintro e w' ⟨rfl, rfl⟩)
  go_loopw [6, 7] (TokRel w.heap.size w (bl r)) (fun _ i _ => r.size - (intOf i).toNat)
  case atStart => exact ⟨0, (bl r).length, [], by omega, rfl, by omega, by simp, World.ownsRow_nil _ _ _ _, rfl, Below.refl _ _⟩
  case round =>
    obtain ⟨k, f, acc, hk, rfl, hf, hacc, hown, htk, hb⟩ := hrel
    rw [bl_len] at hk hf
    have HK := Lib.hid htk
    clear htk
    have hsz0 := hb.size
    by_cases hlt : k < r.size
    · obtain ⟨f, rfl⟩ : ∃ f', f = f' + 1 := ⟨f - 1, by omega⟩
      by_cases h32 : r[k].toNat = 32
      · have b32 : ((r[k].toNat : Int) == 32) = true := by rw [beq_iff_eq]; omega
        have HN := Lib.hid (HK.out.trans (toks_at_space r k f acc hlt h32))
        clear h32
        go_wp2
        exact ⟨⟨k + 1, f, acc, by rw [bl_len]; omega, by go_num, by rw [bl_len]; omega, by omega, hown, HN.out, hb⟩, by simp [intOf]; omega⟩
      · have b32 : ((r[k].toNat : Int) == 32) = false := by rw [beq_eq_false_iff_ne]; omega
        have hbad := toks_at_bad r k f acc hlt h32
        have hlong := toks_at_long r k f acc hlt h32
        have hgo := toks_at_go r k f acc hlt h32
        by_cases h46 : r[k].toNat = 46
        · have b46 : ((r[k].toNat : Int) == 46) = true := by rw [beq_iff_eq]; omega
          rw [oneTok_dot r k hlt h46] at hgo
          have HN := Lib.hid (HK.out.trans (hgo (by first | decide | (dsimp only; decide)) (by first | decide | (dsimp only; decide))))
          clear hbad hlong hgo h32 h46
          go_wp2_with (at_builtin; refine app_own Tryd.underlying35 tok_info rfl (by decide) (by decide) rfl _ _ rfl w.heap.size rfl (hown.alloc _) (tokCells 3 ⟨#[46]⟩ (k + 1)) rfl (heap_new1 _ _) rfl (tok_one _ _ _) ?_ ?_ ?_; omega; (simp; omega); intro a' cap' w2 hown' hgrow)
          exact ⟨⟨k + 1, f, acc ++ [⟨3, [46], k + 1⟩], by rw [bl_len]; omega, by go_num, by rw [bl_len]; omega, by simp; omega, tok_push _ rfl hown', HN.out, (hb.alloc hsz0 _).grown hgrow (by simp; omega) (fun g hg => (hown.lt g hg).1)⟩, by simp [intOf]; omega⟩
        · have b46 : ((r[k].toNat : Int) == 46) = false := by rw [beq_eq_false_iff_ne]; omega
          by_cases h38 : r[k].toNat = 38
          · have b38 : ((r[k].toNat : Int) == 38) = true := by rw [beq_iff_eq]; omega
            rw [oneTok_amp r k hlt h38] at hgo
            have HN := Lib.hid (HK.out.trans (hgo (by first | decide | (dsimp only; decide)) (by first | decide | (dsimp only; decide))))
            clear hbad hlong hgo h32 h46 h38
            go_wp2_with (at_builtin; refine app_own Tryd.underlying35 tok_info rfl (by decide) (by decide) rfl _ _ rfl w.heap.size rfl (hown.alloc _) (tokCells 5 ⟨#[38]⟩ (k + 1)) rfl (heap_new1 _ _) rfl (tok_one _ _ _) ?_ ?_ ?_; omega; (simp; omega); intro a' cap' w2 hown' hgrow)
            exact ⟨⟨k + 1, f, acc ++ [⟨5, [38], k + 1⟩], by rw [bl_len]; omega, by go_num, by rw [bl_len]; omega, by simp; omega, tok_push _ rfl hown', HN.out, (hb.alloc hsz0 _).grown hgrow (by simp; omega) (fun g hg => (hown.lt g hg).1)⟩, by simp [intOf]; omega⟩
          · have b38 : ((r[k].toNat : Int) == 38) = false := by rw [beq_eq_false_iff_ne]; omega
            by_cases h60 : r[k].toNat = 60
            · have b60 : ((r[k].toNat : Int) == 60) = true := by rw [beq_iff_eq]; omega
              by_cases hnx : k + 1 < r.size
              · by_cases h45 : r[k + 1].toNat = 45
                · have b45 : ((r[k + 1].toNat : Int) == 45) = true := by rw [beq_iff_eq]; omega
                  rw [oneTok_arrow r k hlt h60 hnx h45] at hgo
                  have HN := Lib.hid (HK.out.trans (hgo (by first | decide | (dsimp only; decide)) (by first | decide | (dsimp only; decide))))
                  clear hbad hlong hgo h32 h46 h38 h60 h45
                  go_wp2_with (at_builtin; refine app_own Tryd.underlying35 tok_info rfl (by decide) (by decide) rfl _ _ rfl w.heap.size rfl (hown.alloc _) (tokCells 4 ⟨#[60, 45]⟩ (k + 1)) rfl (heap_new1 _ _) rfl (tok_one _ _ _) ?_ ?_ ?_; omega; (simp; omega); intro a' cap' w2 hown' hgrow)
                  exact ⟨⟨k + 2, f, acc ++ [⟨4, [60, 45], k + 1⟩], by rw [bl_len]; omega, by go_num, by rw [bl_len]; omega, by simp; omega, tok_push _ rfl hown', HN.out, (hb.alloc hsz0 _).grown hgrow (by simp; omega) (fun g hg => (hown.lt g hg).1)⟩, by simp [intOf]; omega⟩
                · have b45 : ((r[k + 1].toNat : Int) == 45) = false := by rw [beq_eq_false_iff_ne]; omega
                  have hB : btw r[k].toNat 65 90 = false := by simp [btw]; omega
                  have hS : btw r[k].toNat 97 122 = false := by simp [btw]; omega
                  rw [oneTok_none r k hlt h46 h38 (fun x => h45 x.2.2) hB hS] at hbad
                  have HN := Lib.hid (HK.out.trans (hbad rfl))
                  clear hbad hlong hgo h32 h46 h38 h60 h45
                  go_wp2_with (first | (go_at_call 52; refine (ref2_big _ _).mono ?_; rintro e w' ⟨rfl, rfl⟩) | (go_at_call 53; refine (ref2_small _ _).mono ?_; rintro e w' ⟨rfl, rfl⟩) | (go_at_call 54; refine (ref2_figure _ _).mono ?_; rintro e w' ⟨rfl, rfl⟩))
                  go_ret3
                  rw [HT.out, ← HR.out, HN.out]
                  exact ⟨_, rfl, World.ownsRow_nil _ _ _ _, hb⟩
              · have hB : btw r[k].toNat 65 90 = false := by simp [btw]; omega
                have hS : btw r[k].toNat 97 122 = false := by simp [btw]; omega
                rw [oneTok_none r k hlt h46 h38 (fun x => hnx x.2.1) hB hS] at hbad
                have HN := Lib.hid (HK.out.trans (hbad rfl))
                clear hbad hlong hgo h32 h46 h38 h60
                go_wp2_with (first | (go_at_call 52; refine (ref2_big _ _).mono ?_; rintro e w' ⟨rfl, rfl⟩) | (go_at_call 53; refine (ref2_small _ _).mono ?_; rintro e w' ⟨rfl, rfl⟩) | (go_at_call 54; refine (ref2_figure _ _).mono ?_; rintro e w' ⟨rfl, rfl⟩))
                go_ret3
                rw [HT.out, ← HR.out, HN.out]
                exact ⟨_, rfl, World.ownsRow_nil _ _ _ _, hb⟩
            · have b60 : ((r[k].toNat : Int) == 60) = false := by rw [beq_eq_false_iff_ne]; omega
              cases hB : btw r[k].toNat 65 90 with
              | true =>
                rw [oneTok_big r k hlt hB] at hlong hgo
                clear hbad h32 h46 h38 h60
                go_wp2_with (first | (go_at_call 52; refine (ref2_big _ _).mono ?_; rintro e w' ⟨rfl, rfl⟩) | (go_at_call 53; refine (ref2_small _ _).mono ?_; rintro e w' ⟨rfl, rfl⟩) | (go_at_call 54; refine (ref2_figure _ _).mono ?_; rintro e w' ⟨rfl, rfl⟩))
                go_loop [9] (fun x => ∃ j : Nat, k ≤ j ∧ j ≤ r.size ∧ x = .int .i64 j ∧ ∀ c ∈ ((bl r).drop k).take (j - k), alnum c = true) (fun x => r.size - (intOf x).toNat)
                case atStart => exact ⟨k, by omega, by omega, rfl, by simp⟩
                case round =>
                  obtain ⟨j, hj1, hj2, rfl, hal⟩ := hrel
                  have HA := Lib.hid hal
                  clear hal
                  by_cases hjl : j < r.size
                  · have hat : ((bl r).drop k)[j - k]? = some r[j] := by
                      have := bl_at r k (j - k) (by omega)
                      simpa [show k + (j - k) = j by omega] using this
                    have hmore := fun ha => (word_more _ (j - k) _ HA.out hat ha : ∀ x ∈ ((bl r).drop k).take (j - k + 1), alnum x = true)
                    have hw := fun (ha : alnum r[j] = false) => word_at r k j hj1 hj2 HA.out (fun c h => by rw [hat] at h; cases h; exact ha)
                    have hpos : alnum r[j] = false → k < j := fun ha => by
                      rcases Nat.lt_or_ge k j with h | h
                      · exact h
                      · obtain rfl : k = j := by omega
                        rw [alnum_big hB] at ha
                        cases ha
                    rw [show j - k + 1 = j + 1 - k by omega] at hmore
                    clear hat
                    cases h1 : btw r[j].toNat 65 90 with
                    | true =>
                      have HM := Lib.hid (hmore (alnum_big h1))
                      clear hmore hw hpos hlong hgo
                      go_wp2_with (first | (go_at_call 52; refine (ref2_big _ _).mono ?_; rintro e w' ⟨rfl, rfl⟩) | (go_at_call 53; refine (ref2_small _ _).mono ?_; rintro e w' ⟨rfl, rfl⟩) | (go_at_call 54; refine (ref2_figure _ _).mono ?_; rintro e w' ⟨rfl, rfl⟩) | (at_builtin; refine app_own Tryd.underlying35 tok_info rfl (by decide) (by decide) rfl _ _ rfl w.heap.size rfl (hown.alloc _) (tokCells 1 (r.extract k j) (k + 1)) rfl (heap_new1 _ _) rfl (tok_one _ _ _) ?_ ?_ ?_; omega; (simp; omega); intro a' cap' w2 hown' hgrow))
                      exact ⟨⟨j + 1, by omega, by omega, by go_num, HM.out⟩, by simp [intOf]; omega⟩
                    | false =>
                      cases h2 : btw r[j].toNat 97 122 with
                      | true =>
                        have HM := Lib.hid (hmore (alnum_small h2))
                        clear hmore hw hpos hlong hgo
                        go_wp2_with (first | (go_at_call 52; refine (ref2_big _ _).mono ?_; rintro e w' ⟨rfl, rfl⟩) | (go_at_call 53; refine (ref2_small _ _).mono ?_; rintro e w' ⟨rfl, rfl⟩) | (go_at_call 54; refine (ref2_figure _ _).mono ?_; rintro e w' ⟨rfl, rfl⟩) | (at_builtin; refine app_own Tryd.underlying35 tok_info rfl (by decide) (by decide) rfl _ _ rfl w.heap.size rfl (hown.alloc _) (tokCells 1 (r.extract k j) (k + 1)) rfl (heap_new1 _ _) rfl (tok_one _ _ _) ?_ ?_ ?_; omega; (simp; omega); intro a' cap' w2 hown' hgrow))
                        exact ⟨⟨j + 1, by omega, by omega, by go_num, HM.out⟩, by simp [intOf]; omega⟩
                      | false =>
                        cases h3 : btw r[j].toNat 48 57 with
                        | true =>
                          have HM := Lib.hid (hmore (alnum_fig h3))
                          clear hmore hw hpos hlong hgo
                          go_wp2_with (first | (go_at_call 52; refine (ref2_big _ _).mono ?_; rintro e w' ⟨rfl, rfl⟩) | (go_at_call 53; refine (ref2_small _ _).mono ?_; rintro e w' ⟨rfl, rfl⟩) | (go_at_call 54; refine (ref2_figure _ _).mono ?_; rintro e w' ⟨rfl, rfl⟩) | (at_builtin; refine app_own Tryd.underlying35 tok_info rfl (by decide) (by decide) rfl _ _ rfl w.heap.size rfl (hown.alloc _) (tokCells 1 (r.extract k j) (k + 1)) rfl (heap_new1 _ _) rfl (tok_one _ _ _) ?_ ?_ ?_; omega; (simp; omega); intro a' cap' w2 hown' hgrow))
                          exact ⟨⟨j + 1, by omega, by omega, by go_num, HM.out⟩, by simp [intOf]; omega⟩
                        | false =>
                          have hno := alnum_none h1 h2 h3
                          replace hw := hw hno
                          replace hpos := fun (_ : 0 = 0) => hpos hno
                          clear hmore hno
                          obtain ⟨hn, hx⟩ := hw
                          have HX := Lib.hid hx
                          clear hx
                          by_cases h8 : 8 < j - k
                          · have b8 : decide (8 < (j : Int) - (k : Int)) = true := by simp; omega
                            have HN := Lib.hid (HK.out.trans (hlong (by first | decide | (dsimp only; decide)) (by first | omega | (dsimp only; omega))))
                            clear hlong hgo hn
                            go_wp2_with (first | (go_at_call 52; refine (ref2_big _ _).mono ?_; rintro e w' ⟨rfl, rfl⟩) | (go_at_call 53; refine (ref2_small _ _).mono ?_; rintro e w' ⟨rfl, rfl⟩) | (go_at_call 54; refine (ref2_figure _ _).mono ?_; rintro e w' ⟨rfl, rfl⟩) | (at_builtin; refine app_own Tryd.underlying35 tok_info rfl (by decide) (by decide) rfl _ _ rfl w.heap.size rfl (hown.alloc _) (tokCells 1 (r.extract k j) (k + 1)) rfl (heap_new1 _ _) rfl (tok_one _ _ _) ?_ ?_ ?_; omega; (simp; omega); intro a' cap' w2 hown' hgrow))
                            go_ret3
                            rw [HT.out, ← HR.out, HN.out]
                            exact ⟨_, rfl, World.ownsRow_nil _ _ _ _, hb⟩
                          · have b8 : decide (8 < (j : Int) - (k : Int)) = false := by simp; omega
                            have hg := HK.out.trans (hgo (by first | decide | (dsimp only; decide)) (by first | omega | (dsimp only; omega)))
                            try dsimp only at hg
                            rw [hn, show k + (j - k) = j by omega] at hg
                            have HN := Lib.hid hg
                            have hjk : k < j := hpos rfl
                            clear hlong hgo hn hg
                            go_wp2_with (first | (go_at_call 52; refine (ref2_big _ _).mono ?_; rintro e w' ⟨rfl, rfl⟩) | (go_at_call 53; refine (ref2_small _ _).mono ?_; rintro e w' ⟨rfl, rfl⟩) | (go_at_call 54; refine (ref2_figure _ _).mono ?_; rintro e w' ⟨rfl, rfl⟩) | (at_builtin; refine app_own Tryd.underlying35 tok_info rfl (by decide) (by decide) rfl _ _ rfl w.heap.size rfl (hown.alloc _) (tokCells 1 (r.extract k j) (k + 1)) rfl (heap_new1 _ _) rfl (tok_one _ _ _) ?_ ?_ ?_; omega; (simp; omega); intro a' cap' w2 hown' hgrow))
                            exact ⟨⟨j, f, acc ++ [⟨1, wordOf ((bl r).drop k), k + 1⟩], by rw [bl_len]; omega, rfl, by rw [bl_len]; omega, by simp; omega, tok_push _ (by simp [Tok.cells, HX.out]) hown', HN.out, (hb.alloc hsz0 _).grown hgrow (by simp; omega) (fun g hg => (hown.lt g hg).1)⟩, by simp [intOf]; omega⟩
                  · have hw := word_at r k j hj1 hj2 HA.out (fun c h => by rw [List.getElem?_eq_none (by rw [List.length_drop, bl_len]; omega)] at h; cases h)
                    have hpos : 0 = 0 → k < j := fun _ => by omega
                    obtain ⟨hn, hx⟩ := hw
                    have HX := Lib.hid hx
                    clear hx
                    by_cases h8 : 8 < j - k
                    · have b8 : decide (8 < (j : Int) - (k : Int)) = true := by simp; omega
                      have HN := Lib.hid (HK.out.trans (hlong (by first | decide | (dsimp only; decide)) (by first | omega | (dsimp only; omega))))
                      clear hlong hgo hn
                      go_wp2_with (first | (go_at_call 52; refine (ref2_big _ _).mono ?_; rintro e w' ⟨rfl, rfl⟩) | (go_at_call 53; refine (ref2_small _ _).mono ?_; rintro e w' ⟨rfl, rfl⟩) | (go_at_call 54; refine (ref2_figure _ _).mono ?_; rintro e w' ⟨rfl, rfl⟩) | (at_builtin; refine app_own Tryd.underlying35 tok_info rfl (by decide) (by decide) rfl _ _ rfl w.heap.size rfl (hown.alloc _) (tokCells 1 (r.extract k j) (k + 1)) rfl (heap_new1 _ _) rfl (tok_one _ _ _) ?_ ?_ ?_; omega; (simp; omega); intro a' cap' w2 hown' hgrow))
                      go_ret3
                      rw [HT.out, ← HR.out, HN.out]
                      exact ⟨_, rfl, World.ownsRow_nil _ _ _ _, hb⟩
                    · have b8 : decide (8 < (j : Int) - (k : Int)) = false := by simp; omega
                      have hg := HK.out.trans (hgo (by first | decide | (dsimp only; decide)) (by first | omega | (dsimp only; omega)))
                      try dsimp only at hg
                      rw [hn, show k + (j - k) = j by omega] at hg
                      have HN := Lib.hid hg
                      have hjk : k < j := hpos rfl
                      clear hlong hgo hn hg
                      go_wp2_with (first | (go_at_call 52; refine (ref2_big _ _).mono ?_; rintro e w' ⟨rfl, rfl⟩) | (go_at_call 53; refine (ref2_small _ _).mono ?_; rintro e w' ⟨rfl, rfl⟩) | (go_at_call 54; refine (ref2_figure _ _).mono ?_; rintro e w' ⟨rfl, rfl⟩) | (at_builtin; refine app_own Tryd.underlying35 tok_info rfl (by decide) (by decide) rfl _ _ rfl w.heap.size rfl (hown.alloc _) (tokCells 1 (r.extract k j) (k + 1)) rfl (heap_new1 _ _) rfl (tok_one _ _ _) ?_ ?_ ?_; omega; (simp; omega); intro a' cap' w2 hown' hgrow))
                      exact ⟨⟨j, f, acc ++ [⟨1, wordOf ((bl r).drop k), k + 1⟩], by rw [bl_len]; omega, rfl, by rw [bl_len]; omega, by simp; omega, tok_push _ (by simp [Tok.cells, HX.out]) hown', HN.out, (hb.alloc hsz0 _).grown hgrow (by simp; omega) (fun g hg => (hown.lt g hg).1)⟩, by simp [intOf]; omega⟩
              | false =>
                cases hS : btw r[k].toNat 97 122 with
                | true =>
                  rw [oneTok_small r k hlt hS] at hlong hgo
                  clear hbad h32 h46 h38 h60
                  go_wp2_with (first | (go_at_call 52; refine (ref2_big _ _).mono ?_; rintro e w' ⟨rfl, rfl⟩) | (go_at_call 53; refine (ref2_small _ _).mono ?_; rintro e w' ⟨rfl, rfl⟩) | (go_at_call 54; refine (ref2_figure _ _).mono ?_; rintro e w' ⟨rfl, rfl⟩))
                  go_loop [9] (fun x => ∃ j : Nat, k ≤ j ∧ j ≤ r.size ∧ x = .int .i64 j ∧ ∀ c ∈ ((bl r).drop k).take (j - k), alnum c = true) (fun x => r.size - (intOf x).toNat)
                  case atStart => exact ⟨k, by omega, by omega, rfl, by simp⟩
                  case round =>
                    obtain ⟨j, hj1, hj2, rfl, hal⟩ := hrel
                    have HA := Lib.hid hal
                    clear hal
                    by_cases hjl : j < r.size
                    · have hat : ((bl r).drop k)[j - k]? = some r[j] := by
                        have := bl_at r k (j - k) (by omega)
                        simpa [show k + (j - k) = j by omega] using this
                      have hmore := fun ha => (word_more _ (j - k) _ HA.out hat ha : ∀ x ∈ ((bl r).drop k).take (j - k + 1), alnum x = true)
                      have hw := fun (ha : alnum r[j] = false) => word_at r k j hj1 hj2 HA.out (fun c h => by rw [hat] at h; cases h; exact ha)
                      have hpos : alnum r[j] = false → k < j := fun ha => by
                        rcases Nat.lt_or_ge k j with h | h
                        · exact h
                        · obtain rfl : k = j := by omega
                          rw [alnum_small hS] at ha
                          cases ha
                      rw [show j - k + 1 = j + 1 - k by omega] at hmore
                      clear hat
                      cases h1 : btw r[j].toNat 65 90 with
                      | true =>
                        have HM := Lib.hid (hmore (alnum_big h1))
                        clear hmore hw hpos hlong hgo
                        go_wp2_with (first | (go_at_call 52; refine (ref2_big _ _).mono ?_; rintro e w' ⟨rfl, rfl⟩) | (go_at_call 53; refine (ref2_small _ _).mono ?_; rintro e w' ⟨rfl, rfl⟩) | (go_at_call 54; refine (ref2_figure _ _).mono ?_; rintro e w' ⟨rfl, rfl⟩) | (at_builtin; refine app_own Tryd.underlying35 tok_info rfl (by decide) (by decide) rfl _ _ rfl w.heap.size rfl (hown.alloc _) (tokCells 2 (r.extract k j) (k + 1)) rfl (heap_new1 _ _) rfl (tok_one _ _ _) ?_ ?_ ?_; omega; (simp; omega); intro a' cap' w2 hown' hgrow))
                        exact ⟨⟨j + 1, by omega, by omega, by go_num, HM.out⟩, by simp [intOf]; omega⟩
                      | false =>
                        cases h2 : btw r[j].toNat 97 122 with
                        | true =>
                          have HM := Lib.hid (hmore (alnum_small h2))
                          clear hmore hw hpos hlong hgo
                          go_wp2_with (first | (go_at_call 52; refine (ref2_big _ _).mono ?_; rintro e w' ⟨rfl, rfl⟩) | (go_at_call 53; refine (ref2_small _ _).mono ?_; rintro e w' ⟨rfl, rfl⟩) | (go_at_call 54; refine (ref2_figure _ _).mono ?_; rintro e w' ⟨rfl, rfl⟩) | (at_builtin; refine app_own Tryd.underlying35 tok_info rfl (by decide) (by decide) rfl _ _ rfl w.heap.size rfl (hown.alloc _) (tokCells 2 (r.extract k j) (k + 1)) rfl (heap_new1 _ _) rfl (tok_one _ _ _) ?_ ?_ ?_; omega; (simp; omega); intro a' cap' w2 hown' hgrow))
                          exact ⟨⟨j + 1, by omega, by omega, by go_num, HM.out⟩, by simp [intOf]; omega⟩
                        | false =>
                          cases h3 : btw r[j].toNat 48 57 with
                          | true =>
                            have HM := Lib.hid (hmore (alnum_fig h3))
                            clear hmore hw hpos hlong hgo
                            go_wp2_with (first | (go_at_call 52; refine (ref2_big _ _).mono ?_; rintro e w' ⟨rfl, rfl⟩) | (go_at_call 53; refine (ref2_small _ _).mono ?_; rintro e w' ⟨rfl, rfl⟩) | (go_at_call 54; refine (ref2_figure _ _).mono ?_; rintro e w' ⟨rfl, rfl⟩) | (at_builtin; refine app_own Tryd.underlying35 tok_info rfl (by decide) (by decide) rfl _ _ rfl w.heap.size rfl (hown.alloc _) (tokCells 2 (r.extract k j) (k + 1)) rfl (heap_new1 _ _) rfl (tok_one _ _ _) ?_ ?_ ?_; omega; (simp; omega); intro a' cap' w2 hown' hgrow))
                            exact ⟨⟨j + 1, by omega, by omega, by go_num, HM.out⟩, by simp [intOf]; omega⟩
                          | false =>
                            have hno := alnum_none h1 h2 h3
                            replace hw := hw hno
                            replace hpos := fun (_ : 0 = 0) => hpos hno
                            clear hmore hno
                            obtain ⟨hn, hx⟩ := hw
                            have HX := Lib.hid hx
                            clear hx
                            by_cases h8 : 8 < j - k
                            · have b8 : decide (8 < (j : Int) - (k : Int)) = true := by simp; omega
                              have HN := Lib.hid (HK.out.trans (hlong (by first | decide | (dsimp only; decide)) (by first | omega | (dsimp only; omega))))
                              clear hlong hgo hn
                              go_wp2_with (first | (go_at_call 52; refine (ref2_big _ _).mono ?_; rintro e w' ⟨rfl, rfl⟩) | (go_at_call 53; refine (ref2_small _ _).mono ?_; rintro e w' ⟨rfl, rfl⟩) | (go_at_call 54; refine (ref2_figure _ _).mono ?_; rintro e w' ⟨rfl, rfl⟩) | (at_builtin; refine app_own Tryd.underlying35 tok_info rfl (by decide) (by decide) rfl _ _ rfl w.heap.size rfl (hown.alloc _) (tokCells 2 (r.extract k j) (k + 1)) rfl (heap_new1 _ _) rfl (tok_one _ _ _) ?_ ?_ ?_; omega; (simp; omega); intro a' cap' w2 hown' hgrow))
                              go_ret3
                              rw [HT.out, ← HR.out, HN.out]
                              exact ⟨_, rfl, World.ownsRow_nil _ _ _ _, hb⟩
                            · have b8 : decide (8 < (j : Int) - (k : Int)) = false := by simp; omega
                              have hg := HK.out.trans (hgo (by first | decide | (dsimp only; decide)) (by first | omega | (dsimp only; omega)))
                              try dsimp only at hg
                              rw [hn, show k + (j - k) = j by omega] at hg
                              have HN := Lib.hid hg
                              have hjk : k < j := hpos rfl
                              clear hlong hgo hn hg
                              go_wp2_with (first | (go_at_call 52; refine (ref2_big _ _).mono ?_; rintro e w' ⟨rfl, rfl⟩) | (go_at_call 53; refine (ref2_small _ _).mono ?_; rintro e w' ⟨rfl, rfl⟩) | (go_at_call 54; refine (ref2_figure _ _).mono ?_; rintro e w' ⟨rfl, rfl⟩) | (at_builtin; refine app_own Tryd.underlying35 tok_info rfl (by decide) (by decide) rfl _ _ rfl w.heap.size rfl (hown.alloc _) (tokCells 2 (r.extract k j) (k + 1)) rfl (heap_new1 _ _) rfl (tok_one _ _ _) ?_ ?_ ?_; omega; (simp; omega); intro a' cap' w2 hown' hgrow))
                              exact ⟨⟨j, f, acc ++ [⟨2, wordOf ((bl r).drop k), k + 1⟩], by rw [bl_len]; omega, rfl, by rw [bl_len]; omega, by simp; omega, tok_push _ (by simp [Tok.cells, HX.out]) hown', HN.out, (hb.alloc hsz0 _).grown hgrow (by simp; omega) (fun g hg => (hown.lt g hg).1)⟩, by simp [intOf]; omega⟩
                    · have hw := word_at r k j hj1 hj2 HA.out (fun c h => by rw [List.getElem?_eq_none (by rw [List.length_drop, bl_len]; omega)] at h; cases h)
                      have hpos : 0 = 0 → k < j := fun _ => by omega
                      obtain ⟨hn, hx⟩ := hw
                      have HX := Lib.hid hx
                      clear hx
                      by_cases h8 : 8 < j - k
                      · have b8 : decide (8 < (j : Int) - (k : Int)) = true := by simp; omega
                        have HN := Lib.hid (HK.out.trans (hlong (by first | decide | (dsimp only; decide)) (by first | omega | (dsimp only; omega))))
                        clear hlong hgo hn
                        go_wp2_with (first | (go_at_call 52; refine (ref2_big _ _).mono ?_; rintro e w' ⟨rfl, rfl⟩) | (go_at_call 53; refine (ref2_small _ _).mono ?_; rintro e w' ⟨rfl, rfl⟩) | (go_at_call 54; refine (ref2_figure _ _).mono ?_; rintro e w' ⟨rfl, rfl⟩) | (at_builtin; refine app_own Tryd.underlying35 tok_info rfl (by decide) (by decide) rfl _ _ rfl w.heap.size rfl (hown.alloc _) (tokCells 2 (r.extract k j) (k + 1)) rfl (heap_new1 _ _) rfl (tok_one _ _ _) ?_ ?_ ?_; omega; (simp; omega); intro a' cap' w2 hown' hgrow))
                        go_ret3
                        rw [HT.out, ← HR.out, HN.out]
                        exact ⟨_, rfl, World.ownsRow_nil _ _ _ _, hb⟩
                      · have b8 : decide (8 < (j : Int) - (k : Int)) = false := by simp; omega
                        have hg := HK.out.trans (hgo (by first | decide | (dsimp only; decide)) (by first | omega | (dsimp only; omega)))
                        try dsimp only at hg
                        rw [hn, show k + (j - k) = j by omega] at hg
                        have HN := Lib.hid hg
                        have hjk : k < j := hpos rfl
                        clear hlong hgo hn hg
                        go_wp2_with (first | (go_at_call 52; refine (ref2_big _ _).mono ?_; rintro e w' ⟨rfl, rfl⟩) | (go_at_call 53; refine (ref2_small _ _).mono ?_; rintro e w' ⟨rfl, rfl⟩) | (go_at_call 54; refine (ref2_figure _ _).mono ?_; rintro e w' ⟨rfl, rfl⟩) | (at_builtin; refine app_own Tryd.underlying35 tok_info rfl (by decide) (by decide) rfl _ _ rfl w.heap.size rfl (hown.alloc _) (tokCells 2 (r.extract k j) (k + 1)) rfl (heap_new1 _ _) rfl (tok_one _ _ _) ?_ ?_ ?_; omega; (simp; omega); intro a' cap' w2 hown' hgrow))
                        exact ⟨⟨j, f, acc ++ [⟨2, wordOf ((bl r).drop k), k + 1⟩], by rw [bl_len]; omega, rfl, by rw [bl_len]; omega, by simp; omega, tok_push _ (by simp [Tok.cells, HX.out]) hown', HN.out, (hb.alloc hsz0 _).grown hgrow (by simp; omega) (fun g hg => (hown.lt g hg).1)⟩, by simp [intOf]; omega⟩
                | false =>
                  rw [oneTok_none r k hlt h46 h38 (fun x => h60 x.1) hB hS] at hbad
                  have HN := Lib.hid (HK.out.trans (hbad rfl))
                  clear hbad hlong hgo h32 h46 h38 h60
                  go_wp2_with (first | (go_at_call 52; refine (ref2_big _ _).mono ?_; rintro e w' ⟨rfl, rfl⟩) | (go_at_call 53; refine (ref2_small _ _).mono ?_; rintro e w' ⟨rfl, rfl⟩) | (go_at_call 54; refine (ref2_figure _ _).mono ?_; rintro e w' ⟨rfl, rfl⟩))
                  go_ret3
                  rw [HT.out, ← HR.out, HN.out]
                  exact ⟨_, rfl, World.ownsRow_nil _ _ _ _, hb⟩
    · have HN := Lib.hid (HK.out.trans (toks_at_end r k f acc hlt))
      go_wp2
      go_ret3
      rw [HT.out, ← HR.out, HN.out]
      exact ⟨u6, rfl, hown, hb⟩
theorem ref2_Tokens_any (s : ByteArray) (w : World) (hs : s.size ≤ 9223372036854775807) : Calls Tryd.prog 15 #[.string s] w (TokPost (tokens (bl s)) w) := by
  by_cases h : s.size ≤ 200
  · exact ref2_Tokens s w h
  · have HT := Lib.hid (tokens_long s h)
    have h200 : decide (200 < (s.size : Int)) = true := by simp; omega
    clear h
    go_enter Tryd.func15, Tryd.ntmps15
    go_wp2
    go_ret3
    rw [HT.out]
    exact ⟨_, rfl, World.ownsRow_nil _ _ _ _, Below.refl _ _⟩
end Go.Proofs.YtedkkegjiikcmaaDoor
namespace Go.Proofs.YtedkkegjiikcmaaDoor
open Go.RowKit Go.Shelf

theorem own_mono {w : World} {B B' size n : Nat} {e : TypeId} {v : Value} {xs : List Value} (h : w.ownsRow B e size v n xs) (hb : B' ≤ B) : w.ownsRow B' e size v n xs := by
  refine ⟨h.1, ?_⟩
  rcases h.2 with h2 | ⟨g, cap, cur, h1, h2, h3⟩
  · exact .inl h2
  · exact .inr ⟨g, cap, cur, h1, Nat.le_trans hb h2, h3⟩
end Go.Proofs.YtedkkegjiikcmaaDoor
namespace Go.Proofs.YtedkkegjiikcmaaDoor
open Go.RowKit Go.Shelf

set_option maxRecDepth 100000 in
set_option maxHeartbeats 4000000 in
theorem ref1_PutO (va : Value) (l : List ByteArray) (s : ByteArray) (w : World) (ha : SlA w 1 va l.length (strs l)) (hn : l.length ≤ 100000) :
    Calls Tryd.prog 50 #[va, .string s] w fun e w' => ∃ v, e = .returned v ∧ ((v = va ∧ insSB l s = l) ∨ w'.ownsRow w.heap.size 9 1 v (insSB l s).length (strs (insSB l s))) ∧ Below w.heap.size w w' := by
  have HA := Lib.hid ha
  have HH := Lib.hid (ref1_HasB va l s w ha)
  have IY := Lib.hid (fun h => insS_hasB (l := l) (x := s) h)
  have IN := Lib.hid (fun h => insS_notB (l := l) (x := s) h)
  have NE := Lib.hid (fun (h : hasB l s = false) k (hk : k < l.length) => show ¬ l[k] = s from fun e => absurd (hasB_yes hk e) (by rw [h]; exact Bool.false_ne_true))
  generalize hasB l s = b at HH IY IN NE
  have hmax := ha.max
  obtain ⟨ao, cap, hva⟩ := ha.form
  subst hva
  clear ha
  go_enter Tryd.func50, Tryd.ntmps50
  go_wp2_with fail
  refine HH.out.mono ?_
  rintro e w1 ⟨rfl, rfl⟩
  cases b with
  | true =>
    go_wp2
    go_ret
    exact ⟨_, rfl, .inl ⟨rfl, IY.out (by first | rfl | trivial)⟩, Below.refl _ _⟩
  | false =>
    obtain ⟨wA, hwA⟩ : ∃ wA, wA = w1 := ⟨_, rfl⟩
    subst hwA
    have INS := Lib.hid (IN.out rfl)
    have NEQ := Lib.hid (NE.out rfl)
    clear IY IN NE
    go_wp2_with fail
    go_loopw [5, 6, 15] (fun vo dv i wr => ∃ (k : Nat) (d : Bool) (ss : List ByteArray), k ≤ l.length ∧ i = .int .i64 k ∧ dv = .bool d ∧ Hid (PutI l s k d ss) ∧ Hid (Below wA.heap.size wA wr) ∧ Hid (wr.ownsRow wA.heap.size 9 1 vo ss.length (strs ss))) (fun _ _ i _ => l.length - (intOf i).toNat)
    case atStart => exact ⟨0, false, [], by omega, rfl, rfl, Lib.hid (PutI.start l s), Lib.hid (Below.refl _ _), Lib.hid (World.ownsRow_nil _ _ _ _)⟩
    case round =>
      obtain ⟨k, d, ss, hk, rfl, rfl, HC, HB, HO⟩ := hrel
      obtain ⟨oo, oc, rfl⟩ := own_form HO.out
      have hss : ss.length ≤ 100002 := by have := HC.out.len; omega
      by_cases hlt : k < l.length
      · obtain ⟨b1, o1, c1, he1, hc1, hm1, hb1, hx1⟩ := HA.out.pos (by omega)
        simp only [Value.slice.injEq, true_and] at he1
        obtain ⟨rfl, rfl⟩ := he1
        have p0 := (HB.out.cell (p := ⟨b1, o1 + k, none⟩) hb1).trans (hx1 k _ (strs_get hlt))
        have hbr : b1 < wr.heap.size := Nat.lt_of_lt_of_le hb1 HB.out.size
        have PY := Lib.hid (fun (h : PutI l s k true ss) => h.yes hlt)
        have PN := Lib.hid (fun (h : PutI l s k false ss) e => h.no hlt (NEQ.out k hlt) e)
        have PP := Lib.hid (fun (h : PutI l s k false ss) e => h.put hlt e)
        clear hx1
        generalize l[k] = x at *
        cases d with
        | true =>
          have HC' := HC.out
          have hown := HO.out
          go_wp2_with (at_builtin; refine halt_ ?_)
          unfold Halt_
          refine app_own Tryd.underlying22 str_info rfl (by decide) (by decide) rfl _ _ rfl wA.heap.size rfl (hown.alloc _) [.string x] rfl (heap_new1 _ _) rfl (str1 _) ?_ ?_ ?_
          · omega
          · have := HB.out.size; simp; omega
          intro a' cap' w3 hown' hgrow
          obtain ⟨q1, q2⟩ := own_push (x := x) HB.out hown hown' hgrow
          have HO1 := Lib.hid q1
          have HB1 := Lib.hid q2
          clear hown hown' hgrow q1 q2
          go_wp2_with fail
          exact ⟨⟨k + 1, true, ss ++ [x], by omega, by go_num, rfl, Lib.hid (PY.out HC'), HB1, HO1⟩, by simp [intOf]; omega⟩
        | false =>
          have HC' := HC.out
          cases hbl : Op.bytesLess s.toList x.toList with
          | false =>
            have hown := HO.out
            go_wp2_with (at_builtin; refine halt_ ?_)
            unfold Halt_
            refine app_own Tryd.underlying22 str_info rfl (by decide) (by decide) rfl _ _ rfl wA.heap.size rfl (hown.alloc _) [.string x] rfl (heap_new1 _ _) rfl (str1 _) ?_ ?_ ?_
            · omega
            · have := HB.out.size; simp; omega
            intro a' cap' w3 hown' hgrow
            obtain ⟨q1, q2⟩ := own_push (x := x) HB.out hown hown' hgrow
            have HO1 := Lib.hid q1
            have HB1 := Lib.hid q2
            clear hown hown' hgrow q1 q2
            go_wp2_with fail
            exact ⟨⟨k + 1, false, ss ++ [x], by omega, by go_num, rfl, Lib.hid (PN.out HC' hbl), HB1, HO1⟩, by simp [intOf]; omega⟩
          | true =>
            have hown := HO.out
            go_wp2_with (at_builtin; refine halt_ ?_)
            unfold Halt_
            refine app_own Tryd.underlying22 str_info rfl (by decide) (by decide) rfl _ _ rfl wA.heap.size rfl (hown.alloc _) [.string s] rfl (heap_new1 _ _) rfl (str1 _) ?_ ?_ ?_
            · omega
            · have := HB.out.size; simp; omega
            intro a' cap' w3 hown' hgrow
            obtain ⟨q1, q2⟩ := own_push (x := s) HB.out hown hown' hgrow
            have HO1 := Lib.hid q1
            have HB1 := Lib.hid q2
            clear hown hown' hgrow q1 q2
            have hown := HO1.out
            go_wp2_with (at_builtin; refine halt_ ?_)
            unfold Halt_
            refine app_own Tryd.underlying22 str_info rfl (by decide) (by decide) rfl _ _ rfl wA.heap.size rfl (hown.alloc _) [.string x] rfl (heap_new1 _ _) rfl (str1 _) ?_ ?_ ?_
            · (simp only [List.length_append, List.length_cons, List.length_nil]; omega)
            · have := HB1.out.size; simp; omega
            intro a' cap' w3 hown' hgrow
            obtain ⟨q1, q2⟩ := own_push (x := x) HB1.out hown hown' hgrow
            have HO2 := Lib.hid q1
            have HB2 := Lib.hid q2
            clear hown hown' hgrow q1 q2
            go_wp2_with fail
            refine ⟨⟨k + 1, true, ss ++ [s] ++ [x], by omega, by go_num, rfl, Lib.hid (PP.out HC' hbl), HB2, Lib.hid (by have h := HO2.out; rw [show (ss ++ [s]).length + 1 = ss.length + 1 + 1 by simp] at h; exact h)⟩, by simp [intOf]; omega⟩
      · cases d with
        | true =>
          have HC' := HC.out
          have HSL := Lib.hid (Sl.of_own HO.out).a
          have HSO := Lib.hid (HO.out)
          go_wp2
          go_ret
          exact ⟨_, rfl, .inr (by rw [INS.out, ← HC'.endT (by omega)]; exact HSO.out), HB.out⟩
        | false =>
          have HC' := HC.out
          have hown := HO.out
          go_wp2_with (at_builtin; refine halt_ ?_)
          unfold Halt_
          refine app_own Tryd.underlying22 str_info rfl (by decide) (by decide) rfl _ _ rfl wA.heap.size rfl (hown.alloc _) [.string s] rfl (heap_new1 _ _) rfl (str1 _) ?_ ?_ ?_
          · omega
          · have := HB.out.size; simp; omega
          intro a' cap' w3 hown' hgrow
          obtain ⟨q1, q2⟩ := own_push (x := s) HB.out hown hown' hgrow
          have HO1 := Lib.hid q1
          have HB1 := Lib.hid q2
          clear hown hown' hgrow q1 q2
          have HSL := Lib.hid (Sl.of_own HO1.out).a
          have HSO := Lib.hid (HO1.out)
          go_wp2
          go_ret
          exact ⟨_, rfl, .inr (by rw [INS.out, ← HC'.endF (by omega)]; exact HSO.out), HB1.out⟩

end Go.Proofs.YtedkkegjiikcmaaDoor
