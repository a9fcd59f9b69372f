/- crupperref13.Decide; crupperref04.Universal, Same. crupperlaw13.lives. -/
import Derived.Test.YtcmdhfccdkjenaaGreatDoorPart20
namespace Go.Proofs.YtcmdhfccdkjenaaGreatDoor
open Go.RowKit Go.Shelf

theorem ref4_Universal (k : Int) (w : World) : Calls Tryz.prog 104 #[.int .i64 k] w fun e w' => e = .returned (.bool (univB k)) ∧ w' = w := by
 have R := Lib.hid (show univB k = (decide (k = 1) || decide (k = 3) || decide (k = 5) || decide (k = 6)) from rfl)
 generalize univB k = r at *
 go_enter Tryz.func104, Tryz.ntmps104
 by_cases h1 : k = 1
 ·have d1 : (k == 1) = true := by simp [h1]
  have R2 := Lib.hid (show r = true by rw [R.out, decide_eq_true h1]; rfl)
  clear h1
  go_wp2
  go_ret
  exact ⟨ret_b R2.out.symm, rfl⟩
 have d1 : (k == 1) = false := by simp [h1]
 by_cases h3 : k = 3
 ·have d3 : (k == 3) = true := by simp [h3]
  have R2 := Lib.hid (show r = true by rw [R.out, decide_eq_true h3, Bool.or_true]; rfl)
  clear h1 h3
  go_wp2
  go_ret
  exact ⟨ret_b R2.out.symm, rfl⟩
 have d3 : (k == 3) = false := by simp [h3]
 by_cases h5 : k = 5
 ·have d5 : (k == 5) = true := by simp [h5]
  have R2 := Lib.hid (show r = true by rw [R.out, decide_eq_true h5, Bool.or_true]; rfl)
  clear h1 h3 h5
  go_wp2
  go_ret
  exact ⟨ret_b R2.out.symm, rfl⟩
 have d5 : (k == 5) = false := by simp [h5]
 by_cases h6 : k = 6
 ·have d6 : (k == 6) = true := by simp [h6]
  have R2 := Lib.hid (show r = true by rw [R.out, decide_eq_true h6, Bool.or_true])
  clear h1 h3 h5 h6
  go_wp2
  go_ret
  exact ⟨ret_b R2.out.symm, rfl⟩
 ·have d6 : (k == 6) = false := by simp [h6]
  have R2 := Lib.hid (show r = false by rw [R.out, decide_eq_false h1, decide_eq_false h3, decide_eq_false h5, decide_eq_false h6]; rfl)
  clear h1 h3 h5 h6
  go_wp2
  go_ret
  exact ⟨ret_b R2.out.symm, rfl⟩
theorem ref4_Univ {k : Int} {b : Bool} (hu : univB k = b) (w : World) : Calls Tryz.prog 104 #[.int .i64 k] w fun e w' => e = .returned (.bool b) ∧ w' = w := by
 rw [← hu]; exact ref4_Universal k w
def DecR (S : List St) (q : Qv) (us : List ByteArray) (e : Ending) (w' : World) : Prop := ∃ (a : Option Addr) (c : Nat) (T : List St) (ps : List Pr), e = .returned (.tuple #[.int .i64 (kindV (univB q.k) (satQ (membersP ps) q us)), .slice a T.length c]) ∧ LeastS S (fun r x => (r, x) ∈ ps) ∧ SlA w' 9 (.slice a T.length c) T.length (T.flatMap St.cells) ∧ T = if univB q.k = satQ (membersP ps) q us then [] else S
set_option maxRecDepth 100000 in
set_option maxHeartbeats 8000000 in
theorem ref13_Decide1 (v0 v1 v2 v3 : Value) (l : List St) (g h : List Rl) (qs : List Qv) (q : Qv) (us PS NS : List ByteArray) (w : World) (P : SimIn w v0 v1 v2 v3 l g h qs q us PS NS) (p6 : PS.length ≤ 6) (n4 : NS.length ≤ 4) (hk : q.k = 1) :
  Calls Tryz.prog 34 #[pv v0 v1 v2 v3, qv q] w fun e w' => DecR (minS l h) q us e w' ∧ Below w.heap.size w w' := by
 have HP := Lib.hid P
 have FEW := Lib.hid (P.decFew p6 n4)
 rw [hk, show decS 1 l g h PS NS = (minS l h) from if_pos (by decide)] at FEW
 obtain ⟨a0, c0, rfl⟩ := P.at_.rs.form
 obtain ⟨a1, c1, rfl⟩ := P.at_.rg.form
 obtain ⟨a2, c2, rfl⟩ := P.at_.rh.form
 obtain ⟨a3, c3, rfl⟩ := P.at_.rq.form
 obtain ⟨xk, ⟨x1, x2⟩, ⟨x3, x4⟩, wv⟩ := q
 dsimp only at hk
 obtain ⟨wo, wc, e1⟩ := P.hu.form
 dsimp only at e1
 subst hk e1
 clear P
 have HT := Lib.hid (show TwoAt w #[.slice a0 l.length c0, .slice a1 g.length c1, .slice a2 h.length c2, .slice a3 qs.length c3] #[.int .i64 1, .string x1, .string x2, .string x3, .string x4, .slice wo us.length wc] ((w.alloc (.cells #[.slice a0 l.length c0, .slice a1 g.length c1, .slice a2 h.length c2, .slice a3 qs.length c3] 26)).alloc (.cells #[.int .i64 1, .string x1, .string x2, .string x3, .string x4, .slice wo us.length wc] 45))
  from ⟨(Blk.new w _ _).alloc _, (by have := Blk.new (w.alloc (.cells #[.slice a0 l.length c0, .slice a1 g.length c1, .slice a2 h.length c2, .slice a3 qs.length c3] 26)) #[.int .i64 1, .string x1, .string x2, .string x3, .string x4, .slice wo us.length wc] 45; simpa using this), ((Below.refl _ _).alloc (Nat.le_refl _) _).alloc (by simp) _⟩)
 go_enter Tryz.func34, Tryz.ntmps34
 go_upto_region 1 with fail
 obtain ⟨w3, hw3⟩ : ∃ W, W = ((w.alloc (.cells #[.slice a0 l.length c0, .slice a1 g.length c1, .slice a2 h.length c2, .slice a3 qs.length c3] 26)).alloc (.cells #[.int .i64 1, .string x1, .string x2, .string x3, .string x4, .slice wo us.length wc] 45)) := ⟨_, rfl⟩
 rw [← hw3] at HT ⊢
 clear hw3
 obtain ⟨ca, fa, za⟩ := HT.out.a
 obtain ⟨cb, fb, zb⟩ := HT.out.b
 go_upto_region 2 with fail
 have HQ : Hid (SlA ((w3.setCell ⟨w.heap.size, 3, none⟩ (.slice (some ⟨w3.heap.size, 0, none⟩) 1 1)).alloc (.cells #[.int .i64 1, .string x1, .string x2, .string x3, .string x4, .slice wo us.length wc] 45)) 6 (.slice (some ⟨w3.heap.size, 0, none⟩) 1 1) 1 [.int .i64 1, .string x1, .string x2, .string x3, .string x4, .slice wo us.length wc]) :=
  Lib.hid (Sl.new _ [.int .i64 1, .string x1, .string x2, .string x3, .string x4, .slice wo us.length wc] 45 6 1 w3.heap.size (by simp [World.setCell]) rfl (by decide)).a
 have HT := Lib.hid ((HT.out.put3 (.slice (some ⟨w3.heap.size, 0, none⟩) 1 1)).alloc (.cells #[.int .i64 1, .string x1, .string x2, .string x3, .string x4, .slice wo us.length wc] 45))
 clear ca fa za cb fb zb
 generalize ha3 : (some ⟨w3.heap.size, 0, none⟩ : Option Addr) = ad at *
 obtain ⟨w4, hw4⟩ : ∃ W, W = (w3.setCell ⟨w.heap.size, 3, none⟩ (.slice ad 1 1)).alloc (.cells #[.int .i64 1, .string x1, .string x2, .string x3, .string x4, .slice wo us.length wc] 45) := ⟨_, rfl⟩
 rw [← hw4] at HQ HT ⊢
 clear hw4 ha3
 have HPX := Lib.hid (HP.out.polx HT.out.low HQ.out)
 have RT := Lib.hid (ref5_RightL (.slice a0 l.length c0) (.slice a1 g.length c1) (.slice a2 h.length c2) (.slice ad 1 1) l g h [⟨1, ⟨x1, x2⟩, ⟨x3, x4⟩, .slice wo us.length wc⟩] w4 HPX.out.at_ HP.out.hl HP.out.hg HP.out.hh (by simp) HP.out.l40 (fun _ => us) HPX.out.hF (fun _ _ => HP.out.uz))
 obtain ⟨ca, fa, za⟩ := HT.out.a
 go_wp2_with fail
 refine RT.out.mono ?_
 rintro e w5 ⟨⟨br, rfl, hri⟩, hb5⟩
 obtain rfl : br = true := hri.2 HP.out.right
 have HT := Lib.hid (HT.out.later hb5)
 have HPX := Lib.hid (HPX.out.below hb5)
 clear hb5 hri RT ca fa za HQ
 obtain ⟨ca, fa, za⟩ := HT.out.a
 obtain ⟨cb, fb, zb⟩ := HT.out.b
 go_wp2_with fail
 refine (ref11_Minimal (.slice a0 l.length c0) (.slice a1 g.length c1) (.slice a2 h.length c2) (.slice ad 1 1) l g h [⟨1, ⟨x1, x2⟩, ⟨x3, x4⟩, .slice wo us.length wc⟩] w5 HPX.out.at_ (by have := HPX.out.hl; omega)).mono ?_
 rintro e w6 ⟨v6, rfl, hs6, hb6⟩
 obtain ⟨a6, c6, rfl⟩ := hs6.form
 have HT := Lib.hid (HT.out.later hb6)
 have HPX := Lib.hid (HPX.out.below hb6)
 have HST := Lib.hid hs6
 clear hs6 hb6 ca fa za cb fb zb
 obtain ⟨ca, fa, za⟩ := HT.out.a
 obtain ⟨cb, fb, zb⟩ := HT.out.b
 go_wp2_with fail
 refine (ref13_In _ (minS l h) 900 ⟨1, ⟨x1, x2⟩, ⟨x3, x4⟩, .slice wo us.length wc⟩ us w6 HST.out (by omega) FEW.out (HP.out.hu.below HT.out.low)).mono ?_
 rintro e w8 ⟨ps, rfl, hle, hb8⟩
 have HT := Lib.hid (HT.out.later hb8)
 have HST := Lib.hid (HST.out.below hb8)
 have HLE := Lib.hid hle
 obtain ⟨ok, hok⟩ : ∃ b, b = satQ (membersP ps) ⟨1, ⟨x1, x2⟩, ⟨x3, x4⟩, .slice wo us.length wc⟩ us := ⟨_, rfl⟩
 rw [← hok]
 have HOK := Lib.hid hok
 clear hle hok hb8 cb fb zb
 obtain ⟨cb, fb, zb⟩ := HT.out.b
 go_wp2_with fail
 refine (ref4_Univ (k := 1) (b := true) rfl w8).mono ?_
 rintro e w9 ⟨rfl, rfl⟩
 clear cb fb zb FEW HPX
 cases ok with
 | false =>
  go_wp2
  refine bodyPost_ret (v := .tuple #[.int .i64 2, .slice a6 (minS l h).length c6]) (by simp [results, Tryz.results34, go_sem]) rfl ⟨⟨a6, c6, (minS l h), ps, ?_, HLE.out, HST.out, ?_⟩, HT.out.low⟩
  ·show _ = Ending.returned (.tuple #[.int .i64 (kindV (univB 1) (satQ (membersP ps) ⟨1, ⟨x1, x2⟩, ⟨x3, x4⟩, .slice wo us.length wc⟩ us)), _])
   rw [← HOK.out]
   rfl
  ·show _ = if univB 1 = satQ (membersP ps) ⟨1, ⟨x1, x2⟩, ⟨x3, x4⟩, .slice wo us.length wc⟩ us then [] else _
   rw [← HOK.out]
   rfl
 | true =>
  go_wp2
  refine bodyPost_ret (v := .tuple #[.int .i64 1, .slice none 0 0]) (by simp [results, Tryz.results34, go_sem]) rfl ⟨⟨none, 0, [], ps, ?_, HLE.out, (Sl.nil _ _).a, ?_⟩, HT.out.low⟩
  ·show _ = Ending.returned (.tuple #[.int .i64 (kindV (univB 1) (satQ (membersP ps) ⟨1, ⟨x1, x2⟩, ⟨x3, x4⟩, .slice wo us.length wc⟩ us)), _])
   rw [← HOK.out]
   rfl
  ·show _ = if univB 1 = satQ (membersP ps) ⟨1, ⟨x1, x2⟩, ⟨x3, x4⟩, .slice wo us.length wc⟩ us then [] else _
   rw [← HOK.out]
   rfl
set_option maxRecDepth 100000 in
set_option maxHeartbeats 8000000 in
theorem ref13_Decide4 (v0 v1 v2 v3 : Value) (l : List St) (g h : List Rl) (qs : List Qv) (q : Qv) (us PS NS : List ByteArray) (w : World) (P : SimIn w v0 v1 v2 v3 l g h qs q us PS NS) (p6 : PS.length ≤ 6) (n4 : NS.length ≤ 4) (hk : q.k = 4) :
  Calls Tryz.prog 34 #[pv v0 v1 v2 v3, qv q] w fun e w' => DecR (minS l h) q us e w' ∧ Below w.heap.size w w' := by
 have HP := Lib.hid P
 have FEW := Lib.hid (P.decFew p6 n4)
 rw [hk, show decS 4 l g h PS NS = (minS l h) from if_pos (by decide)] at FEW
 obtain ⟨a0, c0, rfl⟩ := P.at_.rs.form
 obtain ⟨a1, c1, rfl⟩ := P.at_.rg.form
 obtain ⟨a2, c2, rfl⟩ := P.at_.rh.form
 obtain ⟨a3, c3, rfl⟩ := P.at_.rq.form
 obtain ⟨xk, ⟨x1, x2⟩, ⟨x3, x4⟩, wv⟩ := q
 dsimp only at hk
 obtain ⟨wo, wc, e1⟩ := P.hu.form
 dsimp only at e1
 subst hk e1
 clear P
 have HT := Lib.hid (show TwoAt w #[.slice a0 l.length c0, .slice a1 g.length c1, .slice a2 h.length c2, .slice a3 qs.length c3] #[.int .i64 4, .string x1, .string x2, .string x3, .string x4, .slice wo us.length wc] ((w.alloc (.cells #[.slice a0 l.length c0, .slice a1 g.length c1, .slice a2 h.length c2, .slice a3 qs.length c3] 26)).alloc (.cells #[.int .i64 4, .string x1, .string x2, .string x3, .string x4, .slice wo us.length wc] 45))
  from ⟨(Blk.new w _ _).alloc _, (by have := Blk.new (w.alloc (.cells #[.slice a0 l.length c0, .slice a1 g.length c1, .slice a2 h.length c2, .slice a3 qs.length c3] 26)) #[.int .i64 4, .string x1, .string x2, .string x3, .string x4, .slice wo us.length wc] 45; simpa using this), ((Below.refl _ _).alloc (Nat.le_refl _) _).alloc (by simp) _⟩)
 go_enter Tryz.func34, Tryz.ntmps34
 go_upto_region 1 with fail
 obtain ⟨w3, hw3⟩ : ∃ W, W = ((w.alloc (.cells #[.slice a0 l.length c0, .slice a1 g.length c1, .slice a2 h.length c2, .slice a3 qs.length c3] 26)).alloc (.cells #[.int .i64 4, .string x1, .string x2, .string x3, .string x4, .slice wo us.length wc] 45)) := ⟨_, rfl⟩
 rw [← hw3] at HT ⊢
 clear hw3
 obtain ⟨ca, fa, za⟩ := HT.out.a
 obtain ⟨cb, fb, zb⟩ := HT.out.b
 go_upto_region 2 with fail
 have HQ : Hid (SlA ((w3.setCell ⟨w.heap.size, 3, none⟩ (.slice (some ⟨w3.heap.size, 0, none⟩) 1 1)).alloc (.cells #[.int .i64 4, .string x1, .string x2, .string x3, .string x4, .slice wo us.length wc] 45)) 6 (.slice (some ⟨w3.heap.size, 0, none⟩) 1 1) 1 [.int .i64 4, .string x1, .string x2, .string x3, .string x4, .slice wo us.length wc]) :=
  Lib.hid (Sl.new _ [.int .i64 4, .string x1, .string x2, .string x3, .string x4, .slice wo us.length wc] 45 6 1 w3.heap.size (by simp [World.setCell]) rfl (by decide)).a
 have HT := Lib.hid ((HT.out.put3 (.slice (some ⟨w3.heap.size, 0, none⟩) 1 1)).alloc (.cells #[.int .i64 4, .string x1, .string x2, .string x3, .string x4, .slice wo us.length wc] 45))
 clear ca fa za cb fb zb
 generalize ha3 : (some ⟨w3.heap.size, 0, none⟩ : Option Addr) = ad at *
 obtain ⟨w4, hw4⟩ : ∃ W, W = (w3.setCell ⟨w.heap.size, 3, none⟩ (.slice ad 1 1)).alloc (.cells #[.int .i64 4, .string x1, .string x2, .string x3, .string x4, .slice wo us.length wc] 45) := ⟨_, rfl⟩
 rw [← hw4] at HQ HT ⊢
 clear hw4 ha3
 have HPX := Lib.hid (HP.out.polx HT.out.low HQ.out)
 have RT := Lib.hid (ref5_RightL (.slice a0 l.length c0) (.slice a1 g.length c1) (.slice a2 h.length c2) (.slice ad 1 1) l g h [⟨4, ⟨x1, x2⟩, ⟨x3, x4⟩, .slice wo us.length wc⟩] w4 HPX.out.at_ HP.out.hl HP.out.hg HP.out.hh (by simp) HP.out.l40 (fun _ => us) HPX.out.hF (fun _ _ => HP.out.uz))
 obtain ⟨ca, fa, za⟩ := HT.out.a
 go_wp2_with fail
 refine RT.out.mono ?_
 rintro e w5 ⟨⟨br, rfl, hri⟩, hb5⟩
 obtain rfl : br = true := hri.2 HP.out.right
 have HT := Lib.hid (HT.out.later hb5)
 have HPX := Lib.hid (HPX.out.below hb5)
 clear hb5 hri RT ca fa za HQ
 obtain ⟨ca, fa, za⟩ := HT.out.a
 obtain ⟨cb, fb, zb⟩ := HT.out.b
 go_wp2_with fail
 refine (ref11_Minimal (.slice a0 l.length c0) (.slice a1 g.length c1) (.slice a2 h.length c2) (.slice ad 1 1) l g h [⟨4, ⟨x1, x2⟩, ⟨x3, x4⟩, .slice wo us.length wc⟩] w5 HPX.out.at_ (by have := HPX.out.hl; omega)).mono ?_
 rintro e w6 ⟨v6, rfl, hs6, hb6⟩
 obtain ⟨a6, c6, rfl⟩ := hs6.form
 have HT := Lib.hid (HT.out.later hb6)
 have HPX := Lib.hid (HPX.out.below hb6)
 have HST := Lib.hid hs6
 clear hs6 hb6 ca fa za cb fb zb
 obtain ⟨ca, fa, za⟩ := HT.out.a
 obtain ⟨cb, fb, zb⟩ := HT.out.b
 go_wp2_with fail
 refine (ref13_In _ (minS l h) 900 ⟨4, ⟨x1, x2⟩, ⟨x3, x4⟩, .slice wo us.length wc⟩ us w6 HST.out (by omega) FEW.out (HP.out.hu.below HT.out.low)).mono ?_
 rintro e w8 ⟨ps, rfl, hle, hb8⟩
 have HT := Lib.hid (HT.out.later hb8)
 have HST := Lib.hid (HST.out.below hb8)
 have HLE := Lib.hid hle
 obtain ⟨ok, hok⟩ : ∃ b, b = satQ (membersP ps) ⟨4, ⟨x1, x2⟩, ⟨x3, x4⟩, .slice wo us.length wc⟩ us := ⟨_, rfl⟩
 rw [← hok]
 have HOK := Lib.hid hok
 clear hle hok hb8 cb fb zb
 obtain ⟨cb, fb, zb⟩ := HT.out.b
 go_wp2_with fail
 refine (ref4_Univ (k := 4) (b := false) rfl w8).mono ?_
 rintro e w9 ⟨rfl, rfl⟩
 clear cb fb zb FEW HPX
 cases ok with
 | false =>
  go_wp2
  refine bodyPost_ret (v := .tuple #[.int .i64 4, .slice none 0 0]) (by simp [results, Tryz.results34, go_sem]) rfl ⟨⟨none, 0, [], ps, ?_, HLE.out, (Sl.nil _ _).a, ?_⟩, HT.out.low⟩
  ·show _ = Ending.returned (.tuple #[.int .i64 (kindV (univB 4) (satQ (membersP ps) ⟨4, ⟨x1, x2⟩, ⟨x3, x4⟩, .slice wo us.length wc⟩ us)), _])
   rw [← HOK.out]
   rfl
  ·show _ = if univB 4 = satQ (membersP ps) ⟨4, ⟨x1, x2⟩, ⟨x3, x4⟩, .slice wo us.length wc⟩ us then [] else _
   rw [← HOK.out]
   rfl
 | true =>
  go_wp2
  refine bodyPost_ret (v := .tuple #[.int .i64 3, .slice a6 (minS l h).length c6]) (by simp [results, Tryz.results34, go_sem]) rfl ⟨⟨a6, c6, (minS l h), ps, ?_, HLE.out, HST.out, ?_⟩, HT.out.low⟩
  ·show _ = Ending.returned (.tuple #[.int .i64 (kindV (univB 4) (satQ (membersP ps) ⟨4, ⟨x1, x2⟩, ⟨x3, x4⟩, .slice wo us.length wc⟩ us)), _])
   rw [← HOK.out]
   rfl
  ·show _ = if univB 4 = satQ (membersP ps) ⟨4, ⟨x1, x2⟩, ⟨x3, x4⟩, .slice wo us.length wc⟩ us then [] else _
   rw [← HOK.out]
   rfl
set_option maxRecDepth 100000 in
set_option maxHeartbeats 8000000 in
theorem ref13_Decide2 (v0 v1 v2 v3 : Value) (l : List St) (g h : List Rl) (qs : List Qv) (q : Qv) (us PS NS : List ByteArray) (w : World) (P : SimIn w v0 v1 v2 v3 l g h qs q us PS NS) (p6 : PS.length ≤ 6) (n4 : NS.length ≤ 4) (hk : q.k = 2) :
  Calls Tryz.prog 34 #[pv v0 v1 v2 v3, qv q] w fun e w' => DecR (maxS l g PS NS) q us e w' ∧ Below w.heap.size w w' := by
 have HP := Lib.hid P
 have FEW := Lib.hid (P.decFew p6 n4)
 rw [hk, show decS 2 l g h PS NS = (maxS l g PS NS) from if_neg (by decide)] at FEW
 obtain ⟨a0, c0, rfl⟩ := P.at_.rs.form
 obtain ⟨a1, c1, rfl⟩ := P.at_.rg.form
 obtain ⟨a2, c2, rfl⟩ := P.at_.rh.form
 obtain ⟨a3, c3, rfl⟩ := P.at_.rq.form
 obtain ⟨xk, ⟨x1, x2⟩, ⟨x3, x4⟩, wv⟩ := q
 dsimp only at hk
 obtain ⟨wo, wc, e1⟩ := P.hu.form
 dsimp only at e1
 subst hk e1
 clear P
 have HT := Lib.hid (show TwoAt w #[.slice a0 l.length c0, .slice a1 g.length c1, .slice a2 h.length c2, .slice a3 qs.length c3] #[.int .i64 2, .string x1, .string x2, .string x3, .string x4, .slice wo us.length wc] ((w.alloc (.cells #[.slice a0 l.length c0, .slice a1 g.length c1, .slice a2 h.length c2, .slice a3 qs.length c3] 26)).alloc (.cells #[.int .i64 2, .string x1, .string x2, .string x3, .string x4, .slice wo us.length wc] 45))
  from ⟨(Blk.new w _ _).alloc _, (by have := Blk.new (w.alloc (.cells #[.slice a0 l.length c0, .slice a1 g.length c1, .slice a2 h.length c2, .slice a3 qs.length c3] 26)) #[.int .i64 2, .string x1, .string x2, .string x3, .string x4, .slice wo us.length wc] 45; simpa using this), ((Below.refl _ _).alloc (Nat.le_refl _) _).alloc (by simp) _⟩)
 go_enter Tryz.func34, Tryz.ntmps34
 go_upto_region 1 with fail
 obtain ⟨w3, hw3⟩ : ∃ W, W = ((w.alloc (.cells #[.slice a0 l.length c0, .slice a1 g.length c1, .slice a2 h.length c2, .slice a3 qs.length c3] 26)).alloc (.cells #[.int .i64 2, .string x1, .string x2, .string x3, .string x4, .slice wo us.length wc] 45)) := ⟨_, rfl⟩
 rw [← hw3] at HT ⊢
 clear hw3
 obtain ⟨ca, fa, za⟩ := HT.out.a
 obtain ⟨cb, fb, zb⟩ := HT.out.b
 go_upto_region 2 with fail
 have HQ : Hid (SlA ((w3.setCell ⟨w.heap.size, 3, none⟩ (.slice (some ⟨w3.heap.size, 0, none⟩) 1 1)).alloc (.cells #[.int .i64 2, .string x1, .string x2, .string x3, .string x4, .slice wo us.length wc] 45)) 6 (.slice (some ⟨w3.heap.size, 0, none⟩) 1 1) 1 [.int .i64 2, .string x1, .string x2, .string x3, .string x4, .slice wo us.length wc]) :=
  Lib.hid (Sl.new _ [.int .i64 2, .string x1, .string x2, .string x3, .string x4, .slice wo us.length wc] 45 6 1 w3.heap.size (by simp [World.setCell]) rfl (by decide)).a
 have HT := Lib.hid ((HT.out.put3 (.slice (some ⟨w3.heap.size, 0, none⟩) 1 1)).alloc (.cells #[.int .i64 2, .string x1, .string x2, .string x3, .string x4, .slice wo us.length wc] 45))
 clear ca fa za cb fb zb
 generalize ha3 : (some ⟨w3.heap.size, 0, none⟩ : Option Addr) = ad at *
 obtain ⟨w4, hw4⟩ : ∃ W, W = (w3.setCell ⟨w.heap.size, 3, none⟩ (.slice ad 1 1)).alloc (.cells #[.int .i64 2, .string x1, .string x2, .string x3, .string x4, .slice wo us.length wc] 45) := ⟨_, rfl⟩
 rw [← hw4] at HQ HT ⊢
 clear hw4 ha3
 have HPX := Lib.hid (HP.out.polx HT.out.low HQ.out)
 have RT := Lib.hid (ref5_RightL (.slice a0 l.length c0) (.slice a1 g.length c1) (.slice a2 h.length c2) (.slice ad 1 1) l g h [⟨2, ⟨x1, x2⟩, ⟨x3, x4⟩, .slice wo us.length wc⟩] w4 HPX.out.at_ HP.out.hl HP.out.hg HP.out.hh (by simp) HP.out.l40 (fun _ => us) HPX.out.hF (fun _ _ => HP.out.uz))
 obtain ⟨ca, fa, za⟩ := HT.out.a
 go_wp2_with fail
 refine RT.out.mono ?_
 rintro e w5 ⟨⟨br, rfl, hri⟩, hb5⟩
 obtain rfl : br = true := hri.2 HP.out.right
 have HT := Lib.hid (HT.out.later hb5)
 have HPX := Lib.hid (HPX.out.below hb5)
 clear hb5 hri RT ca fa za HQ
 obtain ⟨ca, fa, za⟩ := HT.out.a
 obtain ⟨cb, fb, zb⟩ := HT.out.b
 go_wp2_with fail
 refine (ref11_Minimal (.slice a0 l.length c0) (.slice a1 g.length c1) (.slice a2 h.length c2) (.slice ad 1 1) l g h [⟨2, ⟨x1, x2⟩, ⟨x3, x4⟩, .slice wo us.length wc⟩] w5 HPX.out.at_ (by have := HPX.out.hl; omega)).mono ?_
 rintro e w6 ⟨v6, rfl, hs6, hb6⟩
 obtain ⟨a6, c6, rfl⟩ := hs6.form
 have HT := Lib.hid (HT.out.later hb6)
 have HPX := Lib.hid (HPX.out.below hb6)
 have HST := Lib.hid hs6
 clear hs6 hb6 ca fa za cb fb zb
 obtain ⟨ca, fa, za⟩ := HT.out.a
 obtain ⟨cb, fb, zb⟩ := HT.out.b
 go_wp2_with fail
 refine (ref12_Maximal HPX.out p6 n4).mono ?_
 rintro e w7 ⟨v7, rfl, hs7, hb7⟩
 obtain ⟨a7, c7, rfl⟩ := hs7.form
 have HT := Lib.hid (HT.out.later hb7)
 have HST := Lib.hid hs7.a
 clear hs7 hb7 ca fa za cb fb zb
 obtain ⟨cb, fb, zb⟩ := HT.out.b
 go_wp2_with fail
 refine (ref13_In _ (maxS l g PS NS) 900 ⟨2, ⟨x1, x2⟩, ⟨x3, x4⟩, .slice wo us.length wc⟩ us w7 HST.out (by omega) FEW.out (HP.out.hu.below HT.out.low)).mono ?_
 rintro e w8 ⟨ps, rfl, hle, hb8⟩
 have HT := Lib.hid (HT.out.later hb8)
 have HST := Lib.hid (HST.out.below hb8)
 have HLE := Lib.hid hle
 obtain ⟨ok, hok⟩ : ∃ b, b = satQ (membersP ps) ⟨2, ⟨x1, x2⟩, ⟨x3, x4⟩, .slice wo us.length wc⟩ us := ⟨_, rfl⟩
 rw [← hok]
 have HOK := Lib.hid hok
 clear hle hok hb8 cb fb zb
 obtain ⟨cb, fb, zb⟩ := HT.out.b
 go_wp2_with fail
 refine (ref4_Univ (k := 2) (b := false) rfl w8).mono ?_
 rintro e w9 ⟨rfl, rfl⟩
 clear cb fb zb FEW HPX
 cases ok with
 | false =>
  go_wp2
  refine bodyPost_ret (v := .tuple #[.int .i64 4, .slice none 0 0]) (by simp [results, Tryz.results34, go_sem]) rfl ⟨⟨none, 0, [], ps, ?_, HLE.out, (Sl.nil _ _).a, ?_⟩, HT.out.low⟩
  ·show _ = Ending.returned (.tuple #[.int .i64 (kindV (univB 2) (satQ (membersP ps) ⟨2, ⟨x1, x2⟩, ⟨x3, x4⟩, .slice wo us.length wc⟩ us)), _])
   rw [← HOK.out]
   rfl
  ·show _ = if univB 2 = satQ (membersP ps) ⟨2, ⟨x1, x2⟩, ⟨x3, x4⟩, .slice wo us.length wc⟩ us then [] else _
   rw [← HOK.out]
   rfl
 | true =>
  go_wp2
  refine bodyPost_ret (v := .tuple #[.int .i64 3, .slice a7 (maxS l g PS NS).length c7]) (by simp [results, Tryz.results34, go_sem]) rfl ⟨⟨a7, c7, (maxS l g PS NS), ps, ?_, HLE.out, HST.out, ?_⟩, HT.out.low⟩
  ·show _ = Ending.returned (.tuple #[.int .i64 (kindV (univB 2) (satQ (membersP ps) ⟨2, ⟨x1, x2⟩, ⟨x3, x4⟩, .slice wo us.length wc⟩ us)), _])
   rw [← HOK.out]
   rfl
  ·show _ = if univB 2 = satQ (membersP ps) ⟨2, ⟨x1, x2⟩, ⟨x3, x4⟩, .slice wo us.length wc⟩ us then [] else _
   rw [← HOK.out]
   rfl
set_option maxRecDepth 100000 in
set_option maxHeartbeats 8000000 in
theorem ref13_Decide3 (v0 v1 v2 v3 : Value) (l : List St) (g h : List Rl) (qs : List Qv) (q : Qv) (us PS NS : List ByteArray) (w : World) (P : SimIn w v0 v1 v2 v3 l g h qs q us PS NS) (p6 : PS.length ≤ 6) (n4 : NS.length ≤ 4) (hk : q.k = 3) :
  Calls Tryz.prog 34 #[pv v0 v1 v2 v3, qv q] w fun e w' => DecR (maxS l g PS NS) q us e w' ∧ Below w.heap.size w w' := by
 have HP := Lib.hid P
 have FEW := Lib.hid (P.decFew p6 n4)
 rw [hk, show decS 3 l g h PS NS = (maxS l g PS NS) from if_neg (by decide)] at FEW
 obtain ⟨a0, c0, rfl⟩ := P.at_.rs.form
 obtain ⟨a1, c1, rfl⟩ := P.at_.rg.form
 obtain ⟨a2, c2, rfl⟩ := P.at_.rh.form
 obtain ⟨a3, c3, rfl⟩ := P.at_.rq.form
 obtain ⟨xk, ⟨x1, x2⟩, ⟨x3, x4⟩, wv⟩ := q
 dsimp only at hk
 obtain ⟨wo, wc, e1⟩ := P.hu.form
 dsimp only at e1
 subst hk e1
 clear P
 have HT := Lib.hid (show TwoAt w #[.slice a0 l.length c0, .slice a1 g.length c1, .slice a2 h.length c2, .slice a3 qs.length c3] #[.int .i64 3, .string x1, .string x2, .string x3, .string x4, .slice wo us.length wc] ((w.alloc (.cells #[.slice a0 l.length c0, .slice a1 g.length c1, .slice a2 h.length c2, .slice a3 qs.length c3] 26)).alloc (.cells #[.int .i64 3, .string x1, .string x2, .string x3, .string x4, .slice wo us.length wc] 45))
  from ⟨(Blk.new w _ _).alloc _, (by have := Blk.new (w.alloc (.cells #[.slice a0 l.length c0, .slice a1 g.length c1, .slice a2 h.length c2, .slice a3 qs.length c3] 26)) #[.int .i64 3, .string x1, .string x2, .string x3, .string x4, .slice wo us.length wc] 45; simpa using this), ((Below.refl _ _).alloc (Nat.le_refl _) _).alloc (by simp) _⟩)
 go_enter Tryz.func34, Tryz.ntmps34
 go_upto_region 1 with fail
 obtain ⟨w3, hw3⟩ : ∃ W, W = ((w.alloc (.cells #[.slice a0 l.length c0, .slice a1 g.length c1, .slice a2 h.length c2, .slice a3 qs.length c3] 26)).alloc (.cells #[.int .i64 3, .string x1, .string x2, .string x3, .string x4, .slice wo us.length wc] 45)) := ⟨_, rfl⟩
 rw [← hw3] at HT ⊢
 clear hw3
 obtain ⟨ca, fa, za⟩ := HT.out.a
 obtain ⟨cb, fb, zb⟩ := HT.out.b
 go_upto_region 2 with fail
 have HQ : Hid (SlA ((w3.setCell ⟨w.heap.size, 3, none⟩ (.slice (some ⟨w3.heap.size, 0, none⟩) 1 1)).alloc (.cells #[.int .i64 3, .string x1, .string x2, .string x3, .string x4, .slice wo us.length wc] 45)) 6 (.slice (some ⟨w3.heap.size, 0, none⟩) 1 1) 1 [.int .i64 3, .string x1, .string x2, .string x3, .string x4, .slice wo us.length wc]) :=
  Lib.hid (Sl.new _ [.int .i64 3, .string x1, .string x2, .string x3, .string x4, .slice wo us.length wc] 45 6 1 w3.heap.size (by simp [World.setCell]) rfl (by decide)).a
 have HT := Lib.hid ((HT.out.put3 (.slice (some ⟨w3.heap.size, 0, none⟩) 1 1)).alloc (.cells #[.int .i64 3, .string x1, .string x2, .string x3, .string x4, .slice wo us.length wc] 45))
 clear ca fa za cb fb zb
 generalize ha3 : (some ⟨w3.heap.size, 0, none⟩ : Option Addr) = ad at *
 obtain ⟨w4, hw4⟩ : ∃ W, W = (w3.setCell ⟨w.heap.size, 3, none⟩ (.slice ad 1 1)).alloc (.cells #[.int .i64 3, .string x1, .string x2, .string x3, .string x4, .slice wo us.length wc] 45) := ⟨_, rfl⟩
 rw [← hw4] at HQ HT ⊢
 clear hw4 ha3
 have HPX := Lib.hid (HP.out.polx HT.out.low HQ.out)
 have RT := Lib.hid (ref5_RightL (.slice a0 l.length c0) (.slice a1 g.length c1) (.slice a2 h.length c2) (.slice ad 1 1) l g h [⟨3, ⟨x1, x2⟩, ⟨x3, x4⟩, .slice wo us.length wc⟩] w4 HPX.out.at_ HP.out.hl HP.out.hg HP.out.hh (by simp) HP.out.l40 (fun _ => us) HPX.out.hF (fun _ _ => HP.out.uz))
 obtain ⟨ca, fa, za⟩ := HT.out.a
 go_wp2_with fail
 refine RT.out.mono ?_
 rintro e w5 ⟨⟨br, rfl, hri⟩, hb5⟩
 obtain rfl : br = true := hri.2 HP.out.right
 have HT := Lib.hid (HT.out.later hb5)
 have HPX := Lib.hid (HPX.out.below hb5)
 clear hb5 hri RT ca fa za HQ
 obtain ⟨ca, fa, za⟩ := HT.out.a
 obtain ⟨cb, fb, zb⟩ := HT.out.b
 go_wp2_with fail
 refine (ref11_Minimal (.slice a0 l.length c0) (.slice a1 g.length c1) (.slice a2 h.length c2) (.slice ad 1 1) l g h [⟨3, ⟨x1, x2⟩, ⟨x3, x4⟩, .slice wo us.length wc⟩] w5 HPX.out.at_ (by have := HPX.out.hl; omega)).mono ?_
 rintro e w6 ⟨v6, rfl, hs6, hb6⟩
 obtain ⟨a6, c6, rfl⟩ := hs6.form
 have HT := Lib.hid (HT.out.later hb6)
 have HPX := Lib.hid (HPX.out.below hb6)
 have HST := Lib.hid hs6
 clear hs6 hb6 ca fa za cb fb zb
 obtain ⟨ca, fa, za⟩ := HT.out.a
 obtain ⟨cb, fb, zb⟩ := HT.out.b
 go_wp2_with fail
 refine (ref12_Maximal HPX.out p6 n4).mono ?_
 rintro e w7 ⟨v7, rfl, hs7, hb7⟩
 obtain ⟨a7, c7, rfl⟩ := hs7.form
 have HT := Lib.hid (HT.out.later hb7)
 have HST := Lib.hid hs7.a
 clear hs7 hb7 ca fa za cb fb zb
 obtain ⟨cb, fb, zb⟩ := HT.out.b
 go_wp2_with fail
 refine (ref13_In _ (maxS l g PS NS) 900 ⟨3, ⟨x1, x2⟩, ⟨x3, x4⟩, .slice wo us.length wc⟩ us w7 HST.out (by omega) FEW.out (HP.out.hu.below HT.out.low)).mono ?_
 rintro e w8 ⟨ps, rfl, hle, hb8⟩
 have HT := Lib.hid (HT.out.later hb8)
 have HST := Lib.hid (HST.out.below hb8)
 have HLE := Lib.hid hle
 obtain ⟨ok, hok⟩ : ∃ b, b = satQ (membersP ps) ⟨3, ⟨x1, x2⟩, ⟨x3, x4⟩, .slice wo us.length wc⟩ us := ⟨_, rfl⟩
 rw [← hok]
 have HOK := Lib.hid hok
 clear hle hok hb8 cb fb zb
 obtain ⟨cb, fb, zb⟩ := HT.out.b
 go_wp2_with fail
 refine (ref4_Univ (k := 3) (b := true) rfl w8).mono ?_
 rintro e w9 ⟨rfl, rfl⟩
 clear cb fb zb FEW HPX
 cases ok with
 | false =>
  go_wp2
  refine bodyPost_ret (v := .tuple #[.int .i64 2, .slice a7 (maxS l g PS NS).length c7]) (by simp [results, Tryz.results34, go_sem]) rfl ⟨⟨a7, c7, (maxS l g PS NS), ps, ?_, HLE.out, HST.out, ?_⟩, HT.out.low⟩
  ·show _ = Ending.returned (.tuple #[.int .i64 (kindV (univB 3) (satQ (membersP ps) ⟨3, ⟨x1, x2⟩, ⟨x3, x4⟩, .slice wo us.length wc⟩ us)), _])
   rw [← HOK.out]
   rfl
  ·show _ = if univB 3 = satQ (membersP ps) ⟨3, ⟨x1, x2⟩, ⟨x3, x4⟩, .slice wo us.length wc⟩ us then [] else _
   rw [← HOK.out]
   rfl
 | true =>
  go_wp2
  refine bodyPost_ret (v := .tuple #[.int .i64 1, .slice none 0 0]) (by simp [results, Tryz.results34, go_sem]) rfl ⟨⟨none, 0, [], ps, ?_, HLE.out, (Sl.nil _ _).a, ?_⟩, HT.out.low⟩
  ·show _ = Ending.returned (.tuple #[.int .i64 (kindV (univB 3) (satQ (membersP ps) ⟨3, ⟨x1, x2⟩, ⟨x3, x4⟩, .slice wo us.length wc⟩ us)), _])
   rw [← HOK.out]
   rfl
  ·show _ = if univB 3 = satQ (membersP ps) ⟨3, ⟨x1, x2⟩, ⟨x3, x4⟩, .slice wo us.length wc⟩ us then [] else _
   rw [← HOK.out]
   rfl
set_option maxRecDepth 100000 in
set_option maxHeartbeats 8000000 in
theorem ref13_Decide5 (v0 v1 v2 v3 : Value) (l : List St) (g h : List Rl) (qs : List Qv) (q : Qv) (us PS NS : List ByteArray) (w : World) (P : SimIn w v0 v1 v2 v3 l g h qs q us PS NS) (p6 : PS.length ≤ 6) (n4 : NS.length ≤ 4) (hk : q.k = 5) :
  Calls Tryz.prog 34 #[pv v0 v1 v2 v3, qv q] w fun e w' => DecR (maxS l g PS NS) q us e w' ∧ Below w.heap.size w w' := by
 have HP := Lib.hid P
 have FEW := Lib.hid (P.decFew p6 n4)
 rw [hk, show decS 5 l g h PS NS = (maxS l g PS NS) from if_neg (by decide)] at FEW
 obtain ⟨a0, c0, rfl⟩ := P.at_.rs.form
 obtain ⟨a1, c1, rfl⟩ := P.at_.rg.form
 obtain ⟨a2, c2, rfl⟩ := P.at_.rh.form
 obtain ⟨a3, c3, rfl⟩ := P.at_.rq.form
 obtain ⟨xk, ⟨x1, x2⟩, ⟨x3, x4⟩, wv⟩ := q
 dsimp only at hk
 obtain ⟨wo, wc, e1⟩ := P.hu.form
 dsimp only at e1
 subst hk e1
 clear P
 have HT := Lib.hid (show TwoAt w #[.slice a0 l.length c0, .slice a1 g.length c1, .slice a2 h.length c2, .slice a3 qs.length c3] #[.int .i64 5, .string x1, .string x2, .string x3, .string x4, .slice wo us.length wc] ((w.alloc (.cells #[.slice a0 l.length c0, .slice a1 g.length c1, .slice a2 h.length c2, .slice a3 qs.length c3] 26)).alloc (.cells #[.int .i64 5, .string x1, .string x2, .string x3, .string x4, .slice wo us.length wc] 45))
  from ⟨(Blk.new w _ _).alloc _, (by have := Blk.new (w.alloc (.cells #[.slice a0 l.length c0, .slice a1 g.length c1, .slice a2 h.length c2, .slice a3 qs.length c3] 26)) #[.int .i64 5, .string x1, .string x2, .string x3, .string x4, .slice wo us.length wc] 45; simpa using this), ((Below.refl _ _).alloc (Nat.le_refl _) _).alloc (by simp) _⟩)
 go_enter Tryz.func34, Tryz.ntmps34
 go_upto_region 1 with fail
 obtain ⟨w3, hw3⟩ : ∃ W, W = ((w.alloc (.cells #[.slice a0 l.length c0, .slice a1 g.length c1, .slice a2 h.length c2, .slice a3 qs.length c3] 26)).alloc (.cells #[.int .i64 5, .string x1, .string x2, .string x3, .string x4, .slice wo us.length wc] 45)) := ⟨_, rfl⟩
 rw [← hw3] at HT ⊢
 clear hw3
 obtain ⟨ca, fa, za⟩ := HT.out.a
 obtain ⟨cb, fb, zb⟩ := HT.out.b
 go_upto_region 2 with fail
 have HQ : Hid (SlA ((w3.setCell ⟨w.heap.size, 3, none⟩ (.slice (some ⟨w3.heap.size, 0, none⟩) 1 1)).alloc (.cells #[.int .i64 5, .string x1, .string x2, .string x3, .string x4, .slice wo us.length wc] 45)) 6 (.slice (some ⟨w3.heap.size, 0, none⟩) 1 1) 1 [.int .i64 5, .string x1, .string x2, .string x3, .string x4, .slice wo us.length wc]) :=
  Lib.hid (Sl.new _ [.int .i64 5, .string x1, .string x2, .string x3, .string x4, .slice wo us.length wc] 45 6 1 w3.heap.size (by simp [World.setCell]) rfl (by decide)).a
 have HT := Lib.hid ((HT.out.put3 (.slice (some ⟨w3.heap.size, 0, none⟩) 1 1)).alloc (.cells #[.int .i64 5, .string x1, .string x2, .string x3, .string x4, .slice wo us.length wc] 45))
 clear ca fa za cb fb zb
 generalize ha3 : (some ⟨w3.heap.size, 0, none⟩ : Option Addr) = ad at *
 obtain ⟨w4, hw4⟩ : ∃ W, W = (w3.setCell ⟨w.heap.size, 3, none⟩ (.slice ad 1 1)).alloc (.cells #[.int .i64 5, .string x1, .string x2, .string x3, .string x4, .slice wo us.length wc] 45) := ⟨_, rfl⟩
 rw [← hw4] at HQ HT ⊢
 clear hw4 ha3
 have HPX := Lib.hid (HP.out.polx HT.out.low HQ.out)
 have RT := Lib.hid (ref5_RightL (.slice a0 l.length c0) (.slice a1 g.length c1) (.slice a2 h.length c2) (.slice ad 1 1) l g h [⟨5, ⟨x1, x2⟩, ⟨x3, x4⟩, .slice wo us.length wc⟩] w4 HPX.out.at_ HP.out.hl HP.out.hg HP.out.hh (by simp) HP.out.l40 (fun _ => us) HPX.out.hF (fun _ _ => HP.out.uz))
 obtain ⟨ca, fa, za⟩ := HT.out.a
 go_wp2_with fail
 refine RT.out.mono ?_
 rintro e w5 ⟨⟨br, rfl, hri⟩, hb5⟩
 obtain rfl : br = true := hri.2 HP.out.right
 have HT := Lib.hid (HT.out.later hb5)
 have HPX := Lib.hid (HPX.out.below hb5)
 clear hb5 hri RT ca fa za HQ
 obtain ⟨ca, fa, za⟩ := HT.out.a
 obtain ⟨cb, fb, zb⟩ := HT.out.b
 go_wp2_with fail
 refine (ref11_Minimal (.slice a0 l.length c0) (.slice a1 g.length c1) (.slice a2 h.length c2) (.slice ad 1 1) l g h [⟨5, ⟨x1, x2⟩, ⟨x3, x4⟩, .slice wo us.length wc⟩] w5 HPX.out.at_ (by have := HPX.out.hl; omega)).mono ?_
 rintro e w6 ⟨v6, rfl, hs6, hb6⟩
 obtain ⟨a6, c6, rfl⟩ := hs6.form
 have HT := Lib.hid (HT.out.later hb6)
 have HPX := Lib.hid (HPX.out.below hb6)
 have HST := Lib.hid hs6
 clear hs6 hb6 ca fa za cb fb zb
 obtain ⟨ca, fa, za⟩ := HT.out.a
 obtain ⟨cb, fb, zb⟩ := HT.out.b
 go_wp2_with fail
 refine (ref12_Maximal HPX.out p6 n4).mono ?_
 rintro e w7 ⟨v7, rfl, hs7, hb7⟩
 obtain ⟨a7, c7, rfl⟩ := hs7.form
 have HT := Lib.hid (HT.out.later hb7)
 have HST := Lib.hid hs7.a
 clear hs7 hb7 ca fa za cb fb zb
 obtain ⟨cb, fb, zb⟩ := HT.out.b
 go_wp2_with fail
 refine (ref13_In _ (maxS l g PS NS) 900 ⟨5, ⟨x1, x2⟩, ⟨x3, x4⟩, .slice wo us.length wc⟩ us w7 HST.out (by omega) FEW.out (HP.out.hu.below HT.out.low)).mono ?_
 rintro e w8 ⟨ps, rfl, hle, hb8⟩
 have HT := Lib.hid (HT.out.later hb8)
 have HST := Lib.hid (HST.out.below hb8)
 have HLE := Lib.hid hle
 obtain ⟨ok, hok⟩ : ∃ b, b = satQ (membersP ps) ⟨5, ⟨x1, x2⟩, ⟨x3, x4⟩, .slice wo us.length wc⟩ us := ⟨_, rfl⟩
 rw [← hok]
 have HOK := Lib.hid hok
 clear hle hok hb8 cb fb zb
 obtain ⟨cb, fb, zb⟩ := HT.out.b
 go_wp2_with fail
 refine (ref4_Univ (k := 5) (b := true) rfl w8).mono ?_
 rintro e w9 ⟨rfl, rfl⟩
 clear cb fb zb FEW HPX
 cases ok with
 | false =>
  go_wp2
  refine bodyPost_ret (v := .tuple #[.int .i64 2, .slice a7 (maxS l g PS NS).length c7]) (by simp [results, Tryz.results34, go_sem]) rfl ⟨⟨a7, c7, (maxS l g PS NS), ps, ?_, HLE.out, HST.out, ?_⟩, HT.out.low⟩
  ·show _ = Ending.returned (.tuple #[.int .i64 (kindV (univB 5) (satQ (membersP ps) ⟨5, ⟨x1, x2⟩, ⟨x3, x4⟩, .slice wo us.length wc⟩ us)), _])
   rw [← HOK.out]
   rfl
  ·show _ = if univB 5 = satQ (membersP ps) ⟨5, ⟨x1, x2⟩, ⟨x3, x4⟩, .slice wo us.length wc⟩ us then [] else _
   rw [← HOK.out]
   rfl
 | true =>
  go_wp2
  refine bodyPost_ret (v := .tuple #[.int .i64 1, .slice none 0 0]) (by simp [results, Tryz.results34, go_sem]) rfl ⟨⟨none, 0, [], ps, ?_, HLE.out, (Sl.nil _ _).a, ?_⟩, HT.out.low⟩
  ·show _ = Ending.returned (.tuple #[.int .i64 (kindV (univB 5) (satQ (membersP ps) ⟨5, ⟨x1, x2⟩, ⟨x3, x4⟩, .slice wo us.length wc⟩ us)), _])
   rw [← HOK.out]
   rfl
  ·show _ = if univB 5 = satQ (membersP ps) ⟨5, ⟨x1, x2⟩, ⟨x3, x4⟩, .slice wo us.length wc⟩ us then [] else _
   rw [← HOK.out]
   rfl
theorem ref13_Decide {v0 v1 v2 v3 : Value} {l : List St} {g h : List Rl} {qs : List Qv} {q : Qv} {us PS NS : List ByteArray} {w : World} (P : SimIn w v0 v1 v2 v3 l g h qs q us PS NS) (p6 : PS.length ≤ 6) (n4 : NS.length ≤ 4) :
  Calls Tryz.prog 34 #[pv v0 v1 v2 v3, qv q] w fun e w' => DecR (decS q.k l g h PS NS) q us e w' ∧ Below w.heap.size w w' := by
 have hk := (rightQ_parts P.rightQ).1
 have h6 := P.q6
 unfold decS
 by_cases k1 : q.k = 1
 ·rw [if_pos (.inl k1)]; exact ref13_Decide1 v0 v1 v2 v3 l g h qs q us PS NS w P p6 n4 k1
 by_cases k4 : q.k = 4
 ·rw [if_pos (.inr k4)]; exact ref13_Decide4 v0 v1 v2 v3 l g h qs q us PS NS w P p6 n4 k4
 rw [if_neg (by omega)]
 by_cases k2 : q.k = 2
 ·exact ref13_Decide2 v0 v1 v2 v3 l g h qs q us PS NS w P p6 n4 k2
 by_cases k3 : q.k = 3
 ·exact ref13_Decide3 v0 v1 v2 v3 l g h qs q us PS NS w P p6 n4 k3
 exact ref13_Decide5 v0 v1 v2 v3 l g h qs q us PS NS w P p6 n4 (by omega)
end Go.Proofs.YtcmdhfccdkjenaaGreatDoor
namespace Go.Proofs.YtcmdhfccdkjenaaGreatDoor
open Go.RowKit Go.Shelf

def b13 : ByteArray := ⟨#[66]⟩
def q13 (k : Int) (v : Value) : Qv := ⟨k, r12, noR, v⟩
theorem ex13_min : minS [s12] [r12] = [s12] := by kernel_rfl
theorem ex13_m {ps : List Pr} (h : LeastS [s12] (fun r x => (r, x) ∈ ps)) : membersP ps r12 = [b13] := by
 refine asc_uniqueB _ _ (membersP_asc _ _) (List.pairwise_singleton ..) (fun y => ?_)
 rw [membersP_mem, least_mem (fun s hs => by rw [List.mem_singleton.1 hs]; rfl) h]
 constructor
 ·rintro ⟨s, hs, e1, e2⟩
  rw [List.mem_singleton.1 hs] at e2
  rw [← e2]; exact List.mem_singleton.2 rfl
 ·intro hy
  rw [List.mem_singleton.1 hy]
  exact ⟨s12, List.mem_singleton.2 rfl, rfl, rfl⟩
theorem ex13_len : (maxS [s12] [] P12 N12).length = 9 := by
 unfold maxS rolesX
 rw [put12]
 kernel_rfl
theorem ex13_right {k : Int} {v : Value} (hk : k = 1 ∨ k = 3) : RightP [s12] [] [r12] [q13 k v] (fun _ => [b13]) := by
 have h1 : ∀ x ∈ [s12], rightS x = true := fun x hx => by rw [List.mem_singleton.1 hx]; exact ex12_right
 have h2 : ∀ x ∈ [] ++ [r12], isRole x = true := fun x hx => by
  rw [List.nil_append] at hx
  rw [List.mem_singleton.1 hx]; kernel_rfl
 rcases hk with rfl | rfl
 ·exact ⟨h1, h2, fun x hx => by rw [List.mem_singleton.1 hx]; kernel_rfl, by kernel_rfl, by kernel_rfl, by kernel_rfl, by kernel_rfl⟩
 ·exact ⟨h1, h2, fun x hx => by rw [List.mem_singleton.1 hx]; kernel_rfl, by kernel_rfl, by kernel_rfl, by kernel_rfl, by kernel_rfl⟩
theorem ex13_in {w : World} {a0 a2 : Nat} {k : Int} {v : Value} (hk : k = 1 ∨ k = 3) (hT : TB w) (h1 : Sl w 9 (.slice (some ⟨a0, 0, none⟩) 1 1) 1 ([s12].flatMap St.cells)) (h2 : Sl w 2 (.slice (some ⟨a2, 0, none⟩) 1 1) 1 ([r12].flatMap Rl.cells)) (h3 : Sl w 1 v 1 (strs [b13])) :
  SimIn w (.slice (some ⟨a0, 0, none⟩) 1 1) (.slice none 0 0) (.slice (some ⟨a2, 0, none⟩) 1 1) (.slice none 0 0) [s12] [] [r12] [] (q13 k v) [b13] P12 N12 := by
 have hle : ∀ s ∈ [s12], s.le 40 := fun s hs => by
  rw [List.mem_singleton.1 hs]
  simp only [s12, r12, St.le, Rl.le, noR, ByteArray.size]; decide
 have hr : r12.le 40 := ⟨by decide, by decide⟩
 have hn : noR.le 40 := ⟨by decide, by decide⟩
 have hu : ∀ s ∈ [b13], s.size ≤ 9223372036854775807 := fun s hs => by rw [List.mem_singleton.1 hs]; decide
 refine ⟨⟨h1.a, (Sl.nil _ _).a, h2.a, (Sl.nil _ _).a, fun s hs => (hle s hs).mono (by decide), fun _ h => (by cases h), fun x hx => ?_, fun _ h => (by cases h)⟩, h3.a, ⟨hr.mono (by decide), hn.mono (by decide), [b13], h3.a, hu⟩, by decide, by decide, by decide, hle, fun x hx => ?_, hr, hn, by decide, hu, hT, ex13_right hk, ?_, ?_, ?_, by decide, by decide⟩
 ·rw [List.mem_singleton.1 hx]; exact hr.mono (by decide)
 ·rw [List.nil_append] at hx
  rw [List.mem_singleton.1 hx]; exact hr
 ·show ¬ k = 6
  rcases hk with rfl | rfl <;> decide
 ·rcases hk with rfl | rfl <;> kernel_rfl
 ·rcases hk with rfl | rfl <;> kernel_rfl
section
variable {w : World} {a0 a2 : Nat} {v : Value}
theorem ex13_D1 (P : SimIn w (.slice (some ⟨a0, 0, none⟩) 1 1) (.slice none 0 0) (.slice (some ⟨a2, 0, none⟩) 1 1) (.slice none 0 0) [s12] [] [r12] [] (q13 1 v) [b13] P12 N12) :
  Calls Tryz.prog 28 #[pv (.slice (some ⟨a0, 0, none⟩) 1 1) (.slice none 0 0) (.slice (some ⟨a2, 0, none⟩) 1 1) (.slice none 0 0), qv (q13 1 v)] w fun e w' => ∃ (a : Option Addr) (c st : Nat), e = .returned (.tuple #[.agg #[.int .i64 1, .slice a 0 c, .int .i64 st, .int .i64 0], .int .i64 0]) ∧ Below w.heap.size w w' := by
 refine (sim_Decide P).mono ?_
 rintro e w' ⟨⟨a, c, st, T, ps, rfl, hps, _, hT⟩, hb⟩
 have hS : decS (q13 1 v).k [s12] [] [r12] P12 N12 = [s12] := by unfold decS; rw [if_pos (.inl rfl)]; exact ex13_min
 rw [hS] at hps
 have hs : satQ (membersP ps) (q13 1 v) [b13] = true := by
  show (if (1 : Int) = 1 ∨ (1 : Int) = 2 then insideB [b13] (membersP ps r12) else _) = true
  rw [if_pos (.inl rfl), ex13_m hps]
  kernel_rfl
 rw [hs] at hT ⊢
 rw [hT]
 exact ⟨a, c, st, rfl, hb⟩
theorem ex13_D3 (P : SimIn w (.slice (some ⟨a0, 0, none⟩) 1 1) (.slice none 0 0) (.slice (some ⟨a2, 0, none⟩) 1 1) (.slice none 0 0) [s12] [] [r12] [] (q13 3 v) [b13] P12 N12) :
  Calls Tryz.prog 28 #[pv (.slice (some ⟨a0, 0, none⟩) 1 1) (.slice none 0 0) (.slice (some ⟨a2, 0, none⟩) 1 1) (.slice none 0 0), qv (q13 3 v)] w fun e w' => ∃ (a : Option Addr) (c st : Nat), e = .returned (.tuple #[.agg #[.int .i64 2, .slice a 9 c, .int .i64 st, .int .i64 0], .int .i64 0]) ∧ Below w.heap.size w w' := by
 refine (sim_Decide P).mono ?_
 rintro e w' ⟨⟨a, c, st, T, ps, rfl, hps, _, hT⟩, hb⟩
 have hS : decS (q13 3 v).k [s12] [] [r12] P12 N12 = maxS [s12] [] P12 N12 := by unfold decS; exact if_neg (by show ¬ ((3 : Int) = 1 ∨ (3 : Int) = 4); decide)
 rw [hS] at hps hT
 have hs : satQ (membersP ps) (q13 3 v) [b13] = false := by
  show (if (3 : Int) = 1 ∨ (3 : Int) = 2 then insideB [b13] (membersP ps r12) else if (3 : Int) = 3 then insideB (membersP ps r12) [b13] else _) = false
  rw [if_neg (by decide), if_pos rfl, ex12_q hps]
  kernel_rfl
 rw [hs] at hT ⊢
 have hl : T.length = 9 := by rw [hT]; exact ex13_len
 rw [hl]
 exact ⟨a, c, st, rfl, hb⟩
end
structure Ex13 (w : World) (wx : World) : Prop where
 r : Blk wx w.heap.size #[.string ⟨#[65]⟩, .string ⟨#[114]⟩]
 p : Blk wx (w.heap.size + 1 + 1 + 1) #[.slice (some ⟨w.heap.size + 1, 0, none⟩) 1 1, .slice none 0 0, .slice (some ⟨w.heap.size + 1 + 1, 0, none⟩) 1 1, .slice none 0 0]
 low : Below w.heap.size w wx
theorem Ex13.later {w wx w' : World} (h : Ex13 w wx) (hb : Below wx.heap.size wx w') : Ex13 w w' := ⟨h.r.below hb, h.p.below hb, h.low.trans (hb.mono h.low.size)⟩
set_option maxRecDepth 100000 in
set_option maxHeartbeats 8000000 in
theorem law13_lives (w : World) (hT : TB w) : Calls Tryz.prog 27 #[] w fun e w' => e = .returned (.bool true) ∧ Below w.heap.size w w' := by
 have HTB := Lib.hid hT
 clear hT
 go_enter Tryz.func27, Tryz.ntmps27
 go_wp2_with fail
 obtain ⟨wb, hwb⟩ : ∃ V, V = (((((w.alloc (.cells #[.string ⟨#[65]⟩, .string ⟨#[114]⟩] 28)).alloc (.cells #[.int .i64 1, .string ⟨#[65]⟩, .string ⟨#[114]⟩, .string ⟨#[66]⟩, .string emp, .string emp, .string emp, .string emp, .string emp] 35)).alloc (.cells #[.string ⟨#[65]⟩, .string ⟨#[114]⟩] 28)).alloc (.cells #[.slice (some ⟨w.heap.size + 1, 0, none⟩) 1 1, .slice none 0 0, .slice (some ⟨w.heap.size + 1 + 1, 0, none⟩) 1 1, .slice none 0 0] 26)).alloc (.cells #[.string ⟨#[66]⟩] 9)) := ⟨_, rfl⟩
 have FV := five_at w (.cells #[.string ⟨#[65]⟩, .string ⟨#[114]⟩] 28) (.cells #[.int .i64 1, .string ⟨#[65]⟩, .string ⟨#[114]⟩, .string ⟨#[66]⟩, .string emp, .string emp, .string emp, .string emp, .string emp] 35) (.cells #[.string ⟨#[65]⟩, .string ⟨#[114]⟩] 28) (.cells #[.slice (some ⟨w.heap.size + 1, 0, none⟩) 1 1, .slice none 0 0, .slice (some ⟨w.heap.size + 1 + 1, 0, none⟩) 1 1, .slice none 0 0] 26) (.cells #[.string ⟨#[66]⟩] 9)
 rw [← hwb] at FV
 obtain ⟨f0, f1, f2, f3, f4⟩ := FV
 have hlow : Below w.heap.size w wb := by rw [hwb]; exact (((((Below.refl _ _).alloc (Nat.le_refl _) _).alloc (by simp) _).alloc (by simp; omega) _).alloc (by simp; omega) _).alloc (by simp; omega) _
 have HT := Lib.hid (show Ex13 w wb from ⟨blk_of f0, blk_of f3, hlow⟩)
 have HS1 := Lib.hid (show Sl wb 9 (.slice (some ⟨w.heap.size + 1, 0, none⟩) 1 1) 1 ([s12].flatMap St.cells) from row_at f1 9 1 rfl (by simp [maxLen]))
 have HS2 := Lib.hid (show Sl wb 2 (.slice (some ⟨w.heap.size + 1 + 1, 0, none⟩) 1 1) 1 ([r12].flatMap Rl.cells) from row_at f2 2 1 rfl (by simp [maxLen]))
 have HS4 := Lib.hid (show Sl wb 1 (.slice (some ⟨w.heap.size + 1 + 1 + 1 + 1, 0, none⟩) 1 1) 1 (strs [b13]) from row_at f4 1 1 rfl (by simp [maxLen]))
 have D1 := Lib.hid (ex13_D1 (ex13_in (.inl rfl) (HTB.out.below hlow) HS1.out HS2.out HS4.out))
 have D3 := Lib.hid (fun W v (hb : Below wb.heap.size wb W) (h3 : Sl W 1 v 1 (strs [b13])) => ex13_D3 (ex13_in (.inr rfl) (HTB.out.below (hlow.trans (hb.mono hlow.size))) (HS1.out.below hb) (HS2.out.below hb) h3))
 rw [← hwb]
 clear hwb f0 f1 f2 f3 f4 hlow HS1 HS2 HS4
 refine D1.out.mono ?_
 rintro e w1 ⟨a1, c1, st1, rfl, hb1⟩
 have HT := Lib.hid (HT.out.later hb1)
 have HB1 := Lib.hid hb1
 clear hb1 D1
 obtain ⟨cr, fr, zr⟩ := HT.out.r
 obtain ⟨cp, fp, zp⟩ := HT.out.p
 go_wp2_with fail
 have HV1 := Lib.hid (show Blk ((w1.alloc (.cells #[.int .i64 1, .slice a1 0 c1, .int .i64 st1, .int .i64 0] 48)).alloc (.cells #[.string ⟨#[66]⟩] 9)) w1.heap.size #[.int .i64 1, .slice a1 0 c1, .int .i64 st1, .int .i64 0] from (Blk.new w1 _ _).alloc _)
 have HS5 := Lib.hid (show Sl ((w1.alloc (.cells #[.int .i64 1, .slice a1 0 c1, .int .i64 st1, .int .i64 0] 48)).alloc (.cells #[.string ⟨#[66]⟩] 9)) 1 (.slice (some ⟨w1.heap.size + 1, 0, none⟩) 1 1) 1 (strs [b13]) from Sl.new _ _ _ 1 1 (w1.heap.size + 1) (by simp) rfl (by simp [maxLen]))
 have HB2 := Lib.hid (show Below wb.heap.size wb ((w1.alloc (.cells #[.int .i64 1, .slice a1 0 c1, .int .i64 st1, .int .i64 0] 48)).alloc (.cells #[.string ⟨#[66]⟩] 9)) from (HB1.out.alloc HB1.out.size _).alloc (by have := HB1.out.size; simp; omega) _)
 have HT := Lib.hid (HT.out.later (((Below.refl w1.heap.size w1).alloc (Nat.le_refl _) (.cells #[.int .i64 1, .slice a1 0 c1, .int .i64 st1, .int .i64 0] 48)).alloc (by simp) (.cells #[.string ⟨#[66]⟩] 9)))
 clear cr fr zr cp fp zp HB1
 refine (D3.out _ _ HB2.out HS5.out).mono ?_
 rintro e w2 ⟨a2, c2, st2, rfl, hb2⟩
 have HV1 := Lib.hid (HV1.out.below hb2)
 have HT := Lib.hid (HT.out.later hb2)
 clear hb2 D3 HS5 HB2
 obtain ⟨cv, fv, zv⟩ := HV1.out
 go_wp2_with fail
 refine (sim_Holds 1 st1 0 (.slice a1 0 c1) ⟨_, _, _, rfl⟩ _).mono ?_
 rintro e w3 ⟨rfl, hb3⟩
 have HV2 := Lib.hid ((Blk.new w2 #[.int .i64 2, .slice a2 9 c2, .int .i64 st2, .int .i64 0] 48).below hb3)
 have HT := Lib.hid ((HT.out.later ((Below.refl _ w2).alloc (Nat.le_refl _) _)).later hb3)
 clear hb3 cv fv zv
 obtain ⟨cv, fv, zv⟩ := HV2.out
 go_wp2_with fail
 refine (sim_Holds 2 st2 0 (.slice a2 9 c2) ⟨_, _, _, rfl⟩ _).mono ?_
 rintro e w4 ⟨rfl, hb4⟩
 have HT := Lib.hid (HT.out.later hb4)
 clear hb4 cv fv zv
 go_wp2_with fail
 go_ret
 exact ⟨by first | rfl | simp, HT.out.low⟩
end Go.Proofs.YtcmdhfccdkjenaaGreatDoor
