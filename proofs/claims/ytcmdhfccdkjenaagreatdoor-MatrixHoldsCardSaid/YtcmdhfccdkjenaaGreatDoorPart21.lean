/- crupperref13.Satisfies, In: as walks (printed by gen_ref13.py). The statement MatrixHolds: the walk of the law. Roles and statements among a law's arguments: opened to data, and read again in a later world. Rows of statements among a law's arguments: opened. Policies among a law's arguments: opened. What the proofs of tied cards over math/bits.deBruijn64tab share: the world of the witness, the table's cells, roles and queries opened. -/
import Derived.Test.YtcmdhfccdkjenaaGreatDoorPart12
import Derived.Test.YtcmdhfccdkjenaaGreatDoorPart16
import Derived.Test.YtcmdhfccdkjenaaGreatDoorPart20
import Derived.Test.YtcmdhfccdkjenaaGreatDoorPart5
import Derived.ProofKit
import Derived.OpenShut
import Derived.ChangeMaps5
import Derived.Deep.Strs
import Derived.Test.YtcmdhfccdkjenaaGreatDoorPart3
import Derived.Deep.Slices
import Derived.Test.YtcmdhfccdkjenaaGreatDoorPart6
import Derived.Test.YtcmdhfccdkjenaaGreatDoorCards
import Derived.Test.YtcmdhfccdkjenaaGreatDoorTie
import Derived.Test.YtcmdhfccdkjenaaGreatDoorPart13
import Derived.Lay
import Derived.Deep.DeepHandedRow
import Derived.Lib.LaidTab
import Derived.Shelf.Strings.Shaped
import Derived.HandedShaped
namespace Go.Proofs.YtcmdhfccdkjenaaGreatDoor
open Go.RowKit Go.Shelf

set_option maxRecDepth 100000 in
set_option maxHeartbeats 8000000 in
theorem ref13_Satisfies (va : Value) (ps : List Pr) (q : Qv) (us : List ByteArray) (w : World) (ha : SlA w 3 va ps.length (ps.flatMap pcells)) (hn : ps.length ≤ 10000) (hu : SlA w 1 q.w us.length (strs us)) :
  Calls Tryz.prog 39 #[va, qv q] w fun e w' => e = .returned (.bool (satQ (membersP ps) q us)) ∧ Below w.heap.size w w' := by
 have HA := Lib.hid ha
 have HU := Lib.hid hu
 have hma := membersP_len ps q.a
 have RS := Lib.hid (show satQ (membersP ps) q us = if q.k = 1 ∨ q.k = 2 then insideB us (membersP ps q.a) else if q.k = 3 then insideB (membersP ps q.a) us else if q.k = 4 then decide ((membersP ps q.a).length = 0) else if q.k = 5 then !((membersP ps q.a).any fun s => hasB (membersP ps q.b) s) else if q.k = 6 then insideB (membersP ps q.a) (membersP ps q.b) else false from rfl)
 generalize satQ (membersP ps) q us = res at RS ⊢
 obtain ⟨xk, ⟨x1, x2⟩, ⟨x3, x4⟩, wv⟩ := q
 dsimp only at RS HU hu hma
 obtain ⟨wo, wc, rfl⟩ := hu.form
 have HT := Lib.hid (show OneAt w #[.int .i64 xk, .string x1, .string x2, .string x3, .string x4, .slice wo us.length wc] (w.alloc (.cells #[.int .i64 xk, .string x1, .string x2, .string x3, .string x4, .slice wo us.length wc] 45)) from ⟨Blk.new w _ _, (Below.refl _ _).alloc (Nat.le_refl _) _⟩)
 clear hu ha
 go_enter Tryz.func39, Tryz.ntmps39
 go_wp2_with fail
 refine (ref11_Members va ps ⟨x1, x2⟩ _ (HA.out.below HT.out.low) hn).mono ?_
 rintro e w1 ⟨v1, rfl, hs1, hb1⟩
 obtain ⟨a1, c1, rfl⟩ := hs1.form
 have HT := Lib.hid (HT.out.later hb1)
 have H1 := Lib.hid hs1
 clear hs1 hb1
 obtain ⟨ca, fa, za⟩ := HT.out.a
 go_wp2_with fail
 refine (ref11_Members va ps ⟨x3, x4⟩ _ (HA.out.below HT.out.low) hn).mono ?_
 rintro e w2 ⟨v2, rfl, hs2, hb2⟩
 obtain ⟨a2, c2, rfl⟩ := hs2.form
 have HT := Lib.hid (HT.out.later hb2)
 have H1 := Lib.hid (H1.out.below hb2)
 have H2 := Lib.hid hs2
 clear hs2 hb2 ca fa za
 have HU := Lib.hid (HU.out.below HT.out.low)
 obtain ⟨ca, fa, za⟩ := HT.out.a
 generalize membersP ps ⟨x1, x2⟩ = ms at *
 generalize membersP ps ⟨x3, x4⟩ = ns at *
 by_cases h1 : xk = 1
 ·subst h1
  have R : Hid (res = insideB us ms) := Lib.hid (RS.out.trans (by rfl))
  clear RS
  go_wp2_with fail
  refine (ref11_Inside _ _ us ms w2 HU.out H1.out).mono ?_
  rintro e w3 ⟨rfl, rfl⟩
  clear ca fa za
  go_wp2_with fail
  go_ret
  exact ⟨ret_b R.out.symm, HT.out.low⟩
 by_cases h2 : xk = 2
 ·subst h2
  have R : Hid (res = insideB us ms) := Lib.hid (RS.out.trans (by rfl))
  clear RS
  go_wp2_with fail
  refine (ref11_Inside _ _ us ms w2 HU.out H1.out).mono ?_
  rintro e w3 ⟨rfl, rfl⟩
  clear ca fa za
  go_wp2_with fail
  go_ret
  exact ⟨ret_b R.out.symm, HT.out.low⟩
 by_cases h3 : xk = 3
 ·subst h3
  have R : Hid (res = insideB ms us) := Lib.hid (RS.out.trans (by rfl))
  clear RS
  go_wp2_with fail
  refine (ref11_Inside _ _ ms us w2 H1.out HU.out).mono ?_
  rintro e w3 ⟨rfl, rfl⟩
  clear ca fa za
  go_wp2_with fail
  go_ret
  exact ⟨ret_b R.out.symm, HT.out.low⟩
 by_cases h4 : xk = 4
 ·subst h4
  have R : Hid (res = decide (ms.length = 0)) := Lib.hid (RS.out.trans (by rfl))
  clear RS
  by_cases h0 : ms.length = 0
  ·have d0 : decide ((ms.length : Int) = 0) = true := decide_eq_true (by omega)
   have R := Lib.hid (R.out.trans (decide_eq_true h0))
   go_wp2
   go_ret
   exact ⟨by rw [R.out]; simp [h0], HT.out.low⟩
  ·have R := Lib.hid (R.out.trans (decide_eq_false h0))
   go_wp2
   go_ret
   exact ⟨by rw [R.out]; simp [h0], HT.out.low⟩
 by_cases h5 : xk = 5
 ·subst h5
  have R : Hid (res = !(ms.any fun s => hasB ns s)) := Lib.hid (RS.out.trans (by rfl))
  clear RS
  have RY := Lib.hid (fun k (hk : ¬ k < ms.length) (h : ∀ j (hj : j < ms.length), j < k → hasB ns ms[j] = false) => show res = true by
   rw [R.out, Bool.not_eq_true', List.any_eq_false]
   intro x hx
   obtain ⟨j, hj, rfl⟩ := List.getElem_of_mem hx
   rw [h j hj (by omega)]; exact Bool.false_ne_true)
  have RN := Lib.hid (fun k (hk : k < ms.length) (h : hasB ns ms[k] = true) => show res = false by
   rw [R.out, Bool.not_eq_false', List.any_eq_true]
   exact ⟨ms[k], List.getElem_mem hk, h⟩)
  have HH := Lib.hid (fun s => ref1_HasB _ ns s w2 H2.out)
  clear R
  go_wp2_with fail
  go_loopw [41] (fun i wr => ∃ k : Nat, k ≤ ms.length ∧ i = .int .i64 k ∧ wr = w2 ∧ Hid (∀ j (hj : j < ms.length), j < k → hasB ns ms[j] = false)) (fun i _ => ms.length - (intOf i).toNat)
  case atStart => exact ⟨0, by omega, rfl, rfl, Lib.hid (fun _ _ h => absurd h (by omega))⟩
  case round =>
   obtain ⟨k, hk, rfl, rfl, HK⟩ := hrel
   by_cases hlt : k < ms.length
   ·obtain ⟨b1, o1, e1, he1, hc1, hm1, hb1, hx1⟩ := H1.out.pos (by omega)
    simp only [Value.slice.injEq, true_and] at he1
    obtain ⟨rfl, rfl⟩ := he1
    have p0 := hx1 k _ (strs_get hlt)
    have HN := Lib.hid (fun (hn : hasB ns ms[k] = false) j (hj : j < ms.length) (hjk : j < k + 1) => show hasB ns ms[j] = false by
     by_cases hjk' : j < k
     ·exact HK.out j hj hjk'
     ·obtain rfl : j = k := by omega
      exact hn)
    have HNk := Lib.hid (RN.out k hlt)
    clear hx1
    generalize ms[k] = x at *
    have HHx := Lib.hid (HH.out x)
    generalize hasB ns x = t at *
    go_wp2_with fail
    refine HHx.out.mono ?_
    rintro e w3 ⟨rfl, rfl⟩
    cases t with
    | false =>
     have HN2 := Lib.hid (HN.out rfl)
     clear HN HNk HHx
     go_wp2_with fail
     exact ⟨⟨k + 1, by omega, by go_num, trivial, HN2⟩, by simp [intOf]; omega⟩
    | true =>
     have R := Lib.hid (HNk.out rfl)
     clear HN HNk HHx
     go_wp2_with fail
     go_ret
     exact ⟨ret_b R.out.symm, HT.out.low⟩
   ·have R := Lib.hid (RY.out k hlt HK.out)
    go_wp2
    go_ret
    exact ⟨ret_b R.out.symm, HT.out.low⟩
 by_cases h6 : xk = 6
 ·subst h6
  have R : Hid (res = insideB ms ns) := Lib.hid (RS.out.trans (by rfl))
  clear RS
  go_wp2_with fail
  refine (ref11_Inside _ _ ms ns w2 H1.out H2.out).mono ?_
  rintro e w3 ⟨rfl, rfl⟩
  clear ca fa za
  go_wp2_with fail
  go_ret
  exact ⟨ret_b R.out.symm, HT.out.low⟩
 have R : Hid (res = false) := Lib.hid (RS.out.trans (by rw [if_neg (by omega), if_neg h3, if_neg h4, if_neg h5, if_neg h6]))
 clear RS
 have d1 : (xk == 1) = false := by simp [h1]
 have d2 : (xk == 2) = false := by simp [h2]
 have d3 : (xk == 3) = false := by simp [h3]
 have d4 : (xk == 4) = false := by simp [h4]
 have d5 : (xk == 5) = false := by simp [h5]
 have d6 : (xk == 6) = false := by simp [h6]
 clear h1 h2 h3 h4 h5 h6
 go_wp2
 go_ret
 exact ⟨ret_b R.out.symm, HT.out.low⟩
end Go.Proofs.YtcmdhfccdkjenaaGreatDoor
namespace Go.Proofs.YtcmdhfccdkjenaaGreatDoor
open Go.RowKit Go.Shelf

structure RowOK (PS ins : List ByteArray) (x : MR) : Prop where
 lo : insideB x.lo ins = true
 hi : ∀ y ∈ ins, hasB x.hi y = true ∨ (hasB PS y = false ∧ x.op = true)
 k3 : x.op = true → x.k = 3
theorem rowM_ok {PS ins : List ByteArray} {ps es : List Pr} {r : Rl} (hlo : insideB (membersP ps r) ins = true) (hK : ∀ y ∈ ins, hasB (membersP es r) (sig PS y) = true) : RowOK PS ins (rowM ps es (freshB PS) r) := by
 refine ⟨hlo, fun y hy => ?_, fun h => ?_⟩
 ·have h := hK y hy
  by_cases hp : hasB PS y = true
  ·left
   rw [show sig PS y = y from if_pos hp, hasB_mem] at h
   rw [hasB_mem]
   refine List.mem_filter.2 ⟨h, ?_⟩
   have : y ≠ freshB PS := fun e => freshB_not PS (e ▸ (hasB_mem _ _).1 hp)
   simp [this]
  ·right
   rw [show sig PS y = freshB PS from if_neg hp, hasB_mem] at h
   exact ⟨by simpa using hp, List.any_eq_true.2 ⟨_, h, by simp⟩⟩
 ·show kindM _ _ _ = 3
  unfold kindM
  exact if_pos h
theorem facts_sat {PS : List ByteArray} {x : MR} {M : Rl → List ByteArray} (h : RowOK PS (M x.r) x) (wv : Value) : ∀ q ∈ factsOf x, satQ M ⟨q.k, q.r, noR, wv⟩ q.us = true := by
 intro q hq
 unfold factsOf at hq
 rcases List.mem_append.1 hq with hq | hq
 ·split at hq
  ·cases hq
  ·rw [List.mem_singleton.1 hq]
   unfold satQ
   rw [if_pos (.inl rfl)]
   have h1 := h.lo
   unfold insideB at h1 ⊢
   rw [List.all_eq_true] at h1 ⊢
   exact fun y hy => h1 y (List.mem_of_mem_take hy)
 ·split at hq
  ·rename_i hk
   rw [List.mem_singleton.1 hq]
   unfold satQ
   rw [if_neg (by show ¬ ((3 : Int) = 1 ∨ (3 : Int) = 2); decide), if_pos rfl]
   unfold insideB
   rw [List.all_eq_true]
   intro y hy
   rcases h.hi y hy with h1 | ⟨_, h1⟩
   ·exact h1
   ·exact absurd (h.k3 h1) hk.1
  ·cases hq
theorem factsM_sat {PS : List ByteArray} {R : List MR} {M : Rl → List ByteArray} (h : ∀ x ∈ R, RowOK PS (M x.r) x) {T : List FV} {n : Nat} (hT : T.map FV.s = (factsM R).take n) : ∀ t ∈ T, satQ M ⟨t.s.k, t.s.r, noR, t.wv⟩ t.s.us = true := by
 intro t ht
 have h1 : t.s ∈ T.map FV.s := List.mem_map.2 ⟨t, ht, rfl⟩
 rw [hT] at h1
 obtain ⟨x, hx, hq⟩ := List.mem_flatMap.1 (List.mem_of_mem_take h1)
 exact facts_sat (h x hx) t.wv _ hq
theorem fv_cell {w : World} {b off : Nat} {l : List FV} (h : ∀ j u, (l.flatMap FV.cells)[j]? = some u → w.cell? ⟨b, off + j, none⟩ = some u) (k : Nat) (hk : k < l.length) :
  w.cell? ⟨b, off + k * 6, none⟩ = some (.int .i64 l[k].s.k) ∧ w.cell? ⟨b, off + k * 6 + 1, none⟩ = some (.string l[k].s.r.o) ∧ w.cell? ⟨b, off + k * 6 + 2, none⟩ = some (.string l[k].s.r.n) ∧ w.cell? ⟨b, off + k * 6 + 3, none⟩ = some (.string emp) ∧ w.cell? ⟨b, off + k * 6 + 4, none⟩ = some (.string emp) ∧ w.cell? ⟨b, off + k * 6 + 5, none⟩ = some l[k].wv := by
 have hg : ∀ f (hf : f < 6), w.cell? ⟨b, off + k * 6 + f, none⟩ = l[k].cells[f]? := fun f hf => by
  have e := flat_get FV.cells 6 FV.cells_len l k f hf l[k] (List.getElem?_eq_getElem hk)
  have hs : (l[k].cells)[f]? = some ((l[k].cells)[f]'(by rw [FV.cells_len]; exact hf)) := List.getElem?_eq_getElem _
  rw [hs] at e ⊢
  rw [Nat.add_assoc]
  exact h _ _ e
 exact ⟨hg 0 (by decide), hg 1 (by decide), hg 2 (by decide), hg 3 (by decide), hg 4 (by decide), hg 5 (by decide)⟩
set_option maxRecDepth 100000 in
set_option maxHeartbeats 4000000 in
theorem law41_small0 (v0 v1 v2 v3 : Value) (l : List St) (g h : List Rl) (qs : List Qv) (w : World) (hp : PolAt w v0 v1 v2 v3 l g h qs) (hT : TB w) :
  Calls Tryz.prog 50 #[pv v0 v1 v2 v3] w fun e w' => (∃ b, e = .returned (.bool b) ∧ (b = true → ∃ F, MatQ w v0 v1 v2 v3 l g h qs F ∧ RightP l g h qs F ∧ (newB (allPrins l g h qs F)).length ≤ 5 ∧ (newB (allNames l g h qs)).length ≤ 4)) ∧ Below w.heap.size w w' := by
 by_cases hM : ∃ F, MatQ w v0 v1 v2 v3 l g h qs F
 ·obtain ⟨F, hM⟩ := hM
  refine (law41_small hM).mono ?_
  rintro e w' ⟨⟨b, rfl, hb⟩, hb'⟩
  exact ⟨⟨b, rfl, fun e => ⟨F, hM, hb e⟩⟩, hb'⟩
 have LP := Lib.hid (fun W hb => law5_LightS v0 v1 v2 v3 l g h qs W (hp.below (w' := W) hb))
 have HP := Lib.hid hp
 have HTB := Lib.hid hT
 have HNO := Lib.hid hM
 obtain ⟨a0, c0, rfl⟩ := hp.rs.form
 obtain ⟨a1, c1, rfl⟩ := hp.rg.form
 obtain ⟨a2, c2, rfl⟩ := hp.rh.form
 obtain ⟨a3, c3, rfl⟩ := hp.rq.form
 have HT := Lib.hid (show OneAt w #[.slice a0 l.length c0, .slice a1 g.length c1, .slice a2 h.length c2, .slice a3 qs.length c3] (w.alloc (.cells #[.slice a0 l.length c0, .slice a1 g.length c1, .slice a2 h.length c2, .slice a3 qs.length c3] 26)) from ⟨Blk.new w _ _, (Below.refl _ _).alloc (Nat.le_refl _) _⟩)
 clear hp hT hM
 go_enter Tryz.func50, Tryz.ntmps50
 go_wp2_with fail
 refine (LP.out _ HT.out.low).mono ?_
 rintro e w1 ⟨⟨bp, rfl, hlp⟩, hb1⟩
 have HT := Lib.hid (HT.out.later hb1)
 clear hb1 LP
 cases bp with
 | false =>
  clear hlp
  go_wp2_with fail
  go_ret
  exact ⟨⟨false, rfl, fun h => by cases h⟩, HT.out.low⟩
 | true =>
  obtain ⟨⟨hl30, hg30, hh30, hq30, hl40, hqk⟩, hgh⟩ := hlp rfl
  obtain ⟨F, hF, hFs⟩ := who_ex2 HP.out.lq (fun x hx => (hqk x hx).1)
  exact absurd ⟨F, HP.out, hl30, hg30, hh30, hq30, hl40, hgh, fun q hq => (hqk q hq).2, hF, hFs, HTB.out⟩ HNO.out
set_option maxRecDepth 100000 in
set_option maxHeartbeats 16000000 in
theorem law41_MatrixHolds (v0 v1 v2 v3 vc : Value) (l m : List St) (g h : List Rl) (qs : List Qv) (w : World) (hp : PolAt w v0 v1 v2 v3 l g h qs) (hc : SlA w 9 vc m.length (m.flatMap St.cells)) (hm : allLe m 9223372036854775807) (hT : TB w) :
  Calls Tryz.prog 11 #[pv v0 v1 v2 v3, vc] w fun e w' => e = .returned (.bool true) ∧ Below w.heap.size w w' := by
 have HL := Lib.hid (fun W hb => law41_lives W (hT.below (w' := W) hb))
 have SM := Lib.hid (fun W hb => law41_small0 v0 v1 v2 v3 l g h qs W (hp.below (w' := W) hb) (hT.below hb))
 have LC := Lib.hid (fun W hb => law10_Light vc m W (hc.below (w' := W) hb) hm)
 have HC := Lib.hid hc
 obtain ⟨a0, c0, rfl⟩ := hp.rs.form
 obtain ⟨a1, c1, rfl⟩ := hp.rg.form
 obtain ⟨a2, c2, rfl⟩ := hp.rh.form
 obtain ⟨a3, c3, rfl⟩ := hp.rq.form
 obtain ⟨cm, cc, rfl⟩ := hc.form
 have HT := Lib.hid (show OneAt w #[.slice a0 l.length c0, .slice a1 g.length c1, .slice a2 h.length c2, .slice a3 qs.length c3] (w.alloc (.cells #[.slice a0 l.length c0, .slice a1 g.length c1, .slice a2 h.length c2, .slice a3 qs.length c3] 26)) from ⟨Blk.new w _ _, (Below.refl _ _).alloc (Nat.le_refl _) _⟩)
 clear hp hT hc hm
 go_enter Tryz.func11, Tryz.ntmps11
 go_wp2_with fail
 refine (SM.out _ HT.out.low).mono ?_
 rintro e w1 ⟨⟨bp, rfl, hlp⟩, hb1⟩
 have HT := Lib.hid (HT.out.later hb1)
 have HLP := Lib.hid hlp
 clear hlp SM
 cases bp with
 | false =>
  go_wp2_with fail
  refine (HL.out _ HT.out.low).mono ?_
  rintro e w6 ⟨rfl, hb6⟩
  have T6 := Lib.hid (HT.out.later hb6)
  clear hb6
  go_wp2
  go_ret
  exact ⟨rfl, T6.out.low⟩
 | true =>
 obtain ⟨F, hM, hRP, h5, h4⟩ := HLP.out (by first | rfl | trivial)
 have HP := Lib.hid (hM.below hb1)
 have HRP := Lib.hid hRP
 have N5 := Lib.hid h5
 have N4 := Lib.hid h4
 clear HLP hM hb1 hRP h5 h4
 go_wp2_with fail
 refine (LC.out _ HT.out.low).mono ?_
 rintro e w2 ⟨bc, rfl, hlc, hb2⟩
 have HT := Lib.hid (HT.out.later hb2)
 have HP := Lib.hid (HP.out.below hb2)
 have HLC := Lib.hid hlc
 clear hlc hb2 LC
 cases bc with
 | false =>
  go_wp2_with fail
  refine (HL.out _ HT.out.low).mono ?_
  rintro e w6 ⟨rfl, hb6⟩
  have T6 := Lib.hid (HT.out.later hb6)
  clear hb6
  go_wp2
  go_ret
  exact ⟨rfl, T6.out.low⟩
 | true =>
 obtain ⟨hm40, hmle⟩ := HLC.out (by first | rfl | trivial)
 have HM4 : Hid (allLe m 4294967) := Lib.hid (fun x hx => (hmle x hx).mono (by decide))
 have BD := Lib.hid (sound_bound hm40)
 clear HLC hmle
 have HC := Lib.hid (HC.out.below HT.out.low)
 obtain ⟨ca, fa, za⟩ := HT.out.a
 go_wp2_with fail
 refine (ref10_Reaches (.slice a0 l.length c0) (.slice a1 g.length c1) (.slice a2 h.length c2) (.slice a3 qs.length c3) _ l m g h qs _ HP.out.at_ HC.out HM4.out).mono ?_
 rintro e w5 ⟨rfl, hb5⟩
 have HT := Lib.hid (HT.out.later hb5)
 have HP := Lib.hid (HP.out.below hb5)
 have HC := Lib.hid (HC.out.below hb5)
 clear hb5 ca fa za
 cases hre : reachS l g h m with
 | false =>
  go_wp2_with fail
  refine (HL.out _ HT.out.low).mono ?_
  rintro e w6 ⟨rfl, hb6⟩
  have T6 := Lib.hid (HT.out.later hb6)
  clear hb6
  go_wp2
  go_ret
  exact ⟨rfl, T6.out.low⟩
 | true =>
 have HRE := Lib.hid hre
 clear hre
 obtain ⟨ps0, hps0⟩ := least_ex (minS l h)
 have HLE0 := Lib.hid hps0
 obtain ⟨es0, hes0⟩ := least_ex (maxS l g (newB (allPrins l g h qs F)) (newB (allNames l g h qs)))
 have HEE0 := Lib.hid hes0
 clear hps0 hes0
 have PX := HP.out.polx HRP.out
 have KEY := Lib.hid (fun (ps : List Pr) (hE : LeastS m (fun r x => (r, x) ∈ ps)) (q : Rl) (hq : q ∈ allR (newB (allPrins l g h qs F)) (newB (allNames l g h qs))) =>
  rowM_ok (PS := newB (allPrins l g h qs F)) (ins := membersP ps q) (ps := ps0) (es := es0) (r := q) (members_mono HLE0.out hE (min_in HRE.out) q) (fun y hy => max_members PX.inAB (fun r hr => (PX.inG r hr).1) HEE0.out hE (fun s hs => ((reach_iff.1 HRE.out).1 s hs).2) (allR_mem.1 hq).1 (allR_mem.1 hq).2 hy))
 have FIT := Lib.hid (fun (q : Rl) (hq : q ∈ allR (newB (allPrins l g h qs F)) (newB (allNames l g h qs))) (x : MV) (hx : x.s = rowM ps0 es0 (freshB (newB (allPrins l g h qs F))) q) => row_fits PX (by have := N5.out; omega) HLE0.out HEE0.out hq hx)
 have PR := Lib.hid (fun W (hb : Below w5.heap.size w5 W) => ref5_PrinsX ((HP.out.below hb).polx HRP.out))
 have hal : (allR (newB (allPrins l g h qs F)) (newB (allNames l g h qs))).length ≤ 20 := by
  rw [allR_len]
  exact Nat.mul_le_mul N5.out N4.out
 clear PX
 obtain ⟨ca, fa, za⟩ := HT.out.a
 go_wp2_with fail
 refine (matq_Of HP.out HRP.out ps0 es0 HLE0.out HEE0.out).mono ?_
 rintro e w6 ⟨vl, R, rfl, hsl, hri, hmap, hb6⟩
 have HMAP := Lib.hid hmap
 have hRl : R.length ≤ 20 := by
  have := congrArg List.length hmap
  rw [List.length_map, List.length_map] at this
  omega
 clear hmap N5 N4 hal HP HRP HRE HLE0 HEE0
 have HRW : Hid (∀ x ∈ R, ∃ q, q ∈ allR (newB (allPrins l g h qs F)) (newB (allNames l g h qs)) ∧ x.s = rowM ps0 es0 (freshB (newB (allPrins l g h qs F))) q) := Lib.hid (fun x hx => by
  have h1 : x.s ∈ R.map MV.s := List.mem_map.2 ⟨x, hx, rfl⟩
  rw [HMAP.out] at h1
  obtain ⟨q, hq, e⟩ := List.mem_map.1 h1
  exact ⟨q, hq, e.symm⟩)
 have KEYX := Lib.hid (fun (ps : List Pr) (hE : LeastS m (fun r x => (r, x) ∈ ps)) (x : MV) (hx : x ∈ R) => show RowOK (newB (allPrins l g h qs F)) (membersP ps x.s.r) x.s by
  obtain ⟨q, hq, e⟩ := HRW.out x hx
  rw [e]
  exact KEY.out ps hE q hq)
 have FITX := Lib.hid (fun (x : MV) (hx : x ∈ R) => show x.s.lo.length ≤ 10000 ∧ x.s.hi.length ≤ 10000 by
  obtain ⟨q, hq, e⟩ := HRW.out x hx
  exact ⟨Nat.le_trans (FIT.out q hq x e).2.ll (by decide), Nat.le_trans (FIT.out q hq x e).2.hl (by decide)⟩)
 clear HMAP HRW KEY FIT
 generalize newB (allPrins l g h qs F) = PS at *
 have HT := Lib.hid (HT.out.later hb6)
 have HC := Lib.hid (HC.out.below hb6)
 have HSL := Lib.hid hsl.a
 have HRI := Lib.hid hri
 have PR := Lib.hid (fun W (hb : Below w6.heap.size w6 W) => PR.out W (hb6.trans (hb.mono hb6.size)))
 obtain ⟨la, lc, rfl⟩ := hsl.form
 clear hsl hri hb6 ca fa za
 go_wp2_with fail
 refine (ref11_Eval (.slice cm m.length cc) m 1600 _ HC.out (by omega) BD.out).mono ?_
 rintro e w7 ⟨v7, ps, rfl, ho7, hle, _, hpl, hb7⟩
 obtain ⟨a7, c7, rfl⟩ := own_form ho7
 have HT := Lib.hid (HT.out.later hb7)
 have HS7 := Lib.hid (Sl.of_own ho7).a
 have HSL := Lib.hid (HSL.out.below hb7)
 have HRI := Lib.hid (HRI.out.below hb7)
 have KEY := Lib.hid (KEYX.out ps hle)
 have PR := Lib.hid (PR.out w7 hb7)
 clear ho7 hb7 hle BD HC HM4 KEYX
 obtain ⟨ca, fa, za⟩ := HT.out.a
 go_wp2_with fail
 refine PR.out.mono ?_
 rintro e w8 ⟨v8, rfl, ho8, hb8⟩
 obtain ⟨a8, c8, rfl⟩ := own_form ho8
 have HT := Lib.hid (HT.out.later hb8)
 have HS7 := Lib.hid (HS7.out.below hb8)
 have HSL := Lib.hid (HSL.out.below hb8)
 have HRI := Lib.hid (HRI.out.below hb8)
 have HO8 := Lib.hid (Sl.of_own ho8).a
 clear ho8 hb8 ca fa za PR
 go_wp2_with fail
 go_loopw [42] (fun i wr => ∃ k : Nat, k ≤ R.length ∧ i = .int .i64 k ∧ Hid (Below w8.heap.size w8 wr)) (fun i _ => R.length - (intOf i).toNat)
 case atStart => exact ⟨0, by omega, rfl, Lib.hid (Below.refl _ _)⟩
 case round =>
  obtain ⟨k, hk, rfl, HB⟩ := hrel
  by_cases hlt : k < R.length
  ·obtain ⟨b1, o1, c1', he1, hc1, hm1, hb1', hx1⟩ := (HSL.out.below HB.out).pos (by omega)
   simp only [Value.slice.injEq, true_and] at he1
   obtain ⟨rfl, rfl⟩ := he1
   obtain ⟨p0, p1, p2, p3, p4, p5⟩ := mv_cell hx1 k hlt
   have HXK := Lib.hid (HRI.out.below HB.out |>.ok R[k] (List.getElem_mem hlt))
   have KX := Lib.hid (KEY.out R[k] (List.getElem_mem hlt))
   have HS9 := Lib.hid (HS7.out.below HB.out)
   have HO9 := Lib.hid (HO8.out.below HB.out)
   clear hx1
   generalize R[k] = x at *
   obtain ⟨⟨⟨y1, y2⟩, lo, hi, op, kk⟩, lv, hv⟩ := x
   obtain ⟨g1, g3, e1⟩ := HXK.out.1.form
   obtain ⟨g4, g6, e2⟩ := HXK.out.2.form
   dsimp only at e1 e2 p0 p1 p2 p3 p4 p5
   subst e1 e2
   have HLO := Lib.hid HXK.out.1
   have HHI := Lib.hid HXK.out.2
   dsimp only at HLO HHI
   have hba : Below wr.heap.size wr (wr.alloc (.cells #[.string y1, .string y2, .slice g1 lo.length g3, .slice g4 hi.length g6, .bool op, .int .i64 kk] 77)) := (Below.refl _ _).alloc (Nat.le_refl _) _
   have HLO := Lib.hid (HLO.out.below hba)
   have HHI := Lib.hid (HHI.out.below hba)
   have HS9 := Lib.hid (HS9.out.below hba)
   have HO9 := Lib.hid (HO9.out.below hba)
   have HB9 := Lib.hid (HB.out.trans (hba.mono HB.out.size))
   have HX := Lib.hid (Blk.new wr #[.string y1, .string y2, .slice g1 lo.length g3, .slice g4 hi.length g6, .bool op, .int .i64 kk] 77)
   clear hba HXK
   go_wp2_with fail
   refine (ref11_MembersO (.slice a7 ps.length c7) ps ⟨y1, y2⟩ _ HS9.out (by omega)).mono ?_
   rintro e w10 ⟨v10, rfl, ho10, hb10⟩
   obtain ⟨a10, c10, rfl⟩ := own_form ho10
   have HLO := Lib.hid (HLO.out.below hb10)
   have HHI := Lib.hid (HHI.out.below hb10)
   have HO9 := Lib.hid (HO9.out.below hb10)
   have HB9 := Lib.hid (HB9.out.trans (hb10.mono HB9.out.size))
   have HX := Lib.hid (HX.out.below hb10)
   have HM := Lib.hid (Sl.of_own ho10).a
   have hl10 := membersP_len ps ⟨y1, y2⟩
   clear ho10 hb10 HS9 p0 p1 p2 p3 p4 p5
   generalize membersP ps ⟨y1, y2⟩ = ys at *
   obtain ⟨cx, fx, zx⟩ := HX.out
   go_wp2_with fail
   refine (ref11_Inside (.slice g1 lo.length g3) (.slice a10 ys.length c10) lo ys _ HLO.out HM.out).mono ?_
   rintro e w11 ⟨rfl, rfl⟩
   rw [KX.out.lo]
   go_wp2_with fail
   clear cx fx zx
   go_loopw [57] (fun i wq => ∃ q : Nat, q ≤ ys.length ∧ i = .int .i64 q ∧ wq = w11) (fun i _ => ys.length - (intOf i).toNat)
   case atStart => exact ⟨0, by omega, rfl, rfl⟩
   case round =>
    obtain ⟨q, hq, rfl, rfl⟩ := hrel
    by_cases hlt2 : q < ys.length
    ·obtain ⟨b3, o3, e3, he3, hc3, hm3, hb3, hx3⟩ := HM.out.pos (by omega)
     simp only [Value.slice.injEq, true_and] at he3
     obtain ⟨rfl, rfl⟩ := he3
     have r0 := hx3 q _ (strs_get hlt2)
     have KY := Lib.hid (KX.out.hi ys[q] (List.getElem_mem hlt2))
     clear hx3
     generalize ys[q] = y at *
     obtain ⟨cx, fx, zx⟩ := HX.out
     go_wp2_with fail
     refine (ref1_HasB (.slice g4 hi.length g6) hi y _ HHI.out).mono ?_
     rintro e w12 ⟨rfl, rfl⟩
     cases hhas : hasB hi y with
     | true =>
      clear hhas
      go_wp2_with fail
      exact ⟨⟨q + 1, by omega, by go_num, by first | rfl | trivial⟩, by simp [intOf]; omega⟩
     | false =>
      have hno := KY.out.resolve_left (by show ¬ hasB hi y = true; rw [hhas]; exact Bool.false_ne_true)
      clear hhas
      go_wp2_with fail
      refine (ref1_HasB (.slice a8 PS.length c8) PS y _ HO9.out).mono ?_
      rintro e w13 ⟨rfl, rfl⟩
      rw [hno.1]
      obtain ⟨_, hop⟩ := hno
      obtain rfl : op = true := hop
      go_wp2_with fail
      exact ⟨⟨q + 1, by omega, by go_num, by first | rfl | trivial⟩, by simp [intOf]; omega⟩
    ·go_wp2_with fail
     exact ⟨⟨k + 1, by omega, by go_num, HB9⟩, by simp [intOf]; omega⟩
  ·have HT := Lib.hid (HT.out.later HB.out)
   have HS9 := Lib.hid (HS7.out.below HB.out)
   have HSL := Lib.hid (HSL.out.below HB.out)
   have HRI := Lib.hid (HRI.out.below HB.out)
   clear HS7 HO8 HB
   go_wp2_with fail
   refine (mat_Facts (.slice la R.length lc) R 1000 _ (by omega) HSL.out HRI.out.ok FITX.out (by omega)).mono ?_
   rintro e w10 ⟨v10, T, rfl, hs10, hfi, hmap, hb10⟩
   have KT : Hid (∀ t ∈ T, satQ (membersP ps) ⟨t.s.k, t.s.r, noR, t.wv⟩ t.s.us = true) := Lib.hid (factsM_sat (PS := PS) (fun x hx => by
    obtain ⟨y, hy, rfl⟩ := List.mem_map.1 hx
    exact KEY.out y hy) hmap)
   have HT := Lib.hid (HT.out.later hb10)
   have HS9 := Lib.hid (HS9.out.below hb10)
   have HS10 := Lib.hid hs10.a
   have HFI := Lib.hid hfi
   obtain ⟨a10, c10, rfl⟩ := hs10.form
   have htl := hs10.max
   clear hs10 hfi hmap hb10 HSL HRI KEY FITX
   go_wp2_with fail
   go_loopw [81] (fun i wr => ∃ k : Nat, k ≤ T.length ∧ i = .int .i64 k ∧ Hid (Below w10.heap.size w10 wr)) (fun i _ => T.length - (intOf i).toNat)
   case atStart => exact ⟨0, by omega, rfl, Lib.hid (Below.refl _ _)⟩
   case round =>
    obtain ⟨k, hk, rfl, HB⟩ := hrel
    by_cases hlt2 : k < T.length
    ·obtain ⟨b1, o1, c1', he1, hc1, hm1, hb1', hx1⟩ := (HS10.out.below HB.out).pos (by omega)
     simp only [Value.slice.injEq, true_and] at he1
     obtain ⟨rfl, rfl⟩ := he1
     obtain ⟨p0, p1, p2, p3, p4, p5⟩ := fv_cell hx1 k hlt2
     have HU := Lib.hid (Sl.of_own ((HFI.out.below HB.out) T[k] (List.getElem_mem hlt2))).a
     have KU := Lib.hid (KT.out T[k] (List.getElem_mem hlt2))
     have HSa := Lib.hid (HS9.out.below HB.out)
     clear hx1
     generalize T[k] = t at *
     obtain ⟨⟨tk, ⟨y1, y2⟩, us⟩, wv⟩ := t
     obtain ⟨g1, g3, e1⟩ := HU.out.form
     dsimp only at e1 p0 p1 p2 p3 p4 p5 HU KU
     subst e1
     have hba : Below wr.heap.size wr (wr.alloc (.cells #[.int .i64 tk, .string y1, .string y2, .string emp, .string emp, .slice g1 us.length g3] 45)) := (Below.refl _ _).alloc (Nat.le_refl _) _
     have HU := Lib.hid (HU.out.below hba)
     have HSa := Lib.hid (HSa.out.below hba)
     have HBa := Lib.hid (HB.out.trans (hba.mono HB.out.size))
     clear hba
     go_wp2_with fail
     refine (ref13_Satisfies (.slice a7 ps.length c7) ps ⟨tk, ⟨y1, y2⟩, noR, .slice g1 us.length g3⟩ us _ HSa.out (by omega) HU.out).mono ?_
     rintro e w11 ⟨rfl, hb11⟩
     rw [KU.out]
     have HBb := Lib.hid (HBa.out.trans (hb11.mono HBa.out.size))
     clear hb11 p0 p1 p2 p3 p4 p5
     go_wp2_with fail
     exact ⟨⟨k + 1, by omega, by go_num, HBb⟩, by simp [intOf]; omega⟩
    ·have HT := Lib.hid (HT.out.later HB.out)
     go_wp2_with fail
     refine (HL.out _ HT.out.low).mono ?_
     rintro e w6 ⟨rfl, hb6⟩
     have T6 := Lib.hid (HT.out.later hb6)
     clear hb6
     go_wp2
     go_ret
     exact ⟨rfl, T6.out.low⟩
end Go.Proofs.YtcmdhfccdkjenaaGreatDoor
namespace Go.Proofs.YtcmdhfccdkjenaaGreatDoor
open Go.ChangeShapes Go.WideShapes Go.ChangeAt Go.RowKit

section
variable {H : Type} {enc : TypeId × Value → H} {w : World} {base fuel n : Nat} {sp : Nat → Bool} {held : Bool} {cs : List Value} {x : DataW H × List MemPlace} {v : Value} {d : DataW H} {ps : List MemPlace}
def dStr (H : Type) (s : ByteArray) : DataW H := .lit (.string s.data.toList)
def dRl (H : Type) (r : Rl) : DataW H := .agg [dStr H r.o, dStr H r.n]
def dSt (H : Type) (s : St) : DataW H := .agg [.lit (.int .i64 s.k), dRl H s.h, dStr H s.who, dRl H s.a, dRl H s.b, dStr H s.via]
def St.fits (s : St) : Prop := s.le maxLen ∧ (Lit.int IntKind.i64 s.k).wf = true

theorem two_of (h : cs.length = 2) : ∃ a b, cs = [a, b] := by
 match cs, h with
 | [a, b], _ => exact ⟨a, b, rfl⟩
theorem trod_role (h : DataW.trod enc Tryz.prog w base sp held fuel 28 cs = some x) : ∃ r : Rl, cs = r.cells ∧ x = (dRl H r, []) ∧ r.le maxLen := by
 obtain ⟨xs, n, _, rfl, hl, hlen, hf⟩ := DataW.trod_struct Tryz.underlying28 h
 have hc : Tryz.prog.cellsOf 28 = 2 := by kernel_rfl
 have hs : Tryz.prog.cellsOf 9 = 1 := by kernel_rfl
 rw [hc] at hl
 obtain ⟨a, b, rfl⟩ := two_of hl
 have f0 : DataW.trod enc Tryz.prog w base sp held n 9 [a] = xs[0]? := by simpa [hs] using hf 0 _ rfl
 have f1 : DataW.trod enc Tryz.prog w base sp held n 9 [b] = xs[1]? := by simpa [hs] using hf 1 _ rfl
 match xs, hlen with
 | [y0, y1], _ =>
  simp only [List.getElem?_cons_zero, List.getElem?_cons_succ] at f0 f1
  obtain ⟨s0, e0, g0, l0⟩ := DataW.trod_string Tryz.underlying9 f0
  obtain ⟨s1, e1, g1, l1⟩ := DataW.trod_string Tryz.underlying9 f1
  simp only [List.cons.injEq, and_true] at e0 e1
  subst e0 e1 g0 g1
  exact ⟨⟨s0, s1⟩, rfl, rfl, l0, l1⟩
theorem nine_of (h : cs.length = 9) : ∃ a b c d e f g i j, cs = [a, b, c, d, e, f, g, i, j] := by
 match cs, h with
 | [a, b, c, d, e, f, g, i, j], _ => exact ⟨a, b, c, d, e, f, g, i, j, rfl⟩
theorem trod_stmt (h : DataW.trod enc Tryz.prog w base sp held fuel 35 cs = some x) : ∃ s : St, cs = s.cells ∧ x = (dSt H s, []) ∧ s.fits := by
 obtain ⟨xs, n, _, rfl, hl, hlen, hf⟩ := DataW.trod_struct Tryz.underlying35 h
 have hc : Tryz.prog.cellsOf 35 = 9 := by kernel_rfl
 have hr : Tryz.prog.cellsOf 28 = 2 := by kernel_rfl
 have hi : Tryz.prog.cellsOf 3 = 1 := by kernel_rfl
 have hs : Tryz.prog.cellsOf 9 = 1 := by kernel_rfl
 rw [hc] at hl
 obtain ⟨c0, c1, c2, c3, c4, c5, c6, c7, c8, rfl⟩ := nine_of hl
 have f0 : DataW.trod enc Tryz.prog w base sp held n 3 [c0] = xs[0]? := by simpa [hi] using hf 0 _ rfl
 have f1 : DataW.trod enc Tryz.prog w base sp held n 28 [c1, c2] = xs[1]? := by simpa [hr] using hf 1 _ rfl
 have f2 : DataW.trod enc Tryz.prog w base sp held n 9 [c3] = xs[2]? := by simpa [hs] using hf 2 _ rfl
 have f3 : DataW.trod enc Tryz.prog w base sp held n 28 [c4, c5] = xs[3]? := by simpa [hr] using hf 3 _ rfl
 have f4 : DataW.trod enc Tryz.prog w base sp held n 28 [c6, c7] = xs[4]? := by simpa [hr] using hf 4 _ rfl
 have f5 : DataW.trod enc Tryz.prog w base sp held n 9 [c8] = xs[5]? := by simpa [hs] using hf 5 _ rfl
 match xs, hlen with
 | [y0, y1, y2, y3, y4, y5], _ =>
  simp only [List.getElem?_cons_zero, List.getElem?_cons_succ] at f0 f1 f2 f3 f4 f5
  obtain ⟨k, e0, g0, l0⟩ := DataW.trod_int Tryz.underlying3 f0
  obtain ⟨r1, e1, g1, l1⟩ := trod_role f1
  obtain ⟨s2, e2, g2, l2⟩ := DataW.trod_string Tryz.underlying9 f2
  obtain ⟨r3, e3, g3, l3⟩ := trod_role f3
  obtain ⟨r4, e4, g4, l4⟩ := trod_role f4
  obtain ⟨s5, e5, g5, l5⟩ := DataW.trod_string Tryz.underlying9 f5
  simp only [Rl.cells, List.cons.injEq, and_true] at e0 e1 e2 e3 e4 e5
  obtain ⟨rfl, rfl⟩ := e1
  obtain ⟨rfl, rfl⟩ := e3
  obtain ⟨rfl, rfl⟩ := e4
  subst e0 e2 e5 g0 g1 g2 g3 g4 g5
  exact ⟨⟨k, r1, s2, r3, r4, s5⟩, rfl, rfl, ⟨l1, l2, l3, l4, l5⟩, l0⟩
end
end Go.Proofs.YtcmdhfccdkjenaaGreatDoor
namespace Go.Proofs.YtcmdhfccdkjenaaGreatDoor
open Go.ChangeShapes Go.WideShapes Go.ChangeAt Go.RowKit Go.Deep

theorem laid_out : laidOutB Tryz.prog = true := by kernel_rfl
set_option maxRecDepth 100000 in
theorem open_sts {H : Type} {enc : TypeId × Value → H} {w : World} {base b0 : Nat} {held : Bool} {r : Reach} {v : Value} {d : DataW H} {ps : List MemPlace} (hval : Value.okWide Tryz.prog w r b0 22 v)
  (hd : DataW.Trod enc Tryz.prog w base (fun _ => true) held 22 v d ps) : ∃ l : List St, SlA w 9 v l.length (l.flatMap St.cells) ∧ ∀ s ∈ l, s.fits := by
 obtain ⟨a0, len, cap, rfl⟩ := okWide_slice Tryz.underlying22 hval
 obtain ⟨fuel, hf⟩ := hd
 have hc : Tryz.prog.cellsOf 35 = 9 := by kernel_rfl
 rcases open_slice Tryz.underlying22 hf with ⟨hcs, _⟩ | ⟨a, len', cap', m, n, D, Pl, hcs, _, hl, hm, hmm, _, hx⟩
 ·simp [Value.cells] at hcs
  obtain ⟨rfl, rfl, rfl⟩ := hcs
  exact ⟨[], (Sl.nil _ _).a, fun s hs => by cases hs⟩
 ·simp [Value.cells] at hcs
  obtain ⟨rfl, rfl, rfl⟩ := hcs
  simp only [if_true] at hmm
  subst hmm
  rw [hc] at hx
  have hex : ∀ i, i < m → ∃ s : St, w.cells? base (a.add (i * 9)) 9 = some s.cells ∧ s.fits := by
   intro i hi
   obtain ⟨cs', h1, h2⟩ := hx i hi
   obtain ⟨s, rfl, _, hs⟩ := trod_stmt h2
   exact ⟨s, h1, hs⟩
  obtain ⟨S, hS⟩ := choose_lt hex
  obtain ⟨b, off, spot⟩ := a
  by_cases h0 : 0 < len
  ·have c0 := (World.cells?_some (hS 0 (by omega)).1).2.2 0 (by omega)
   have hspot : spot = none := by simpa [Addr.add] using World.cell?_spot (c0.trans rfl)
   subst hspot
   have hlen : ((List.range len).map S).length = len := by simp
   have hcell : ∀ j u, (((List.range len).map S).flatMap St.cells)[j]? = some u → w.cell? ⟨b, off + j, none⟩ = some u := by
    intro j u hu
    have hj : j < len * 9 := by
     have := (List.getElem?_eq_some_iff.1 hu).1
     rwa [flat_len St.cells 9 St.cells_len, hlen] at this
    have hf9 : j % 9 < 9 := Nat.mod_lt _ (by decide)
    have hi : j / 9 < len := by omega
    have e : j = j / 9 * 9 + j % 9 := by omega
    rw [e, flat_get St.cells 9 St.cells_len _ (j / 9) (j % 9) hf9 (S (j / 9)) (by simp [hi])] at hu
    have h1 := (World.cells?_some (hS (j / 9) (by omega)).1).2.2 (j % 9) hf9
    rw [add_add, add_plain, ← e] at h1
    exact h1.trans hu
   refine ⟨(List.range len).map S, .inl ?_, fun s hs => ?_⟩
   ·rw [hlen]
    refine ⟨by rw [flat_len St.cells 9 St.cells_len, hlen], by omega, .inr ⟨b, off, m, rfl, hl, hm, ?_, hcell⟩⟩
    have h2 := hcell 0 (.int .i64 (S 0).k) (by
     have := flat_get St.cells 9 St.cells_len ((List.range len).map S) 0 0 (by omega) (S 0) (by simp [h0])
     have e : (0 : Nat) * 9 + 0 = 0 := rfl
     rw [e] at this
     exact this.trans rfl)
    exact World.block_lt_of_cell? _ _ h2
   ·obtain ⟨i, hi, rfl⟩ := List.mem_map.1 hs
    exact (hS i (by have := List.mem_range.1 hi; omega)).2
  ·have hl0 : len = 0 := by omega
   subst hl0
   exact ⟨[], .inr ⟨⟨_, _, rfl⟩, rfl, rfl⟩, fun s hs => by cases hs⟩
end Go.Proofs.YtcmdhfccdkjenaaGreatDoor
namespace Go.Proofs.YtcmdhfccdkjenaaGreatDoor
open Go.ChangeShapes Go.WideShapes Go.ChangeAt Go.RowKit Go.Deep

section
variable {H : Type} {enc : TypeId × Value → H} {w : World} {base : Nat} {held : Bool}
theorem open_rowOf {α : Type} [Inhabited α] (cells : α → List Value) (k : Nat) (hk : 0 < k) (hlen : ∀ x, (cells x).length = k) {t e : TypeId} (ht : Tryz.prog.underlying t = some (.slice e)) (hc : Tryz.prog.cellsOf e = k) (p : α → Prop)
  (each : ∀ n cs y, DataW.trod enc Tryz.prog w base (fun _ => true) held n e cs = some y → ∃ x : α, cs = cells x ∧ p x) {fuel : Nat} {c : Value} {y : DataW H × List MemPlace}
  (hf : DataW.trod enc Tryz.prog w base (fun _ => true) held fuel t [c] = some y) : ∃ l : List α, SlA w k c l.length (l.flatMap cells) ∧ ∀ x ∈ l, p x := by
 rcases open_slice ht hf with ⟨hcs, _⟩ | ⟨a, len, cap, m, n, D, Pl, hcs, _, hl, hm, hmm, _, hx⟩
 ·simp only [List.cons.injEq, and_true] at hcs
  subst hcs
  exact ⟨[], (Sl.nil _ _).a, fun s hs => by cases hs⟩
 ·simp only [List.cons.injEq, and_true] at hcs
  subst hcs
  simp only [if_true] at hmm
  subst hmm
  rw [hc] at hx
  have hex : ∀ i, i < m → ∃ s : α, w.cells? base (a.add (i * k)) k = some (cells s) ∧ p s := by
   intro i hi
   obtain ⟨cs', h1, h2⟩ := hx i hi
   obtain ⟨s, rfl, hs⟩ := each _ _ _ h2
   exact ⟨s, h1, hs⟩
  obtain ⟨S, hS⟩ := choose_lt hex
  obtain ⟨b, off, spot⟩ := a
  by_cases h0 : 0 < len
  ·have hk0 : 0 < (cells (S 0)).length := by rw [hlen]; exact hk
   have c0 := (World.cells?_some (hS 0 (by omega)).1).2.2 0 hk
   rw [List.getElem?_eq_getElem hk0] at c0
   have hspot : spot = none := by simpa [Addr.add] using World.cell?_spot c0
   subst hspot
   have hlenl : ((List.range len).map S).length = len := by simp
   have hcell : ∀ j u, (((List.range len).map S).flatMap cells)[j]? = some u → w.cell? ⟨b, off + j, none⟩ = some u := by
    intro j u hu
    have hj : j < len * k := by
     have := (List.getElem?_eq_some_iff.1 hu).1
     rwa [flat_len cells k hlen, hlenl] at this
    have hf9 : j % k < k := Nat.mod_lt _ hk
    have hi : j / k < len := Nat.div_lt_of_lt_mul (by rwa [Nat.mul_comm])
    have e : j = j / k * k + j % k := by rw [Nat.mul_comm]; exact (Nat.div_add_mod j k).symm
    rw [e, flat_get cells k hlen _ (j / k) (j % k) hf9 (S (j / k)) (by simp [hi])] at hu
    have h1 := (World.cells?_some (hS (j / k) (by omega)).1).2.2 (j % k) hf9
    rw [add_add, add_plain, ← e] at h1
    exact h1.trans hu
   refine ⟨(List.range len).map S, .inl ?_, fun s hs => ?_⟩
   ·rw [hlenl]
    refine ⟨by rw [flat_len cells k hlen, hlenl], by omega, .inr ⟨b, off, m, rfl, hl, hm, ?_, hcell⟩⟩
    rw [add_add, add_plain] at c0
    exact World.block_lt_of_cell? _ _ c0
   ·obtain ⟨i, hi, rfl⟩ := List.mem_map.1 hs
    exact (hS i (by have := List.mem_range.1 hi; omega)).2
  ·have hl0 : len = 0 := by omega
   subst hl0
   exact ⟨[], .inr ⟨⟨_, _, rfl⟩, rfl, rfl⟩, fun s hs => by cases hs⟩

theorem maxLen_eq : maxLen = 9223372036854775807 := by decide
theorem le_max {s : St} (h : s.fits) : s.le 9223372036854775807 := by have := h.1; rwa [maxLen_eq] at this
theorem rle_max {r : Rl} (h : r.le maxLen) : r.le 9223372036854775807 := by rwa [maxLen_eq] at h
instance : Inhabited Rl := ⟨noR⟩
theorem open_stsC {fuel : Nat} {c : Value} {y : DataW H × List MemPlace} (hf : DataW.trod enc Tryz.prog w base (fun _ => true) held fuel 22 [c] = some y) :
  ∃ l : List St, SlA w 9 c l.length (l.flatMap St.cells) ∧ allLe l 9223372036854775807 :=
 open_rowOf St.cells 9 (by decide) St.cells_len Tryz.underlying22 (by kernel_rfl) (fun s => s.le 9223372036854775807)
  (fun _ _ _ h => by obtain ⟨s, e, _, hs⟩ := trod_stmt h; exact ⟨s, e, le_max hs⟩) hf
theorem open_rls {fuel : Nat} {c : Value} {y : DataW H × List MemPlace} (hf : DataW.trod enc Tryz.prog w base (fun _ => true) held fuel 23 [c] = some y) :
  ∃ l : List Rl, SlA w 2 c l.length (l.flatMap Rl.cells) ∧ ∀ x ∈ l, x.le 9223372036854775807 :=
 open_rowOf Rl.cells 2 (by decide) Rl.cells_len Tryz.underlying23 (by kernel_rfl) (fun s => s.le 9223372036854775807)
  (fun _ _ _ h => by obtain ⟨s, e, _, hs⟩ := trod_role h; exact ⟨s, e, rle_max hs⟩) hf
theorem strs_flat (l : List ByteArray) : (l.flatMap fun s => [Value.string s]) = strs l := by
 induction l with
 | nil => rfl
 | cons a r ih => rw [List.flatMap_cons, ih]; rfl
theorem open_strsC {fuel : Nat} {c : Value} {y : DataW H × List MemPlace} (hf : DataW.trod enc Tryz.prog w base (fun _ => true) held fuel 38 [c] = some y) :
  ∃ l : List ByteArray, SlA w 1 c l.length (strs l) ∧ ∀ x ∈ l, x.size ≤ 9223372036854775807 := by
 obtain ⟨l, h1, h2⟩ := open_rowOf (fun s : ByteArray => [Value.string s]) 1 (by decide) (fun _ => rfl) Tryz.underlying38 (by kernel_rfl) (fun s => s.size ≤ 9223372036854775807)
  (fun _ cs _ h => by obtain ⟨s, e, _, hs⟩ := DataW.trod_string Tryz.underlying9 h; exact ⟨s, e, by rwa [maxLen_eq] at hs⟩) hf
 exact ⟨l, by rwa [strs_flat] at h1, h2⟩

theorem six_of {cs : List Value} (h : cs.length = 6) : ∃ a b c d e f, cs = [a, b, c, d, e, f] := by
 match cs, h with
 | [a, b, c, d, e, f], _ => exact ⟨a, b, c, d, e, f, rfl⟩
theorem trod_query {fuel : Nat} {cs : List Value} {x : DataW H × List MemPlace} (h : DataW.trod enc Tryz.prog w base (fun _ => true) held fuel 45 cs = some x) : ∃ q : Qv, cs = q.cells ∧ q.ok w := by
 obtain ⟨xs, n, _, rfl, hl, hlen, hf⟩ := DataW.trod_struct Tryz.underlying45 h
 have hc : Tryz.prog.cellsOf 45 = 6 := by kernel_rfl
 have hr : Tryz.prog.cellsOf 28 = 2 := by kernel_rfl
 have hi : Tryz.prog.cellsOf 3 = 1 := by kernel_rfl
 have hs : Tryz.prog.cellsOf 38 = 1 := by kernel_rfl
 rw [hc] at hl
 obtain ⟨c0, c1, c2, c3, c4, c5, rfl⟩ := six_of hl
 have f0 : DataW.trod enc Tryz.prog w base (fun _ => true) held n 3 [c0] = xs[0]? := by simpa [hi] using hf 0 _ rfl
 have f1 : DataW.trod enc Tryz.prog w base (fun _ => true) held n 28 [c1, c2] = xs[1]? := by simpa [hr] using hf 1 _ rfl
 have f2 : DataW.trod enc Tryz.prog w base (fun _ => true) held n 28 [c3, c4] = xs[2]? := by simpa [hr] using hf 2 _ rfl
 have f3 : DataW.trod enc Tryz.prog w base (fun _ => true) held n 38 [c5] = xs[3]? := by simpa [hs] using hf 3 _ rfl
 match xs, hlen with
 | [y0, y1, y2, y3], _ =>
  simp only [List.getElem?_cons_zero, List.getElem?_cons_succ] at f0 f1 f2 f3
  obtain ⟨k, e0, _, _⟩ := DataW.trod_int Tryz.underlying3 f0
  obtain ⟨r1, e1, _, l1⟩ := trod_role f1
  obtain ⟨r2, e2, _, l2⟩ := trod_role f2
  obtain ⟨ss, s3, l3⟩ := open_strsC f3
  simp only [Rl.cells, List.cons.injEq, and_true] at e0 e1 e2
  obtain ⟨rfl, rfl⟩ := e1
  obtain ⟨rfl, rfl⟩ := e2
  subst e0
  exact ⟨⟨k, r1, r2, c5⟩, rfl, rle_max l1, rle_max l2, ss, s3, l3⟩
theorem open_qs {fuel : Nat} {c : Value} {y : DataW H × List MemPlace} (hf : DataW.trod enc Tryz.prog w base (fun _ => true) held fuel 24 [c] = some y) :
  ∃ l : List Qv, SlA w 6 c l.length (l.flatMap Qv.cells) ∧ ∀ x ∈ l, x.ok w :=
 open_rowOf Qv.cells 6 (by decide) Qv.cells_len Tryz.underlying24 (by kernel_rfl) (fun q => q.ok w) (fun _ _ _ h => trod_query h) hf
theorem four_of {cs : List Value} (h : cs.length = 4) : ∃ a b c d, cs = [a, b, c, d] := by
 match cs, h with
 | [a, b, c, d], _ => exact ⟨a, b, c, d, rfl⟩
set_option maxRecDepth 100000 in
theorem open_pol {r : Reach} {b0 : Nat} {v : Value} {d : DataW H} {ps : List MemPlace} (hval : Value.okWide Tryz.prog w r b0 26 v) (hd : DataW.Trod enc Tryz.prog w base (fun _ => true) held 26 v d ps) :
  ∃ v0 v1 v2 v3 l g h qs, v = pv v0 v1 v2 v3 ∧ PolAt w v0 v1 v2 v3 l g h qs := by
 obtain ⟨cs, rfl, _⟩ := okWide_struct Tryz.underlying26 hval
 obtain ⟨fuel, hf⟩ := hd
 obtain ⟨xs, n, _, _, hl, hlen, hf'⟩ := DataW.trod_struct Tryz.underlying26 hf
 have hc : Tryz.prog.cellsOf 26 = 4 := by kernel_rfl
 have h0 : Tryz.prog.cellsOf 22 = 1 := by kernel_rfl
 have h1 : Tryz.prog.cellsOf 23 = 1 := by kernel_rfl
 have h2 : Tryz.prog.cellsOf 24 = 1 := by kernel_rfl
 rw [hc] at hl
 obtain ⟨c0, c1, c2, c3, hcs⟩ := four_of hl
 rw [hcs] at hf'
 have f0 : DataW.trod enc Tryz.prog w base (fun _ => true) held n 22 [c0] = xs[0]? := by simpa [h0] using hf' 0 _ rfl
 have f1 : DataW.trod enc Tryz.prog w base (fun _ => true) held n 23 [c1] = xs[1]? := by simpa [h1] using hf' 1 _ rfl
 have f2 : DataW.trod enc Tryz.prog w base (fun _ => true) held n 23 [c2] = xs[2]? := by simpa [h1] using hf' 2 _ rfl
 have f3 : DataW.trod enc Tryz.prog w base (fun _ => true) held n 24 [c3] = xs[3]? := by simpa [h2] using hf' 3 _ rfl
 match xs, hlen with
 | [y0, y1, y2, y3], _ =>
  simp only [List.getElem?_cons_zero, List.getElem?_cons_succ] at f0 f1 f2 f3
  obtain ⟨l, s0, l0⟩ := open_stsC f0
  obtain ⟨g, s1, l1⟩ := open_rls f1
  obtain ⟨h, s2, l2⟩ := open_rls f2
  obtain ⟨qs, s3, l3⟩ := open_qs f3
  refine ⟨c0, c1, c2, c3, l, g, h, qs, ?_, ⟨s0, s1, s2, s3, l0, l1, l2, l3⟩⟩
  obtain ⟨cl⟩ := cs
  simp only [Value.cells] at hcs
  have : cl = [c0, c1, c2, c3] := by simpa using hcs
  rw [this]
end
end Go.Proofs.YtcmdhfccdkjenaaGreatDoor
namespace Go.Proofs.YtcmdhfccdkjenaaGreatDoor
open Go.ChangeShapes Go.WideShapes Go.ChangeAt Go.RowKit

def bruijnL : List (String × DataW Unit) := [("math/bits.deBruijn64tab", Rows.laid_math_bits_deBruijn64tab)]
theorem bruijn_tab : (Rows.laid_math_bits_deBruijn64tab : DataW Unit) = Lib.tabData .u8 (Lib.deBruijn64tab.map fun (n : Nat) => (n : Int)) := by rfl
noncomputable def laidWorld (os : Os) : World := World.laidAll Tryz.prog os bruijnL
theorem laid_met (os : Os) (args : Array Value) : laidMet Tryz.prog bruijnL ((laidWorld os).forCall (fun _ _ => 0) ⟨#[], args, []⟩).memory := laidMet_laidAll args (by kernel_rfl) (by kernel_rfl)
theorem tb_of_laid {W : World} (h : laidMet Tryz.prog bruijnL W) : TB W := by
 unfold bruijnL at h
 rw [bruijn_tab] at h
 have ht := Lib.tabIs_of_head (t := 231) (e := 5) (n := 64) (g := 0) (by kernel_rfl) (by kernel_rfl) Tryz.underlying231 Tryz.underlying5 (by kernel_rfl) (by kernel_rfl) h
 intro j hj
 have := ht.cell (g := 0) (by kernel_rfl) j (by rw [List.length_map]; exact hj)
 rw [this, List.getD_eq_getElem?_getD, List.getElem?_map, List.getD_eq_getElem?_getD, List.getElem?_eq_getElem hj]
 rfl
theorem ownK : ownKnob Tryz.prog.godebug = none := by kernel_rfl
section
variable {H : Type} {enc : TypeId × Value → H} {w : World} {base b0 : Nat} {held : Bool} {r : Reach} {v : Value} {d : DataW H} {ps : List MemPlace}
end
end Go.Proofs.YtcmdhfccdkjenaaGreatDoor
