/- policy.bound: the role of a line that begins with grow, or shrink. slices.Index and slices.Contains at texts (out of SimSat). The reader of package query: fail, want, kind, word. query.Words, and the reader's ask. slices.Insert at texts: one text more, at a place, into a row of the call's own. slices.BinarySearch at texts in order: whether one is among them, and its place (out of TabFind). -/
import Derived.Test.YtnhkgfgbhedphaaGreatDoorPart12
import Derived.Test.YtnhkgfgbhedphaaGreatDoorPart6
import Derived.Test.YtnhkgfgbhedphaaGreatDoorPart7
import Derived.Test.YtnhkgfgbhedphaaGreatDoorPart9
import Derived.Test.YtnhkgfgbhedphaaGreatDoorPart10
import Derived.Shelf.Spec.SlicesInsert
import Derived.Lib.AppendZerosOnto
import Derived.Test.YtnhkgfgbhedphaaGreatDoorPart8
namespace Go.Proofs.YtnhkgfgbhedphaaGreatDoor
open Go.RowKit Go.Shelf

def want4 : Nat → Int
  | 0 => 2
  | 1 => 1
  | 2 => 3
  | 3 => 2
  | _ => 0
theorem want_get {k : Nat} (h : k < 4) : (#[.int .i64 2, .int .i64 1, .int .i64 3, .int .i64 2] : Array Value)[k]? = some (.int .i64 (want4 k)) := by
  match k, h with
  | 0, _ => rfl
  | 1, _ => rfl
  | 2, _ => rfl
  | 3, _ => rfl
theorem drop_want4 {k : Nat} (h : k < 4) : ([2, 1, 3, 2] : List Int).drop k = want4 k :: ([2, 1, 3, 2] : List Int).drop (k + 1) := by
  match k, h with
  | 0, _ => rfl
  | 1, _ => rfl
  | 2, _ => rfl
  | 3, _ => rfl
theorem bound_go {l : List Tok} {k : Nat} (hlt : k < l.length) (h4 : k < 4) (he : l[k].kind = want4 k) : boundG (([2, 1, 3, 2] : List Int).drop k) (l.drop k) = boundG (([2, 1, 3, 2] : List Int).drop (k + 1)) (l.drop (k + 1)) := by
  rw [List.drop_eq_getElem_cons hlt, drop_want4 h4, boundG, if_pos he]
theorem bound_no {l : List Tok} {k : Nat} (hlt : k < l.length) (h4 : k < 4) (he : ¬ l[k].kind = want4 k) : boundG (([2, 1, 3, 2] : List Int).drop k) (l.drop k) = some l[k].col := by
  rw [List.drop_eq_getElem_cons hlt, drop_want4 h4, boundG, if_neg he]
theorem bound_many {l : List Tok} {k : Nat} (hlt : k < l.length) (h4 : ¬ k < 4) : boundG (([2, 1, 3, 2] : List Int).drop k) (l.drop k) = some l[k].col := by
  rw [List.drop_eq_getElem_cons hlt, List.drop_eq_nil_of_le (by simp; omega)]; rfl
theorem boundT_some {l : List Tok} {e c : Int} (h : boundG [2, 1, 3, 2] l = some c) : boundT l e = (noR, c, 2) := by unfold boundT; rw [h]
theorem boundT_few {l : List Tok} {e : Int} (h : boundG [2, 1, 3, 2] l = none) (h4 : l.length < 4) : boundT l e = (noR, e, 3) := by unfold boundT; rw [h]; exact if_pos h4
theorem boundT_yes {l : List Tok} {e : Int} (h : boundG [2, 1, 3, 2] l = none) (h4 : ¬ l.length < 4) : boundT l e = (⟨txQ l 1, txQ l 3⟩, 0, 0) := by unfold boundT; rw [h]; exact if_neg h4
theorem bound_nil (ks : List Int) : boundG ks [] = none := by cases ks <;> rfl
theorem txQ_at4 {l : List Tok} {i : Nat} (h : i < l.length) : txQ l i = ⟨l[i].text.toArray⟩ := by unfold txQ; rw [List.getD_eq_getElem?_getD, List.getElem?_eq_getElem h]; rfl
set_option maxRecDepth 100000 in
set_option maxHeartbeats 4000000 in
theorem policy_bound (s : ByteArray) (v : Value) (l : List Tok) (w : World) (hs : s.size < 4294967281) (hg : Gl w) (hv : Sl w 3 v l.length (l.flatMap Tok.cells)) :
    Calls Tryz.prog 109 #[.string s, v] w fun e w' => e = .returned (.tuple #[rv (boundT l (endOf s)).1, .int .i64 (boundT l (endOf s)).2.1, .int .i64 (boundT l (endOf s)).2.2]) ∧ Below w.heap.size w w' := by
  have HG := Lib.hid hg
  have hmax := hv.max
  have HC := Lib.hid (fun (W : World) (h : Gl W) => scan_cut s W hs h)
  have HT := Lib.hid (fun W => Tryz.strings_TrimRight_one (⟨(bare (bl s)).toArray⟩) 32 (by decide) W (by simp [ByteArray.size]; have := bare_le (bl s); rw [bl_len] at this; omega))
  have hend : endOf s ≤ 4294967282 := by have := trimRight_le (bare (bl s)) 32; have := bare_le (bl s); rw [bl_len] at this; unfold endOf; omega
  have hend0 : 0 ≤ endOf s := by unfold endOf; omega
  have hE : endOf s = ((Lib.trimRightB (bare (bl s)) 32).length : Int) + 1 := rfl
  generalize endOf s = en at *
  generalize hr : (⟨(Lib.trimRightB (bare (bl s)) 32).toArray⟩ : ByteArray) = tr at HT
  have htr : (tr.size : Int) + 1 = en := by rw [← hr, hE]; rfl
  clear hr hE
  have HV := Lib.hid hv
  have HT0 := Lib.hid (TwoAt.new w #[.string emp, .string emp] #[.int .i64 2, .int .i64 1, .int .i64 3, .int .i64 2] 54 3)
  have RES := Lib.hid (fun c (h : boundG [2, 1, 3, 2] l = some c) => boundT_some (e := en) h)
  have RES2 := Lib.hid (fun (h : boundG [2, 1, 3, 2] l = none) (h4 : l.length < 4) => boundT_few (e := en) h h4)
  have RES3 := Lib.hid (fun (h : boundG [2, 1, 3, 2] l = none) (h4 : ¬ l.length < 4) => boundT_yes (e := en) h h4)
  generalize boundT l en = res at RES RES2 RES3 ⊢
  obtain ⟨va, vc, rfl⟩ := hv.form
  clear hv hg
  go_enter Tryz.func109, Tryz.ntmps109
  go_wp2_with fail
  go_loopw [16] (fun i wr => ∃ k : Nat, k ≤ l.length ∧ k ≤ 4 ∧ i = .int .i64 k ∧ Hid (TwoAt w #[.string emp, .string emp] #[.int .i64 2, .int .i64 1, .int .i64 3, .int .i64 2] wr) ∧ Hid (boundG [2, 1, 3, 2] l = boundG (([2, 1, 3, 2] : List Int).drop k) (l.drop k))) (fun i _ => l.length - (intOf i).toNat)
  case atStart => exact ⟨0, by omega, by omega, rfl, HT0, Lib.hid rfl⟩
  case round =>
    obtain ⟨k, hk, hk4, rfl, TR, HB⟩ := hrel
    by_cases hlt : k < l.length
    · obtain ⟨b1, o1, c1, he1, hc1, hm1, hb1, hx1⟩ := HV.out.pos (by omega)
      simp only [Value.slice.injEq, true_and] at he1
      obtain ⟨rfl, rfl⟩ := he1
      obtain ⟨p0, p1, p2⟩ := tok_cell (w := wr) (Sl.cells_later TR.out.low hb1 hx1) k hlt
      obtain ⟨ca, fa, za⟩ := TR.out.a
      obtain ⟨cb, fb, zb⟩ := TR.out.b
      clear hx1
      have HLOW := Lib.hid TR.out.low
      by_cases h4 : k < 4
      · have d1 : decide ((4 : Int) ≤ (k : Int)) = false := by (rw [decide_eq_false_iff_not]; omega)
        have q0 : wr.cell? ⟨w.heap.size + 1, k, none⟩ = some (.int .i64 (want4 k)) := (cb k).trans (want_get h4)
        have hk4' : k < 4 := h4
        by_cases he : l[k].kind = want4 k
        · have HN := Lib.hid (HB.out.trans (bound_go hlt h4 he))
          have d3 : (l[k].kind != want4 k) = false := by simp [he]
          have TN := Lib.hid (fun n => TR.out.later ((((Below.refl wr.heap.size wr).alloc (Nat.le_refl _) (.cells #[.int .i64 l[k].kind, .string ⟨l[k].text.toArray⟩, .int .i64 l[k].col] 139))).trans ((below_of_drewN n).mono (by simp))))
          clear he cb fb ca fa za
          go_wp2_with fail
          go_big_quiet (fail)
          go_wp2
          exact ⟨⟨k + 1, by omega, by omega, by go_num, Lib.hid (TN.out _), HN⟩, by simp [intOf]; omega⟩
        · have HN := Lib.hid (RES.out _ (HB.out.trans (bound_no hlt h4 he)))
          have d3 : (l[k].kind != want4 k) = true := by simp [he]
          clear he cb fb
          go_wp2_with fail
          go_big_quiet (fail)
          go_wp2_with fail
          go_region
          go_wp2
          refine bodyPost_ret (v := .tuple #[rv noR, .int .i64 l[k].col, .int .i64 2]) (by simp [results, Tryz.results109, go_sem, ca, za, noR]) rfl ⟨by rw [HN.out], ?_⟩
          have hb4 := HLOW.out
          (repeat' (first | with_reducible exact Below.refl _ _ | with_reducible assumption | with_reducible (refine Below.setCell ?_ ?_ _) | with_reducible (refine Below.alloc ?_ ?_ _) | with_reducible (refine below_drew ?_) | with_reducible (refine below_drewN ?_ _) | with_reducible (refine Below.trans ?_ (Below.mono (by assumption) ?_)) | omega | (simp; done) | (simp; omega)))
      · obtain rfl : k = 4 := by omega
        have HN := Lib.hid (RES.out _ (HB.out.trans (bound_many hlt h4)))
        clear cb fb
        go_wp2_with fail
        go_big_quiet (fail)
        go_wp2_with fail
        go_region
        go_wp2
        refine bodyPost_ret (v := .tuple #[rv noR, .int .i64 l[4].col, .int .i64 2]) (by simp [results, Tryz.results109, go_sem, ca, za, noR]) rfl ⟨by rw [HN.out], ?_⟩
        have hb4 := HLOW.out
        (repeat' (first | with_reducible exact Below.refl _ _ | with_reducible assumption | with_reducible (refine Below.setCell ?_ ?_ _) | with_reducible (refine Below.alloc ?_ ?_ _) | with_reducible (refine below_drew ?_) | with_reducible (refine below_drewN ?_ _) | with_reducible (refine Below.trans ?_ (Below.mono (by assumption) ?_)) | omega | (simp; done) | (simp; omega)))
    · have HN : boundG [2, 1, 3, 2] l = none := HB.out.trans (by rw [show l.drop k = [] from List.drop_eq_nil_of_le (by omega)]; exact bound_nil _)
      have HLOW := Lib.hid TR.out.low
      obtain ⟨ca, fa, za⟩ := TR.out.a
      by_cases h4 : l.length < 4
      · have d1 : decide ((l.length : Int) < 4) = true := by (rw [decide_eq_true_iff]; omega)
        have RR := Lib.hid (RES2.out HN h4)
        have hGW := Lib.hid (HG.out.below HLOW.out)
        clear h4 HN
        go_wp2_with fail
        refine (HC.out wr hGW.out).mono ?_
        rintro e w' ⟨x, bb, rfl, n, rfl⟩
        go_wp2_with (go_at_call 152; refine (HT.out _).mono ?_; rintro e w' ⟨rfl, rfl⟩)
        refine bodyPost_ret (v := .tuple #[rv noR, .int .i64 en, .int .i64 3]) (by simp [results, Tryz.results109, go_sem, ca, noR]) rfl ⟨by rw [RR.out], ?_⟩
        have hb4 := HLOW.out
        (repeat' (first | with_reducible exact Below.refl _ _ | with_reducible assumption | with_reducible (refine Below.setCell ?_ ?_ _) | with_reducible (refine Below.alloc ?_ ?_ _) | with_reducible (refine below_drew ?_) | with_reducible (refine below_drewN ?_ _) | with_reducible (refine Below.trans ?_ (Below.mono (by assumption) ?_)) | omega | (simp; done) | (simp; omega)))
      · have d1 : decide ((l.length : Int) < 4) = false := by (rw [decide_eq_false_iff_not]; omega)
        have RR := Lib.hid (RES3.out HN h4)
        have h1 : 1 < l.length := by omega
        have h3 : 3 < l.length := by omega
        obtain ⟨b1, o1, c1, he1, hc1, hm1, hb1, hx1⟩ := HV.out.pos (by omega)
        simp only [Value.slice.injEq, true_and] at he1
        obtain ⟨rfl, rfl⟩ := he1
        obtain ⟨_, p1, _⟩ := tok_cell (w := wr) (Sl.cells_later HLOW.out hb1 hx1) 1 h1
        obtain ⟨_, p3, _⟩ := tok_cell (w := wr) (Sl.cells_later HLOW.out hb1 hx1) 3 h3
        rw [txQ_at4 h1, txQ_at4 h3] at RR
        generalize l[1].text = t1 at *
        generalize l[3].text = t3 at *
        clear h4 HN hx1
        go_wp2_with fail
        go_region
        go_wp2
        refine bodyPost_ret (v := .tuple #[rv ⟨⟨t1.toArray⟩, ⟨t3.toArray⟩⟩, .int .i64 0, .int .i64 0]) (by simp [results, Tryz.results109, go_sem, ca]) rfl ⟨by rw [RR.out], ?_⟩
        have hb4 := HLOW.out
        (repeat' (first | with_reducible exact Below.refl _ _ | with_reducible assumption | with_reducible (refine Below.setCell ?_ ?_ _) | with_reducible (refine Below.alloc ?_ ?_ _) | with_reducible (refine below_drew ?_) | with_reducible (refine below_drewN ?_ _) | with_reducible (refine Below.trans ?_ (Below.mono (by assumption) ?_)) | omega | (simp; done) | (simp; omega)))
end Go.Proofs.YtnhkgfgbhedphaaGreatDoor
namespace Go.Proofs.YtnhkgfgbhedphaaGreatDoor
open Go.RowKit Go.Shelf

set_option maxRecDepth 100000 in
set_option maxHeartbeats 2000000 in
theorem str_IndexC (va : Value) (l : List ByteArray) (s : ByteArray) (w : World) (ha : SlA w 1 va l.length (strs l)) :
    Calls Tryz.prog 254 #[va, .string s] w fun e w' => (∃ i : Int, e = .returned (.int .i64 i) ∧ hasB l s = decide (0 ≤ i)) ∧ w' = w := by
  have HA := Lib.hid ha
  have hmax := ha.max
  obtain ⟨ao, cap, hva⟩ := ha.form
  subst hva
  clear ha
  have HY := Lib.hid (fun k (hk : k < l.length) (e : l[k] = s) => hasB_yes hk e)
  have HN := Lib.hid (fun k (hk : ¬ k < l.length) h => hasB_end (l := l) (s := s) (k := k) hk h)
  generalize hasB l s = res at HY HN ⊢
  go_enter Tryz.func254, Tryz.ntmps254
  go_wp2
  go_loopw [8] (fun i wr => ∃ k : Nat, k ≤ l.length ∧ i = .int .i64 k ∧ Hid (∀ j (hj : j < l.length), j < k → ¬ l[j] = s) ∧ wr = w) (fun i _ => l.length - (intOf i).toNat)
  case atStart => exact ⟨0, by omega, rfl, Lib.hid (fun _ _ h => absurd h (by omega)), rfl⟩
  case round =>
    obtain ⟨k, hk, rfl, HJ, rfl⟩ := hrel
    by_cases hlt : k < l.length
    · obtain ⟨b1, o1, c1, he1, hc1, hm1, hb1, hx1⟩ := HA.out.pos (by omega)
      simp only [Value.slice.injEq, true_and] at he1
      obtain ⟨rfl, rfl⟩ := he1
      have p0 := hx1 k _ (strs_get hlt)
      have YES := Lib.hid (HY.out k hlt)
      have HJ2 : Hid (¬ l[k] = s → ∀ j (hj : j < l.length), j < k + 1 → ¬ l[j] = s) := Lib.hid (fun hpk j hj hjk => by
        by_cases h : j < k
        · exact HJ.out j hj h
        · obtain rfl : j = k := by omega
          exact hpk)
      clear hx1
      generalize l[k] = x at *
      by_cases e : x = s
      · have d : (s.toList == x.toList) = true := by rw [beq_str, e]; exact decide_eq_true rfl
        have d' : (x.toList == s.toList) = true := by rw [beq_str, e]; exact decide_eq_true rfl
        have R := Lib.hid (YES.out e)
        clear e
        go_wp2
        go_ret
        exact ⟨⟨(k : Int), rfl, by rw [R.out, decide_eq_true (Int.natCast_nonneg k)]⟩, rfl⟩
      · have d : (s.toList == x.toList) = false := by rw [beq_str]; exact decide_eq_false (fun h => e h.symm)
        have d' : (x.toList == s.toList) = false := by rw [beq_str]; exact decide_eq_false e
        have HJ3 := Lib.hid (HJ2.out e)
        clear e
        go_wp2
        exact ⟨⟨k + 1, by omega, by go_num, HJ3, by first | rfl | trivial⟩, by simp [intOf]; omega⟩
    · have R := Lib.hid (HN.out k hlt HJ.out)
      go_wp2
      go_ret
      exact ⟨⟨-1, rfl, by rw [R.out]; rfl⟩, rfl⟩
set_option maxHeartbeats 1000000 in
theorem str_ContainsC (va : Value) (l : List ByteArray) (s : ByteArray) (w : World) (ha : SlA w 1 va l.length (strs l)) :
    Calls Tryz.prog 214 #[va, .string s] w fun e w' => e = .returned (.bool (hasB l s)) ∧ w' = w := by
  have I := Lib.hid (str_IndexC va l s w ha)
  generalize hasB l s = res at I ⊢
  clear ha
  go_enter Tryz.func214, Tryz.ntmps214
  go_wp2_with fail
  refine I.out.mono ?_
  rintro e w1 ⟨⟨i, rfl, hi⟩, rfl⟩
  have HI := Lib.hid hi
  clear hi
  go_wp2
  go_ret
  exact ⟨ret_b HI.out.symm, rfl⟩
end Go.Proofs.YtnhkgfgbhedphaaGreatDoor
namespace Go.Proofs.YtnhkgfgbhedphaaGreatDoor
open Go.RowKit Go.Shelf

abbrev tkv (t : Tok) : Value := .agg #[.int .i64 t.kind, .string ⟨t.text.toArray⟩, .int .i64 t.col]
def Rd.failQ (r : Rd) (y : Int) : Rd := if r.why ≠ 0 then r else match r.l with | [] => ⟨[], r.e, r.e, y⟩ | t :: l => ⟨t :: l, r.e, t.col, y⟩
theorem failQ_why (r : Rd) (y : Int) (h : r.why ≠ 0) : r.failQ y = r := if_pos h
theorem failQ_nil (e p y : Int) : (Rd.mk [] e p 0).failQ y = ⟨[], e, e, y⟩ := rfl
theorem failQ_cons (t : Tok) (l : List Tok) (e p y : Int) : (Rd.mk (t :: l) e p 0).failQ y = ⟨t :: l, e, t.col, y⟩ := rfl
set_option maxRecDepth 100000 in
set_option maxHeartbeats 2000000 in
theorem qr_fail (r : Rd) (w0 w : World) (g : Nat) (y : Int) (h : RdAt w0 w g r) :
    Calls Tryz.prog 167 #[.pointer (some ⟨g, 0, none⟩), .int .i64 y] w fun e w' => e = .returned (.tuple #[]) ∧ RdAt w0 w' g (r.failQ y) ∧ w.grownBy w' (some g) := by
  have H := Lib.hid h
  obtain ⟨hlow, hbel, lv, hs, hblk⟩ := h
  obtain ⟨l, e, p, why⟩ := r
  have hg := hblk.2.2
  have c0 := hblk.cell 0 lv rfl
  have c1 := hblk.cell 1 (.int .i64 e) rfl
  have c2 := hblk.cell 2 (.int .i64 p) rfl
  have c3 := hblk.cell 3 (.int .i64 why) rfl
  have f0 := hblk.2.1
  by_cases hw : why = 0
  · subst hw
    have HS := Lib.hid hs
    have HB := Lib.hid hblk
    have HBE := Lib.hid hbel
    cases l with
    | nil =>
      have E := Lib.hid (failQ_nil e p y)
      obtain ⟨a, cap, rfl⟩ := hs.form
      clear hs hblk hbel
      go_enter Tryz.func167, Tryz.ntmps167
      go_wp2
      go_end0
      rw [E.out]
      exact ⟨rfl, ⟨hlow, (HBE.out.setCell hlow _).setCell hlow _, _, HS.out, ((HB.out.set 3 _ (by simp)).set 2 _ (by simp))⟩, gb_setCell (gb_setCell (World.grownBy.refl _ _) _) _⟩
    | cons t tl =>
      obtain ⟨b, off, cap, rfl, hc, hm, hlt, hx⟩ := hs.pos (by simp)
      obtain ⟨t0, t1, t2⟩ := tk_head (Sl.cells_later hbel hlt hx)
      have hbg : ¬ b = g := by omega
      have hbw : b < w.heap.size := by have := hbel.size; omega
      have E := Lib.hid (failQ_cons t tl e p y)
      clear hs hblk hbel hx
      have d1 : decide ((0 : Int) < (tl.length : Int) + 1) = true := by (rw [decide_eq_true_iff]; omega)
      go_enter Tryz.func167, Tryz.ntmps167
      go_wp2
      go_end0
      rw [E.out]
      exact ⟨rfl, ⟨hlow, ((HBE.out.setCell hlow _).setCell hlow _).setCell hlow _, _, HS.out, (((HB.out.set 3 _ (by simp)).set 2 _ (by simp)).set 2 _ (by simp))⟩, gb_setCell (gb_setCell (gb_setCell (World.grownBy.refl _ _) _) _) _⟩
  · have d : (why != 0) = true := by simp [hw]
    have E := Lib.hid (failQ_why ⟨l, e, p, why⟩ y hw)
    clear hw hs hblk hbel
    go_enter Tryz.func167, Tryz.ntmps167
    go_wp2
    exact bodyPost_ret (v := .tuple #[]) (by simp [results, Tryz.results167, go_sem]) rfl ⟨rfl, by rw [E.out]; exact H.out, World.grownBy.refl _ _⟩
theorem want_failQ (e p why : Int) (f : Tok → Bool) : ((Rd.mk [] e p why).want f) = (emp, (Rd.mk [] e p why).failQ 3) ∧ ¬ ((Rd.mk [] e p why).failQ 3).why = 0 := by
  by_cases hw : why = 0
  · subst hw; exact ⟨rfl, by rw [failQ_nil]; exact (by decide : ¬ (3 : Int) = 0)⟩
  · rw [failQ_why _ _ hw, want_why _ _ _ _ _ hw]; exact ⟨rfl, hw⟩
theorem want_noQ (t : Tok) (l : List Tok) (e p why : Int) (f : Tok → Bool) (h : f t = false) : ((Rd.mk (t :: l) e p why).want f) = (emp, (Rd.mk (t :: l) e p why).failQ 2) ∧ ¬ ((Rd.mk (t :: l) e p why).failQ 2).why = 0 := by
  by_cases hw : why = 0
  · subst hw; rw [want_no _ _ _ _ _ h]; exact ⟨rfl, by rw [failQ_cons]; exact (by decide : ¬ (2 : Int) = 0)⟩
  · rw [failQ_why _ _ hw, want_why _ _ _ _ _ hw]; exact ⟨rfl, hw⟩
set_option maxRecDepth 100000 in
set_option maxHeartbeats 4000000 in
theorem qr_want (r : Rd) (w0 w : World) (g fn : Nat) (cb : Array Value) (f : Tok → Bool) (h : RdAt w0 w g r)
    (eg : ∀ args w, (callFunc fn args).run Tryz.prog w = .ok (.enter fn args) w)
    (hp : ∀ t W, Below w.heap.size w W → Calls Tryz.prog fn (#[tkv t] ++ cb) W fun e w' => e = .returned (.bool (f t)) ∧ Below W.heap.size W w') :
    Calls Tryz.prog 212 #[.pointer (some ⟨g, 0, none⟩), .func (.func fn) #[] cb] w fun e w' => e = .returned (.string (r.want f).1) ∧ RdAt w0 w' g (r.want f).2 ∧ w.grownBy w' (some g) := by
  have H := Lib.hid h
  have HP := Lib.hid hp
  have FA := Lib.hid (fun y W (h : RdAt w0 W g r) => qr_fail r w0 W g y h)
  obtain ⟨hlow, hbel, lv, hs, hblk⟩ := h
  obtain ⟨l, e, p, why⟩ := r
  have hg := hblk.2.2
  have c0 := hblk.cell 0 lv rfl
  have c3 := hblk.cell 3 (.int .i64 why) rfl
  have f0 := hblk.2.1
  have HS := Lib.hid hs
  have HB := Lib.hid hblk
  have HBE := Lib.hid hbel
  clear hp
  cases l with
  | nil =>
    obtain ⟨E, E2⟩ := want_failQ e p why f
    rw [E]
    have FA := Lib.hid (fun W h => FA.out 3 W h)
    obtain ⟨a, cap, rfl⟩ := hs.form
    have hsz := hbel.size
    clear hs hblk hbel E
    generalize (Rd.mk [] e p why).failQ 3 = r1 at E2 FA ⊢
    go_enter Tryz.func212, Tryz.ntmps212
    go_wp2_with fail
    refine (FA.out _ H.out).mono ?_
    rintro e1 w1 ⟨rfl, hr1, hg1⟩
    have HR1 := Lib.hid hr1
    obtain ⟨l1, e1, p1, y1⟩ := r1
    obtain ⟨_, _, lv1, _, hb1⟩ := hr1
    have d3 := hb1.cell 3 (.int .i64 y1) rfl
    have dy : (y1 != 0) = true := by simpa using E2
    clear hb1 E2
    go_wp2
    go_ret
    exact ⟨rfl, HR1.out, hg1⟩
  | cons t tl =>
    obtain ⟨b, off, cap, rfl, hc, hm, hlt, hx⟩ := hs.pos (by simp)
    obtain ⟨t0, t1, t2⟩ := tk_head (Sl.cells_later hbel hlt hx)
    have HX := Lib.hid hx
    have HL := Lib.hid hc
    have hsz := hbel.size
    have hbw : b < w.heap.size := by omega
    have hbg : ¬ b = g := by omega
    have d1 : decide ((0 : Int) < (tl.length : Int) + 1) = true := by (rw [decide_eq_true_iff]; omega)
    clear hs hblk hbel hx
    cases hf : f t with
    | false =>
      obtain ⟨E, E2⟩ := want_noQ t tl e p why f hf
      rw [E]
      clear E
      have FA := Lib.hid (fun W h => FA.out 2 W h)
      generalize (Rd.mk (t :: tl) e p why).failQ 2 = r1 at E2 FA ⊢
      have HF := Lib.hid hf
      clear hf
      go_enter Tryz.func212, Tryz.ntmps212
      go_wp2_with fail
      refine (HP.out t _ (Below.refl _ _)).mono ?_
      rintro e1 w1 ⟨rfl, hb1⟩
      rw [HF.out]
      have HG1 := Lib.hid (gb_of_below (r := some g) hb1)
      have HT1 := Lib.hid (H.out.later hb1)
      clear hb1
      go_wp2_with fail
      refine (FA.out _ HT1.out).mono ?_
      rintro e2 w2 ⟨rfl, hr2, hg2⟩
      have HR2 := Lib.hid hr2
      have HG2 := Lib.hid (gb_trans HG1.out hg2)
      obtain ⟨l1, e1, p1, y1⟩ := r1
      obtain ⟨_, _, lv1, _, hb2⟩ := hr2
      have d3 := hb2.cell 3 (.int .i64 y1) rfl
      have dy : (y1 != 0) = true := by simpa using E2
      clear hb2 E2 hg2
      go_wp2
      go_ret
      exact ⟨rfl, HR2.out, HG2.out⟩
    | true =>
      have HF := Lib.hid hf
      by_cases hw : why = 0
      · subst hw
        have E := Lib.hid (want_yes t tl e p f hf)
        clear hf
        go_enter Tryz.func212, Tryz.ntmps212
        go_wp2_with fail
        refine (HP.out t _ (Below.refl _ _)).mono ?_
        rintro e1 w1 ⟨rfl, hb1⟩
        rw [HF.out]
        have HG1 := Lib.hid (gb_of_below (r := some g) hb1)
        have HT1 := Lib.hid (H.out.later hb1)
        have HB1 := Lib.hid (HB.out.below hb1)
        have t0 := (hb1.cell (p := ⟨b, off, none⟩) hbw).trans t0
        have t1 := (hb1.cell (p := ⟨b, off + 1, none⟩) hbw).trans t1
        have t2 := (hb1.cell (p := ⟨b, off + 2, none⟩) hbw).trans t2
        have c0 := HB1.out.cell 0 _ rfl
        have c3 := HB1.out.cell 3 _ rfl
        have f0 := HB1.out.2.1
        have hg := HB1.out.2.2
        have hbw : b < w1.heap.size := Nat.lt_of_lt_of_le hbw hb1.size
        have hsz1 := HT1.out.below.size
        clear hb1
        go_wp2
        · go_ret
          rw [E.out]
          refine ⟨rfl, ⟨hlow, ?_, _, ?_, ((HB1.out.set 0 _ (by simp)).alloc _)⟩, gb_trans HG1.out (gb_alloc (gb_setCell (World.grownBy.refl _ _) _) _)⟩
          · exact (HT1.out.below.setCell hlow _).alloc (by simpa [World.setCell] using hsz1) _
          · obtain rfl : tl = [] := List.eq_nil_of_length_eq_zero (by have := HL.out; simp at this; omega)
            exact ⟨rfl, by simp [maxLen], .inr ⟨b, off, 0, rfl, Nat.le_refl _, by simp [maxLen], hlt, fun j u hu => by simp at hu⟩⟩
        · go_ret
          rw [E.out]
          refine ⟨rfl, ⟨hlow, ?_, _, ?_, ((HB1.out.set 0 _ (by simp)).alloc _)⟩, gb_trans HG1.out (gb_alloc (gb_setCell (World.grownBy.refl _ _) _) _)⟩
          · exact (HT1.out.below.setCell hlow _).alloc (by simpa [World.setCell] using hsz1) _
          · exact Sl.tail HL.out hm hlt HX.out
      · have d : (why != 0) = true := by simp [hw]
        have E := Lib.hid (want_why (t :: tl) e p why f hw)
        clear hw hf
        go_enter Tryz.func212, Tryz.ntmps212
        go_wp2_with fail
        refine (HP.out t _ (Below.refl _ _)).mono ?_
        rintro e1 w1 ⟨rfl, hb1⟩
        rw [HF.out]
        have HG1 := Lib.hid (gb_of_below (r := some g) hb1)
        have HT1 := Lib.hid (H.out.later hb1)
        have c3 := (HB.out.below hb1).cell 3 _ rfl
        clear hb1
        go_wp2
        go_ret
        rw [E.out]
        exact ⟨rfl, HT1.out, HG1.out⟩

set_option maxRecDepth 100000 in
set_option maxHeartbeats 2000000 in
theorem qr_kind1 (t : Tok) (k : Int) (c : Nat) (w : World) (hc : w.cell? ⟨c, 0, none⟩ = some (.int .i64 k)) (hlt : c < w.heap.size) :
    Calls Tryz.prog 255 #[tkv t, .pointer (some ⟨c, 0, none⟩)] w fun e w' => e = .returned (.bool (decide (t.kind = k))) ∧ Below w.heap.size w w' := by
  have hd : (t.kind == k) = decide (t.kind = k) := by by_cases h : t.kind = k <;> simp [h]
  have HD := Lib.hid hd
  clear hd
  go_enter Tryz.func255, Tryz.ntmps255
  go_wp2
  go_ret
  exact ⟨ret_b HD.out, (Below.refl _ _).alloc (Nat.le_refl _) _⟩
theorem take_want (r : Rd) (k : Int) : r.take k = r.want (fun t => decide (t.kind = k)) := by
  unfold Rd.take Rd.want
  cases r.l with
  | nil => rfl
  | cons t l =>
    by_cases h : t.kind = k
    · simp only [h, decide_true, if_true]; rfl
    · simp only [h, decide_false, Bool.false_eq_true, if_false]
set_option maxRecDepth 100000 in
set_option maxHeartbeats 2000000 in
theorem qr_kind (r : Rd) (w0 w : World) (g : Nat) (k : Int) (h : RdAt w0 w g r) :
    Calls Tryz.prog 215 #[.pointer (some ⟨g, 0, none⟩), .int .i64 k] w fun e w' => e = .returned (.string (r.take k).1) ∧ RdAt w0 w' g (r.take k).2 ∧ w.grownBy w' (some g) := by
  have HW := Lib.hid (qr_want r w0 (w.alloc (.cells #[.int .i64 k] 3)) g 255 #[.pointer (some ⟨w.heap.size, 0, none⟩)] (fun t => decide (t.kind = k)) (h.alloc _) (enters_of Tryz.func255 (by kernel_rfl) rfl)
    (fun t W hb => qr_kind1 t k w.heap.size W (by
      rw [hb.cell (p := ⟨w.heap.size, 0, none⟩) (by simp)]
      exact (Blk.new w #[.int .i64 k] 3).cell 0 _ rfl) (Nat.lt_of_lt_of_le (by simp) hb.size)))
  rw [← take_want] at HW
  generalize r.take k = res at HW ⊢
  clear h
  go_enter Tryz.func215, Tryz.ntmps215
  go_wp2_with fail
  refine HW.out.mono ?_
  rintro e w1 ⟨rfl, hr1, hg1⟩
  have HR := Lib.hid hr1
  have HG := Lib.hid (gb_trans (gb_alloc (World.grownBy.refl w _) _) hg1)
  clear hr1 hg1
  go_wp2
  go_ret
  exact ⟨rfl, HR.out, HG.out⟩
set_option maxRecDepth 100000 in
set_option maxHeartbeats 2000000 in
theorem qr_word1 (t : Tok) (v : Value) (ws : List ByteArray) (c : Nat) (w : World) (hc : w.cell? ⟨c, 0, none⟩ = some v) (hlt : c < w.heap.size) (hv : SlA w 1 v ws.length (strs ws)) :
    Calls Tryz.prog 213 #[tkv t, .pointer (some ⟨c, 0, none⟩)] w fun e w' => e = .returned (.bool (wordIn ws t)) ∧ Below w.heap.size w w' := by
  have HC := Lib.hid (fun W (h : Below w.heap.size w W) => str_ContainsC v ws t.tx W (hv.below h))
  have HE := Lib.hid (show wordIn ws t = (decide (t.kind = 2) && hasB ws t.tx) from rfl)
  obtain ⟨a, cap, rfl⟩ := hv.form
  have HB := Lib.hid (show Below w.heap.size w (w.alloc (.cells #[.int .i64 t.kind, .string ⟨t.text.toArray⟩, .int .i64 t.col] 139)) from (Below.refl _ _).alloc (Nat.le_refl _) _)
  clear hv
  by_cases h2 : t.kind = 2
  · have d : (t.kind == 2) = true := by simp [h2]
    have HE := Lib.hid (show wordIn ws t = hasB ws t.tx by rw [HE.out, decide_eq_true h2]; rfl)
    generalize wordIn ws t = res at *
    generalize hasB ws t.tx = hb at *
    clear h2
    go_enter Tryz.func213, Tryz.ntmps213
    go_wp2_with fail
    refine (HC.out _ HB.out).mono ?_
    rintro e w1 ⟨rfl, rfl⟩
    go_wp2
    go_ret
    exact ⟨ret_b HE.out.symm, HB.out⟩
  · have d : (t.kind == 2) = false := by simp [h2]
    have HE := Lib.hid (show wordIn ws t = false by rw [HE.out, decide_eq_false h2]; rfl)
    generalize wordIn ws t = res at *
    clear h2
    go_enter Tryz.func213, Tryz.ntmps213
    go_wp2
    go_ret
    exact ⟨ret_b HE.out.symm, HB.out⟩
set_option maxRecDepth 100000 in
set_option maxHeartbeats 2000000 in
theorem qr_word (r : Rd) (w0 w : World) (g : Nat) (v : Value) (ws : List ByteArray) (h : RdAt w0 w g r) (hv : SlA w 1 v ws.length (strs ws)) :
    Calls Tryz.prog 163 #[.pointer (some ⟨g, 0, none⟩), v] w fun e w' => e = .returned (.string (r.word ws).1) ∧ RdAt w0 w' g (r.word ws).2 ∧ w.grownBy w' (some g) := by
  have HW := Lib.hid (qr_want r w0 (w.alloc (.cells #[v] 27)) g 213 #[.pointer (some ⟨w.heap.size, 0, none⟩)] (wordIn ws) (h.alloc _) (enters_of Tryz.func213 (by kernel_rfl) rfl)
    (fun t W hb => qr_word1 t v ws w.heap.size W (by
      rw [hb.cell (p := ⟨w.heap.size, 0, none⟩) (by simp)]
      exact (Blk.new w #[v] 27).cell 0 _ rfl) (Nat.lt_of_lt_of_le (by simp) hb.size) ((hv.below ((Below.refl _ _).alloc (Nat.le_refl _) _)).below hb)))
  rw [show r.want (wordIn ws) = r.word ws from rfl] at HW
  generalize r.word ws = res at HW ⊢
  obtain ⟨a, cap, rfl⟩ := hv.form
  clear h hv
  go_enter Tryz.func163, Tryz.ntmps163
  go_wp2_with fail
  refine HW.out.mono ?_
  rintro e w1 ⟨rfl, hr1, hg1⟩
  have HR := Lib.hid hr1
  have HG := Lib.hid (gb_trans (gb_alloc (World.grownBy.refl w _) _) hg1)
  clear hr1 hg1
  go_wp2
  go_ret
  exact ⟨rfl, HR.out, HG.out⟩
theorem qkind_pair {r : Rd} {k : Int} {x : ByteArray} {r' : Rd} (h : r.take k = (x, r')) (w0 w : World) (g : Nat) (ha : RdAt w0 w g r) :
    Calls Tryz.prog 215 #[.pointer (some ⟨g, 0, none⟩), .int .i64 k] w fun e w' => e = .returned (.string x) ∧ RdAt w0 w' g r' ∧ w.grownBy w' (some g) := by
  have := qr_kind r w0 w g k ha
  rw [h] at this
  exact this
set_option maxRecDepth 100000 in
set_option maxHeartbeats 1000000 in
theorem qr_role (r : Rd) (w0 w : World) (g : Nat) (h : RdAt w0 w g r) :
    Calls Tryz.prog 164 #[.pointer (some ⟨g, 0, none⟩)] w fun e w' => e = .returned (rv r.role.1) ∧ RdAt w0 w' g r.role.2 ∧ w.grownBy w' (some g) := by
  have hlt := h.lt
  have hlow := h.below.size
  have E := Lib.hid (show r.role = (⟨(r.take 1).1, (((r.take 1).2.take 3).2.take 2).1⟩, (((r.take 1).2.take 3).2.take 2).2) from rfl)
  cases h1 : r.take 1 with | mk x1 r1 =>
  rw [h1] at E; dsimp only at E
  cases h2 : r1.take 3 with | mk x2 r2 =>
  rw [h2] at E; dsimp only at E
  cases h3 : r2.take 2 with | mk x3 r3 =>
  rw [h3] at E; dsimp only at E
  have T1 := Lib.hid (qkind_pair h1 w0)
  have T2 := Lib.hid (qkind_pair h2 w0)
  have T3 := Lib.hid (qkind_pair h3 w0)
  clear h1 h2 h3
  have hne : some w.heap.size ≠ some g := fun e => by cases e; omega
  have hng : g ≠ w.heap.size := fun e => by omega
  go_enter Tryz.func164, Tryz.ntmps164
  go_wp2_with (first
    | (go_at_call 215; (with_reducible refine (T1.out _ g ?_).mono ?_); exact h.alloc _; rintro e w1 ⟨rfl, hr1, hg1⟩; have HB1 := (Blk.new _ _ _).grown hg1 hne; obtain ⟨ca, fa, za⟩ := id HB1)
    | (go_at_call 215; (with_reducible refine (T2.out _ g ?_).mono ?_); exact hr1.set _ hng hlow; rintro e w2 ⟨rfl, hr2, hg2⟩; have HB2 := (HB1.set 0 (.string x1) Nat.zero_lt_two).grown hg2 hne; obtain ⟨ca2, fa2, za2⟩ := id HB2)
    | (go_at_call 215; (with_reducible refine (T3.out _ g ?_).mono ?_); exact hr2; rintro e w3 ⟨rfl, hr3, hg3⟩; have HB3 := HB2.grown hg3 hne; obtain ⟨ca3, fa3, za3⟩ := id HB3))
  refine bodyPost_ret (v := rv ⟨x1, x3⟩) (by simp [results, Tryz.results164, go_sem, ca3]) rfl ⟨by rw [E.out], ?_, ?_⟩
  · rw [E.out]
    exact ((hr3.set _ hng hlow).set _ hng hlow).set _ hng hlow
  · refine gb_new (gb_new (gb_new ?_ (Nat.le_refl _) _) (Nat.le_refl _) _) (Nat.le_refl _) _
    exact gb_trans (gb_trans (gb_new (gb_trans (gb_alloc (World.grownBy.refl _ _) _) hg1) (Nat.le_refl _) _) hg2) hg3
end Go.Proofs.YtnhkgfgbhedphaaGreatDoor
namespace Go.Proofs.YtnhkgfgbhedphaaGreatDoor
open Go.RowKit Go.Shelf

def firstW (k : Int) : ByteArray := if k = 1 then wHas else if k = 2 then wHave else if k = 3 then wWithin else if k = 4 then wBe else if k = 5 then wApart else wIn
theorem six_of_int {k : Int} (h1 : 1 ≤ k) (h6 : k ≤ 6) : k = 1 ∨ k = 2 ∨ k = 3 ∨ k = 4 ∨ k = 5 ∨ k = 6 := by omega
theorem wordsL_one {k : Int} (h1 : 1 ≤ k) (h6 : k ≤ 6) (h4 : ¬ k = 4) : wordsL k = [firstW k] := by
  rcases six_of_int h1 h6 with rfl | rfl | rfl | rfl | rfl | rfl <;> first | rfl | exact absurd rfl h4
theorem kindW_first {k : Int} (h1 : 1 ≤ k) (h6 : k ≤ 6) : kindW (firstW k) = k := by
  rcases six_of_int h1 h6 with rfl | rfl | rfl | rfl | rfl | rfl <;> decide
theorem kindW_none {s : ByteArray} (h : ∀ i : Int, 1 ≤ i → i < 7 → ¬ firstW i = s) : kindW s = 0 := by
  have n : ∀ i : Int, 1 ≤ i → i < 7 → ¬ s = firstW i := fun i h1 h7 e => h i h1 h7 e.symm
  unfold kindW
  rw [if_neg (show ¬ s = wHas from n 1 (by decide) (by decide)), if_neg (show ¬ s = wHave from n 2 (by decide) (by decide)), if_neg (show ¬ s = wWithin from n 3 (by decide) (by decide)), if_neg (show ¬ s = wBe from n 4 (by decide) (by decide)), if_neg (show ¬ s = wApart from n 5 (by decide) (by decide)), if_neg (show ¬ s = wIn from n 6 (by decide) (by decide))]
def WordsR (k : Int) (w : World) (e : Ending) (w' : World) : Prop := ∃ b : Nat, w.heap.size ≤ b ∧ e = .returned (.slice (some ⟨b, 0, none⟩) (wordsL k).length (wordsL k).length) ∧ w'.heap[b]? = some (.cells (strs (wordsL k)).toArray 9 (0, 0)) ∧ Below w.heap.size w w'
set_option maxRecDepth 100000 in
set_option maxHeartbeats 2000000 in
theorem query_Words (q : Qv) (h1 : 1 ≤ q.k) (h6 : q.k ≤ 6) (w : World) : Calls Tryz.prog 122 #[qv q] w fun e w' => WordsR q.k w e w' := by
  obtain ⟨k, ⟨a1, a2⟩, ⟨b1, b2⟩, v⟩ := q
  dsimp only at h1 h6
  have fin : ∀ (cs : Array Value), Below w.heap.size w ((w.alloc (.cells #[.int .i64 k, .string a1, .string a2, .string b1, .string b2, v] 66)).alloc (.cells cs 9)) := fun cs => ((Below.refl _ _).alloc (Nat.le_refl _) _).alloc (by simp) _
  have new : ∀ (cs : Array Value), ((w.alloc (.cells #[.int .i64 k, .string a1, .string a2, .string b1, .string b2, v] 66)).alloc (.cells cs 9)).heap[w.heap.size + 1]? = some (.cells cs 9 (0, 0)) := fun cs => by
    have := heap_alloc_new (w.alloc (.cells #[.int .i64 k, .string a1, .string a2, .string b1, .string b2, v] 66)) (.cells cs 9)
    simpa using this
  have FIN := Lib.hid fin
  have NEW := Lib.hid new
  clear fin new
  rcases six_of_int h1 h6 with rfl | rfl | rfl | rfl | rfl | rfl
  all_goals (
    go_enter Tryz.func122, Tryz.ntmps122
    go_wp2
    go_ret
    exact ⟨w.heap.size + 1, by omega, rfl, NEW.out _, FIN.out _⟩)
set_option maxRecDepth 100000 in
set_option maxHeartbeats 8000000 in
theorem qr_ask (r : Rd) (u : Bool) (w0 w : World) (g : Nat) (h : RdAt w0 w g r) :
    Calls Tryz.prog 165 #[.pointer (some ⟨g, 0, none⟩), .bool u] w fun e w' => e = .returned (.int .i64 (r.ask u).1) ∧ RdAt w0 w' g (r.ask u).2 ∧ w.grownBy w' (some g) := by
  cases u with
  | false =>
    obtain ⟨W, hW⟩ : ∃ W, W = w.alloc (.cells #[.string wHave, .string wBe] 9) := ⟨_, rfl⟩
    have hb1 : Below w.heap.size w W := by rw [hW]; exact (Below.refl _ _).alloc (Nat.le_refl _) _
    have HWD := Lib.hid (qr_word r w0 W g (.slice (some ⟨w.heap.size, 0, none⟩) 2 2) [wHave, wBe] (h.later hb1) (by rw [hW]; exact (Sl.new1 w [.string wHave, .string wBe] 9 w.heap.size 2 rfl rfl (by decide)).a))
    have GB := Lib.hid (gb_of_below (r := some g) hb1)
    clear h hb1
    subst hW
    go_enter Tryz.func165, Tryz.ntmps165
    go_wp2_with fail
    refine HWD.out.mono ?_
    rintro e w1 ⟨rfl, hr1, hg1⟩
    have HR := Lib.hid hr1
    have HG := Lib.hid (gb_trans GB.out hg1)
    clear hr1 hg1 HWD GB
    have RES := Lib.hid (show (r.ask false) = (kindW (r.word (askW false)).1, if kindW (r.word (askW false)).1 = 4 then ((r.word (askW false)).2.word [wEmpty]).2 else (r.word (askW false)).2) from rfl)
    rw [show r.word [wHave, wBe] = r.word (askW false) from rfl] at HR ⊢
    generalize r.word (askW false) = p at HR RES ⊢
    obtain ⟨s, r1⟩ := p
    dsimp only at HR RES ⊢
    go_wp2_with fail
    go_loopw [7] (fun i wr => ∃ j : Int, 1 ≤ j ∧ j ≤ 7 ∧ i = .int .i64 j ∧ Hid (RdAt w0 wr g r1) ∧ Hid (w.grownBy wr (some g)) ∧ Hid (∀ i : Int, 1 ≤ i → i < j → ¬ firstW i = s)) (fun i _ => 7 - (intOf i).toNat)
    case atStart => exact ⟨1, by omega, by omega, rfl, HR, HG, Lib.hid (fun i h1 h2 => by omega)⟩
    case round =>
      clear HR HG
      obtain ⟨j, hj1, hj7, rfl, HR, HG, HN⟩ := hrel
      by_cases hj : j ≤ 6
      · have HW := Lib.hid (query_Words ⟨j, noR, noR, .slice none 0 0⟩ hj1 hj wr)
        go_wp2_with fail
        refine HW.out.mono ?_
        rintro e w2 ⟨b, hb, rfl, hcell, hbel⟩
        have HR2 := Lib.hid (HR.out.later hbel)
        have HG2 := Lib.hid (gb_trans HG.out (gb_of_below (r := some g) hbel))
        have hlt2 : b < w2.heap.size := (Array.getElem?_eq_some_iff.1 hcell).1
        clear HW hbel
        by_cases h4 : j = 4
        · subst h4
          have q0 : w2.cell? ⟨b, 0, none⟩ = some (.string (firstW 4)) := by rw [cell_of_row _ b 0 _ _ _ hcell]; rfl
          have q1 : w2.cell? ⟨b, 1, none⟩ = some (.string wEmpty) := by rw [cell_of_row _ b 1 _ _ _ hcell]; rfl
          rw [show (wordsL 4).length = 2 from rfl]
          clear hcell
          by_cases he : firstW 4 = s
          · have R2 := Lib.hid (show r.ask false = (4, (r1.word [wEmpty]).2) by rw [RES.out, ← he, kindW_first (by decide) (by decide)]; rfl)
            have d : ((firstW 4).toList == s.toList) = true := by rw [beq_str, he]; exact decide_eq_true rfl
            clear he RES
            go_wp2_with fail
            go_loopw [32] (fun i wr => (i = .int .i64 0 ∧ wr = w2) ∨ (i = .int .i64 1 ∧ RdAt w0 wr g (r1.word [wEmpty]).2 ∧ w.grownBy wr (some g))) (fun i _ => 2 - (intOf i).toNat)
            case atStart => exact .inl ⟨rfl, rfl⟩
            case round =>
              rcases hrel with ⟨rfl, rfl⟩ | ⟨rfl, hr, hgb⟩
              · have HB := Lib.hid (show Below wr.heap.size wr (wr.alloc (.cells #[.string wEmpty] 9)) from (Below.refl _ _).alloc (Nat.le_refl _) _)
                have HWD := Lib.hid (qr_word r1 w0 (wr.alloc (.cells #[.string wEmpty] 9)) g (.slice (some ⟨wr.heap.size, 0, none⟩) 1 1) [wEmpty] (HR2.out.later HB.out) (Sl.new1 wr [.string wEmpty] 9 wr.heap.size 1 rfl rfl (by decide)).a)
                go_wp2_with fail
                refine HWD.out.mono ?_
                rintro e w3 ⟨rfl, hr3, hg3⟩
                have HR3 := Lib.hid hr3
                have HG3 := Lib.hid (gb_trans (gb_trans HG2.out (gb_of_below (r := some g) HB.out)) hg3)
                clear hr3 hg3 HWD
                go_wp2
                exact ⟨.inr ⟨rfl, HR3.out, HG3.out⟩, by simp [intOf]⟩
              · have HR3 := Lib.hid hr
                have HG3 := Lib.hid hgb
                clear hr hgb
                go_wp2
                go_ret
                rw [R2.out]
                exact ⟨rfl, HR3.out, HG3.out⟩
          · have d : ((firstW 4).toList == s.toList) = false := by rw [beq_str]; exact decide_eq_false he
            have HN2 := Lib.hid (fun (i : Int) (h1 : 1 ≤ i) (h2 : i < 5) => show ¬ firstW i = s by
              by_cases h : i < 4
              · exact HN.out i h1 h
              · obtain rfl : i = 4 := by omega
                exact he)
            clear he
            go_wp2
            exact ⟨⟨5, by omega, by omega, rfl, HR2, HG2, HN2⟩, by simp [intOf]⟩
        · have q0 : w2.cell? ⟨b, 0, none⟩ = some (.string (firstW j)) := by rw [cell_of_row _ b 0 _ _ _ hcell]; rw [wordsL_one hj1 hj h4]; rfl
          rw [show (wordsL j).length = 1 by rw [wordsL_one hj1 hj h4]; rfl]
          clear hcell
          have KF := Lib.hid (kindW_first hj1 hj)
          by_cases he : firstW j = s
          · have R2 := Lib.hid (show r.ask false = (j, r1) by rw [RES.out, ← he, KF.out, if_neg h4])
            have d : ((firstW j).toList == s.toList) = true := by rw [beq_str, he]; exact decide_eq_true rfl
            clear he RES KF
            generalize firstW j = fw at *
            go_wp2_with fail
            go_loopw [32] (fun i wr => i = .int .i64 0 ∧ wr = w2) (fun i _ => 0)
            case atStart => exact ⟨rfl, rfl⟩
            case round =>
              obtain ⟨rfl, rfl⟩ := hrel
              go_wp2
              go_ret
              rw [R2.out]
              exact ⟨rfl, HR2.out, HG2.out⟩
          · have d : ((firstW j).toList == s.toList) = false := by rw [beq_str]; exact decide_eq_false he
            have HN2 := Lib.hid (fun (i : Int) (h1 : 1 ≤ i) (h2 : i < j + 1) => show ¬ firstW i = s by
              by_cases h : i < j
              · exact HN.out i h1 h
              · obtain rfl : i = j := by omega
                exact he)
            clear he KF
            generalize firstW j = fw at q0 d
            go_wp2
            exact ⟨⟨j + 1, by omega, by omega, rfl, HR2, HG2, HN2⟩, by simp [intOf]; omega⟩
      · obtain rfl : j = 7 := by omega
        have R2 := Lib.hid (show r.ask false = (0, r1) by rw [RES.out, kindW_none HN.out]; rfl)
        go_wp2
        go_ret
        rw [R2.out]
        exact ⟨rfl, HR.out, HG.out⟩
  | true =>
    obtain ⟨W0, hW0⟩ : ∃ W, W = w.alloc (.cells #[.string wHave, .string wBe] 9) := ⟨_, rfl⟩
    obtain ⟨W, hW⟩ : ∃ W, W = W0.alloc (.cells #[.string wHas, .string wWithin, .string wApart, .string wIn] 9) := ⟨_, rfl⟩
    have hb0 : Below w.heap.size w W0 := by rw [hW0]; exact (Below.refl _ _).alloc (Nat.le_refl _) _
    have hb1 : Below w.heap.size w W := by rw [hW]; exact hb0.alloc hb0.size _
    have hs0 : W0.heap.size = w.heap.size + 1 := by rw [hW0]; simp
    have HWD := Lib.hid (qr_word r w0 W g (.slice (some ⟨w.heap.size + 1, 0, none⟩) 4 4) [wHas, wWithin, wApart, wIn] (h.later hb1) (by rw [hW]; exact (Sl.new1 W0 [.string wHas, .string wWithin, .string wApart, .string wIn] 9 (w.heap.size + 1) 4 hs0.symm rfl (by decide)).a))
    have GB := Lib.hid (gb_of_below (r := some g) hb1)
    clear h hb1 hb0 hs0
    subst hW hW0
    go_enter Tryz.func165, Tryz.ntmps165
    go_wp2_with fail
    refine HWD.out.mono ?_
    rintro e w1 ⟨rfl, hr1, hg1⟩
    have HR := Lib.hid hr1
    have HG := Lib.hid (gb_trans GB.out hg1)
    clear hr1 hg1 HWD GB
    have RES := Lib.hid (show (r.ask true) = (kindW (r.word (askW true)).1, if kindW (r.word (askW true)).1 = 4 then ((r.word (askW true)).2.word [wEmpty]).2 else (r.word (askW true)).2) from rfl)
    rw [show r.word [wHas, wWithin, wApart, wIn] = r.word (askW true) from rfl] at HR ⊢
    generalize r.word (askW true) = p at HR RES ⊢
    obtain ⟨s, r1⟩ := p
    dsimp only at HR RES ⊢
    go_wp2_with fail
    go_loopw [7] (fun i wr => ∃ j : Int, 1 ≤ j ∧ j ≤ 7 ∧ i = .int .i64 j ∧ Hid (RdAt w0 wr g r1) ∧ Hid (w.grownBy wr (some g)) ∧ Hid (∀ i : Int, 1 ≤ i → i < j → ¬ firstW i = s)) (fun i _ => 7 - (intOf i).toNat)
    case atStart => exact ⟨1, by omega, by omega, rfl, HR, HG, Lib.hid (fun i h1 h2 => by omega)⟩
    case round =>
      clear HR HG
      obtain ⟨j, hj1, hj7, rfl, HR, HG, HN⟩ := hrel
      by_cases hj : j ≤ 6
      · have HW := Lib.hid (query_Words ⟨j, noR, noR, .slice none 0 0⟩ hj1 hj wr)
        go_wp2_with fail
        refine HW.out.mono ?_
        rintro e w2 ⟨b, hb, rfl, hcell, hbel⟩
        have HR2 := Lib.hid (HR.out.later hbel)
        have HG2 := Lib.hid (gb_trans HG.out (gb_of_below (r := some g) hbel))
        have hlt2 : b < w2.heap.size := (Array.getElem?_eq_some_iff.1 hcell).1
        clear HW hbel
        by_cases h4 : j = 4
        · subst h4
          have q0 : w2.cell? ⟨b, 0, none⟩ = some (.string (firstW 4)) := by rw [cell_of_row _ b 0 _ _ _ hcell]; rfl
          have q1 : w2.cell? ⟨b, 1, none⟩ = some (.string wEmpty) := by rw [cell_of_row _ b 1 _ _ _ hcell]; rfl
          rw [show (wordsL 4).length = 2 from rfl]
          clear hcell
          by_cases he : firstW 4 = s
          · have R2 := Lib.hid (show r.ask true = (4, (r1.word [wEmpty]).2) by rw [RES.out, ← he, kindW_first (by decide) (by decide)]; rfl)
            have d : ((firstW 4).toList == s.toList) = true := by rw [beq_str, he]; exact decide_eq_true rfl
            clear he RES
            go_wp2_with fail
            go_loopw [32] (fun i wr => (i = .int .i64 0 ∧ wr = w2) ∨ (i = .int .i64 1 ∧ RdAt w0 wr g (r1.word [wEmpty]).2 ∧ w.grownBy wr (some g))) (fun i _ => 2 - (intOf i).toNat)
            case atStart => exact .inl ⟨rfl, rfl⟩
            case round =>
              rcases hrel with ⟨rfl, rfl⟩ | ⟨rfl, hr, hgb⟩
              · have HB := Lib.hid (show Below wr.heap.size wr (wr.alloc (.cells #[.string wEmpty] 9)) from (Below.refl _ _).alloc (Nat.le_refl _) _)
                have HWD := Lib.hid (qr_word r1 w0 (wr.alloc (.cells #[.string wEmpty] 9)) g (.slice (some ⟨wr.heap.size, 0, none⟩) 1 1) [wEmpty] (HR2.out.later HB.out) (Sl.new1 wr [.string wEmpty] 9 wr.heap.size 1 rfl rfl (by decide)).a)
                go_wp2_with fail
                refine HWD.out.mono ?_
                rintro e w3 ⟨rfl, hr3, hg3⟩
                have HR3 := Lib.hid hr3
                have HG3 := Lib.hid (gb_trans (gb_trans HG2.out (gb_of_below (r := some g) HB.out)) hg3)
                clear hr3 hg3 HWD
                go_wp2
                exact ⟨.inr ⟨rfl, HR3.out, HG3.out⟩, by simp [intOf]⟩
              · have HR3 := Lib.hid hr
                have HG3 := Lib.hid hgb
                clear hr hgb
                go_wp2
                go_ret
                rw [R2.out]
                exact ⟨rfl, HR3.out, HG3.out⟩
          · have d : ((firstW 4).toList == s.toList) = false := by rw [beq_str]; exact decide_eq_false he
            have HN2 := Lib.hid (fun (i : Int) (h1 : 1 ≤ i) (h2 : i < 5) => show ¬ firstW i = s by
              by_cases h : i < 4
              · exact HN.out i h1 h
              · obtain rfl : i = 4 := by omega
                exact he)
            clear he
            go_wp2
            exact ⟨⟨5, by omega, by omega, rfl, HR2, HG2, HN2⟩, by simp [intOf]⟩
        · have q0 : w2.cell? ⟨b, 0, none⟩ = some (.string (firstW j)) := by rw [cell_of_row _ b 0 _ _ _ hcell]; rw [wordsL_one hj1 hj h4]; rfl
          rw [show (wordsL j).length = 1 by rw [wordsL_one hj1 hj h4]; rfl]
          clear hcell
          have KF := Lib.hid (kindW_first hj1 hj)
          by_cases he : firstW j = s
          · have R2 := Lib.hid (show r.ask true = (j, r1) by rw [RES.out, ← he, KF.out, if_neg h4])
            have d : ((firstW j).toList == s.toList) = true := by rw [beq_str, he]; exact decide_eq_true rfl
            clear he RES KF
            generalize firstW j = fw at *
            go_wp2_with fail
            go_loopw [32] (fun i wr => i = .int .i64 0 ∧ wr = w2) (fun i _ => 0)
            case atStart => exact ⟨rfl, rfl⟩
            case round =>
              obtain ⟨rfl, rfl⟩ := hrel
              go_wp2
              go_ret
              rw [R2.out]
              exact ⟨rfl, HR2.out, HG2.out⟩
          · have d : ((firstW j).toList == s.toList) = false := by rw [beq_str]; exact decide_eq_false he
            have HN2 := Lib.hid (fun (i : Int) (h1 : 1 ≤ i) (h2 : i < j + 1) => show ¬ firstW i = s by
              by_cases h : i < j
              · exact HN.out i h1 h
              · obtain rfl : i = j := by omega
                exact he)
            clear he KF
            generalize firstW j = fw at q0 d
            go_wp2
            exact ⟨⟨j + 1, by omega, by omega, rfl, HR2, HG2, HN2⟩, by simp [intOf]; omega⟩
      · obtain rfl : j = 7 := by omega
        have R2 := Lib.hid (show r.ask true = (0, r1) by rw [RES.out, kindW_none HN.out]; rfl)
        go_wp2
        go_ret
        rw [R2.out]
        exact ⟨rfl, HR.out, HG.out⟩
end Go.Proofs.YtnhkgfgbhedphaaGreatDoor
namespace Go.Proofs.YtnhkgfgbhedphaaGreatDoor
open Go.RowKit Go.Shelf

def setAll {α : Type} : Array α → Nat → List α → Array α
  | cur, _, [] => cur
  | cur, o, v :: r => setAll (cur.setIfInBounds o v) (o + 1) r
theorem setAll_size {α : Type} : ∀ (vs : List α) (o : Nat) (cur : Array α), (setAll cur o vs).size = cur.size
  | [], _, _ => rfl
  | v :: r, o, cur => by rw [setAll, setAll_size r]; simp
theorem setAll_list {α : Type} : ∀ (vs : List α) (o : Nat) (cur : Array α), o + vs.length ≤ cur.size → (setAll cur o vs).toList = cur.toList.take o ++ vs ++ cur.toList.drop (o + vs.length)
  | [], o, cur, _ => by simp [setAll]
  | v :: r, o, cur, h => by
    simp only [List.length_cons] at h
    have hl : cur.toList.length = cur.size := Array.length_toList
    rw [setAll, setAll_list r (o + 1) _ (by simp; omega), Array.toList_setIfInBounds, List.length_cons]
    have e1 : (cur.toList.set o v).take (o + 1) = cur.toList.take o ++ [v] := by
      rw [List.take_succ_eq_append_getElem (by rw [List.length_set]; omega)]
      rw [List.getElem_set_self, List.take_set_of_le (Nat.le_refl _)]
    have e2 : (cur.toList.set o v).drop (o + 1 + r.length) = cur.toList.drop (o + (r.length + 1)) := by
      rw [List.drop_set, if_pos (by omega), show o + 1 + r.length = o + (r.length + 1) by omega]
    rw [e1, e2]
    simp
theorem heap_setCell {w : World} {g o : Nat} {v : Value} {cur : Array Value} {t : TypeId} {fz : Nat × Nat} (h : w.heap[g]? = some (.cells cur t fz)) : (w.setCell ⟨g, o, none⟩ v).heap[g]? = some (.cells (cur.setIfInBounds o v) t fz) := by
  simp [World.setCell, Array.getElem?_modify, h]
theorem heap_setCells {g : Nat} {t : TypeId} {fz : Nat × Nat} : ∀ (vs : List Value) (o : Nat) (cur : Array Value) (w : World), w.heap[g]? = some (.cells cur t fz) → (w.setCells g o vs).heap[g]? = some (.cells (setAll cur o vs) t fz)
  | [], _, _, _, h => h
  | _ :: r, o, _, _, h => heap_setCells r (o + 1) _ _ (heap_setCell h)
theorem insAt_strs (xs : List ByteArray) (s : ByteArray) (i : Nat) : strs (insAtB xs s i) = (strs xs).take i ++ Value.string s :: (strs xs).drop i := by
  unfold insAtB strs
  rw [List.map_append, List.map_cons, List.map_take, List.map_drop]
theorem insAt_lastT (xs : List ByteArray) (s : ByteArray) : insAtB xs s xs.length = xs ++ [s] := by
  unfold insAtB
  rw [List.take_of_length_le (Nat.le_refl _), List.drop_of_length_le (Nat.le_refl _)]
set_option maxHeartbeats 4000000 in
set_option maxRecDepth 100000 in
theorem str_Insert_end (B : Nat) (v : Value) (xs : List ByteArray) (s : ByteArray) (vb : Nat) (w : World) (hown : w.ownsRow B 9 1 v xs.length (strs xs)) (hB : B ≤ w.heap.size) (hn : xs.length ≤ 1000)
    (hv : w.heap[vb]? = some (.cells #[.string s] 9 (0, 0))) :
    Calls Tryz.prog 217 #[v, .int .i64 xs.length, .slice (some ⟨vb, 0, none⟩) 1 1] w fun e w' => ∃ a' c', e = .returned (.slice a' (xs.length + 1) c') ∧ w'.ownsRow B 9 1 (.slice a' (xs.length + 1) c') (xs.length + 1) (strs (insAtB xs s xs.length)) ∧ w.grownBy w' v.ownBlock := by
  have HO := Lib.hid hown
  have HE := Lib.hid (show strs (insAtB xs s xs.length) = strs xs ++ [.string s] by rw [insAt_lastT]; simp [strs])
  rcases hown.2 with ⟨rfl, h0⟩ | ⟨g, cap, cur, rfl, hbg, hg, hnc, hcm, hcs, htake⟩
  · rw [h0] at HO HE ⊢
    clear hown
    go_enter Tryz.func217, Tryz.ntmps217
    go_wp2_with (at_builtin; refine halt_ ?_)
    unfold Halt_
    refine app_own Tryz.underlying27 str_info rfl (by decide) (by decide) rfl _ _ rfl B rfl HO.out [.string s] rfl hv rfl (str1 _) (by omega) hB ?_
    intro a' c' w' hown' hgrow
    go_wp2
    go_ret
    exact ⟨a', c', rfl, by rw [HE.out]; exact hown', hgrow⟩
  · have hcm' : cap ≤ 9223372036854775807 := by simpa [maxLen] using hcm
    clear hown htake hcs
    go_enter Tryz.func217, Tryz.ntmps217
    go_wp2_with (at_builtin; refine halt_ ?_)
    all_goals unfold Halt_
    all_goals first
      | refine app_own Tryz.underlying27 str_info rfl (by decide) (by decide) rfl _ _ rfl B rfl HO.out [.string s] rfl hv rfl (str1 _) (by omega) hB ?_
      | (obtain rfl : cap = xs.length := by omega
         refine app_own Tryz.underlying27 str_info rfl (by decide) (by decide) rfl _ _ rfl B rfl HO.out [.string s] rfl hv rfl (str1 _) (by omega) hB ?_)
    all_goals intro a' c' w' hown' hgrow
    all_goals go_wp2
    all_goals go_ret
    all_goals exact ⟨a', c', rfl, by rw [HE.out]; exact hown', hgrow⟩
theorem ins_list {A cs : List Value} (x : Value) (i n : Nat) (hA : A.take n = cs) (hi : i < n) (hn : n + 1 ≤ A.length) :
    (((A.take (i + 1) ++ cs.drop i ++ A.drop (i + 1 + (n - i))).take i ++ [x] ++ (A.take (i + 1) ++ cs.drop i ++ A.drop (i + 1 + (n - i))).drop (i + 1))).take (n + 1) = cs.take i ++ x :: cs.drop i := by
  have hl : cs.length = n := by rw [← hA, List.length_take]; omega
  have h1 : (A.take (i + 1)).length = i + 1 := by rw [List.length_take]; omega
  have e1 : (A.take (i + 1) ++ cs.drop i ++ A.drop (i + 1 + (n - i))).take i = cs.take i := by
    rw [List.append_assoc, List.take_append_of_le_length (by omega), List.take_take, ← hA, List.take_take, Nat.min_eq_left (by omega), Nat.min_eq_left (by omega)]
  have e2 : (A.take (i + 1) ++ cs.drop i ++ A.drop (i + 1 + (n - i))).drop (i + 1) = cs.drop i ++ A.drop (i + 1 + (n - i)) := by
    rw [List.append_assoc, List.drop_left' h1]
  rw [e1, e2]
  have e3 : cs.take i ++ [x] ++ (cs.drop i ++ A.drop (i + 1 + (n - i))) = (cs.take i ++ x :: cs.drop i) ++ A.drop (i + 1 + (n - i)) := by simp
  rw [e3]
  have h2 : (cs.take i ++ x :: cs.drop i).length = n + 1 := by simp only [List.length_append, List.length_cons, List.length_take, List.length_drop]; omega
  exact List.take_left' h2
theorem ov_apart (vb g o lb cb : Nat) (s : ByteArray) (cur : Array Value) (w : World) (hv : w.heap[vb]? = some (.cells #[.string s] 9 (0, 0))) (hg : w.heap[g]? = some (.cells cur 9 (0, 0))) (hne : vb ≠ g) (hcur : cur.size ≠ 0) :
    (callFunc 257 #[.slice (some ⟨vb, 0, none⟩) 1 1, .slice (some ⟨g, o, none⟩) lb cb]).run Tryz.prog w = .ok (.value (.bool false)) w := by
  obtain ⟨i0, hi0, hz0, hz1, hz2⟩ := info_parts str_info
  rw [run_callFunc_extern Tryz.func257 (by kernel_rfl) (by kernel_rfl) (by kernel_rfl) (e := Extern.SlicesOverlaps.overlaps #[27, 27] #[4]) (by kernel_rfl),
    Lib.run_overlaps_apart w 27 4 9 Tryz.underlying27 1 (fun w => by simp [sizeOf, typeInfo, hi0, hz1]) ⟨vb, 0, none⟩ ⟨g, o, none⟩ 1 1 lb cb hne 9 9 1 cur.size (by simp [World.shape?, hv]) (by simp [World.shape?, hg]) hcur (by simp [World.frozen?, hv]) (by simp [World.frozen?, hv])]
  rfl
set_option maxHeartbeats 4000000 in
set_option maxRecDepth 100000 in
theorem str_Insert_room (B g cap i vb : Nat) (cur : Array Value) (xs : List ByteArray) (s : ByteArray) (w : World) (hbg : B ≤ g) (hg : w.heap[g]? = some (.cells cur 9 (0, 0))) (hi : i < xs.length) (hroom : xs.length + 1 ≤ cap) (hcm : cap ≤ maxLen)
    (hcs : cur.size = cap) (htake : cur.toList.take xs.length = strs xs) (hn : xs.length ≤ 1000) (hv : w.heap[vb]? = some (.cells #[.string s] 9 (0, 0))) (hne : vb ≠ g) :
    Calls Tryz.prog 217 #[.slice (some ⟨g, 0, none⟩) xs.length cap, .int .i64 i, .slice (some ⟨vb, 0, none⟩) 1 1] w fun e w' =>
      e = .returned (.slice (some ⟨g, 0, none⟩) (xs.length + 1) cap) ∧ w'.ownsRow B 9 1 (.slice (some ⟨g, 0, none⟩) (xs.length + 1) cap) (xs.length + 1) (strs (insAtB xs s i)) ∧ w.grownBy w' (some g) := by
  have HE := Lib.hid (insAt_strs xs s i)
  have hsz : (Tryz.prog.info? 9).map (·.size) = some 1 := by
    obtain ⟨i0, hi0, h0, h1, h2⟩ := info_parts str_info
    rw [hi0]; simp [h1]
  have hcl : (strs xs).length = xs.length := by simp [strs]
  have h1c := strs_one xs
  generalize strs xs = cs at *
  generalize strs (insAtB xs s i) = res at *
  obtain ⟨n, hxn⟩ : ∃ n, xs.length = n := ⟨_, rfl⟩
  rw [hxn] at hi hroom htake hn hcl ⊢
  clear hxn
  have hcm' : cap ≤ 9223372036854775807 := by simpa [maxLen] using hcm
  have hov : ∀ lb cb, (callFunc 257 #[.slice (some ⟨vb, 0, none⟩) 1 1, .slice (some ⟨g, i + 1, none⟩) lb cb]).run Tryz.prog w = .ok (.value (.bool false)) w := fun lb cb => ov_apart vb g (i + 1) lb cb s cur w hv hg hne (by omega)
  have hdl : (cs.drop i).length = n - i := by rw [List.length_drop, hcl]
  have hcell : ∀ j, w.cell? ⟨g, j, none⟩ = cur[j]? := fun j => cell_of_row w g j cur _ _ hg
  have hat : ∀ j v, cs[j]? = some v → cur[j]? = some v := fun j v hj => by
    have hjn : j < n := by have := (List.getElem?_eq_some_iff.1 hj).1; omega
    rw [← htake, List.getElem?_take_of_lt hjn] at hj
    simpa using hj
  have hsp : ∀ j, j < n + 1 → (w.cell? ⟨g, j, none⟩).isSome = true := fun j hj => by rw [hcell, Array.getElem?_eq_getElem (by omega)]; rfl
  have hfz : ∀ j, w.frozen? ⟨g, j, none⟩ = false := fun j => by simp [World.frozen?, hg]
  have hcp1 : ∀ ty dc sc, (Builtin.copy_ #[27, 27] ty #[.slice (some ⟨g, i + 1, none⟩) (n - i) dc, .slice (some ⟨g, i, none⟩) (n + 1 - i) sc]).run Tryz.prog w.drew = .ok (goInt (cs.drop i).length) (w.drew.setCells g (i + 1) (cs.drop i)) := fun ty dc sc =>
    run_copy_cells w.drew _ _ ty 9 g (i + 1) (n - i) dc ⟨g, i, none⟩ (n + 1 - i) sc (cs.drop i) Tryz.underlying27 hsz (by rw [hdl]; simp only [Nat.min_def]; split <;> omega)
      (fun j v hj => by rw [Addr.add_lit]; show w.cell? _ = _; rw [hcell]; exact hat (i + j) v (by rwa [List.getElem?_drop] at hj))
      (fun j hj => hsp _ (by omega)) (fun j hj => hfz _) (fun v hv => h1c v (List.mem_of_mem_drop hv))
  obtain ⟨W1, hW1⟩ : ∃ W1, W1 = w.drew.setCells g (i + 1) (cs.drop i) := ⟨_, rfl⟩
  have hg1 : W1.heap[g]? = some (.cells (setAll cur (i + 1) (cs.drop i)) 9 (0, 0)) := by rw [hW1]; exact heap_setCells _ _ _ _ hg
  have hs1 : (setAll cur (i + 1) (cs.drop i)).size = cap := by rw [setAll_size, hcs]
  have hcp2 : ∀ (W : World), (∀ x, W.cell? x = W1.cell? x) → (∀ x, W.frozen? x = W1.frozen? x) → ∀ ty dc, (Builtin.copy_ #[27, 27] ty #[.slice (some ⟨g, i, none⟩) (n + 1 - i) dc, .slice (some ⟨vb, 0, none⟩) 1 1]).run Tryz.prog W = .ok (goInt [Value.string s].length) (W.setCells g i [.string s]) := fun W hWc hWf ty dc =>
    run_copy_cells W _ _ ty 9 g i (n + 1 - i) dc ⟨vb, 0, none⟩ 1 1 [.string s] Tryz.underlying27 hsz (by simp only [List.length_singleton, Nat.min_def]; split <;> omega)
      (fun j v hj => by
        rw [Addr.add_lit, hWc, hW1, World.cell?_setCells_out g _ _ _ _ (fun h _ => absurd h hne)]
        show w.cell? _ = _
        rw [cell_of_row w vb _ _ _ _ hv]
        simpa using hj)
      (fun j hj => by rw [hWc, cell_of_row W1 g _ _ _ _ hg1, Array.getElem?_eq_getElem (by simp only [List.length_singleton] at hj; omega)]; rfl) (fun j hj => by rw [hWf]; simp [World.frozen?, hg1]) (str1 s)
  rw [← hW1] at hcp1
  have FIN : (W1.setCells g i [.string s]).ownsRow B 9 1 (.slice (some ⟨g, 0, none⟩) (n + 1) cap) (n + 1) res ∧ w.grownBy (W1.setCells g i [.string s]) (some g) := by
    refine ⟨⟨by rw [HE.out]; simp only [List.length_append, List.length_cons, List.length_take, List.length_drop]; omega, .inr ⟨g, cap, _, rfl, hbg, heap_setCells _ _ _ _ hg1, hroom, hcm, by rw [setAll_size, hs1, Nat.mul_one], ?_⟩⟩, ?_⟩
    · rw [setAll_list _ _ _ (by simp only [List.length_singleton]; omega), setAll_list _ _ _ (by rw [hdl]; omega), HE.out, Nat.mul_one, hdl]
      exact ins_list _ i n htake hi (by rw [Array.length_toList]; omega)
    · rw [hW1]
      exact grown_sets _ _ _ (grown_sets _ _ _ (gb_drew (World.grownBy.refl _ _)))
  have HF := Lib.hid FIN
  have hw1 : IntKind.i64.wrap ((i : Int) + 1) = (i : Int) + 1 := by rw [IntKind.wrap_i64]; omega
  have htn : ((i : Int) + 1).toNat = i + 1 := by omega
  have hb2 : ¬ (cap = i + 1) := by omega
  have hb4 : ¬ (cap = i) := by omega
  have hz2 : ¬ ((i : Int) = (n : Int)) := by omega
  have hin : i ≤ n := by omega
  have hb1 : (0 : Int) ≤ (i : Int) + 1 := by omega
  have mixed : Tryz.prog.follows Departure.mixedOrders = true := by kernel_rfl
  have hb3 : (i : Int) ≤ (n : Int) + 1 := by omega
  have hin1 : i + 1 ≤ n + 1 := by omega
  clear FIN HE htake hat hg1 hs1 hsp hfz hcell hdl hcl h1c hcs hv hg
  go_enter Tryz.func217, Tryz.ntmps217
  go_wp2_with (simp only [hov])
  go_region_law_o (refine step_copy_runI rfl _ _ 27 27 rfl _ _ (by simp [Act.eval, Act.put]) (by simp [Act.eval, Act.put]) (hcp1 _ _ _) ?_)
  go_wp2_with (at_builtin; refine wpList_copy_runI _ rfl _ _ 27 27 rfl _ _ rfl rfl (hcp2 _ (fun _ => rfl) (fun _ => rfl) _ _) ?_)
  go_ret
  have HF2 := HF.out
  rw [hW1] at HF2
  exact ⟨rfl, HF2.1, HF2.2⟩
theorem gb_newSets {w : World} {r : Option Nat} {G : Nat} (hG : w.heap.size ≤ G) : ∀ (vs : List Value) (o : Nat) (w' : World), w.grownBy w' r → w.grownBy (w'.setCells G o vs) r
  | [], _, _, h => h
  | v :: vs, o, _, h => gb_newSets hG vs (o + 1) _ (gb_new h hG v)
theorem ins_list2 {A cs : List Value} (x : Value) (i n : Nat) (hA : A.take i = cs.take i) (hl : cs.length = n) (hi : i < n) (hn : n + 1 ≤ A.length) :
    ((A.take i ++ [x] ++ A.drop (i + 1)).take (i + 1) ++ cs.drop i ++ (A.take i ++ [x] ++ A.drop (i + 1)).drop (i + 1 + (n - i))).take (n + 1) = cs.take i ++ x :: cs.drop i := by
  have h1 : (A.take i ++ [x]).length = i + 1 := by simp only [List.length_append, List.length_take, List.length_singleton]; omega
  have e1 : (A.take i ++ [x] ++ A.drop (i + 1)).take (i + 1) = cs.take i ++ [x] := by rw [List.take_left' h1, hA]
  rw [e1]
  have h2 : (cs.take i ++ [x] ++ cs.drop i).length = n + 1 := by simp only [List.length_append, List.length_singleton, List.length_take, List.length_drop]; omega
  rw [List.take_left' h2]
  simp
set_option maxHeartbeats 4000000 in
set_option maxRecDepth 100000 in
theorem str_Insert_grow (B g cap i vb : Nat) (cur : Array Value) (xs : List ByteArray) (s : ByteArray) (w : World) (hB : B ≤ w.heap.size) (hg : w.heap[g]? = some (.cells cur 9 (0, 0))) (hi : i < xs.length) (hnc : xs.length ≤ cap) (hroom : cap < xs.length + 1)
    (hcs : cur.size = cap) (htake : cur.toList.take xs.length = strs xs) (hn : xs.length ≤ 1000) (hv : w.heap[vb]? = some (.cells #[.string s] 9 (0, 0))) :
    Calls Tryz.prog 217 #[.slice (some ⟨g, 0, none⟩) xs.length cap, .int .i64 i, .slice (some ⟨vb, 0, none⟩) 1 1] w fun e w' =>
      ∃ GC, e = .returned (.slice (some ⟨w.heap.size, 0, none⟩) (xs.length + 1) GC) ∧ w'.ownsRow B 9 1 (.slice (some ⟨w.heap.size, 0, none⟩) (xs.length + 1) GC) (xs.length + 1) (strs (insAtB xs s i)) ∧ w.grownBy w' (some g) := by
  have hcs2 := hcs
  clear hcs2
  have HE := Lib.hid (insAt_strs xs s i)
  obtain ⟨i0, hi0, hz0, hz1, hz2⟩ := info_parts str_info
  have hsz : (Tryz.prog.info? 9).map (·.size) = some 1 := by rw [hi0]; simp [hz1]
  have hcl : (strs xs).length = xs.length := by simp [strs]
  have h1c := strs_one xs
  generalize strs xs = cs at *
  generalize strs (insAtB xs s i) = res at *
  obtain ⟨n, hxn⟩ : ∃ n, xs.length = n := ⟨_, rfl⟩
  rw [hxn] at hi hroom hnc htake hn hcl ⊢
  clear hxn
  obtain ⟨k, hk⟩ : ∃ k, n + 1 = i + k := ⟨n + 1 - i, by omega⟩
  have hglt : g < w.heap.size := (Array.getElem?_eq_some_iff.1 hg).1
  have hvlt : vb < w.heap.size := (Array.getElem?_eq_some_iff.1 hv).1
  have hcell : ∀ j, w.cell? ⟨g, j, none⟩ = cur[j]? := fun j => cell_of_row w g j cur _ _ hg
  have hat : ∀ j v, cs[j]? = some v → cur[j]? = some v := fun j v hj => by
    have hjn : j < n := by have := (List.getElem?_eq_some_iff.1 hj).1; omega
    rw [← htake, List.getElem?_take_of_lt hjn] at hj
    simpa using hj
  have hdl : (cs.drop i).length = n - i := by rw [List.length_drop, hcl]
  have htl : (cs.take i).length = i := by rw [List.length_take]; omega
  obtain ⟨GC, hGC⟩ : ∃ GC, GC = grownCap w (i + k) cap 9 := ⟨_, rfl⟩
  have hge : i + k ≤ GC := by rw [hGC]; exact grownCap_ge w (i + k) cap 9
  have hGm : GC ≤ maxLen := by rw [hGC]; exact grownCap_le_maxLen w (i + k) cap 9 (by simp only [maxLen]; omega)
  have hGm' : GC ≤ 9223372036854775807 := by simpa [maxLen] using hGm
  obtain ⟨z, hz⟩ : ∃ z, z = (Value.string ByteArray.empty) := ⟨_, rfl⟩
  obtain ⟨A, hA⟩ : ∃ A, A = (cs.take i).toArray ++ Builtin.zeroCells z.cells k ++ Builtin.zeroCells z.cells (GC - (i + k)) := ⟨_, rfl⟩
  have hzs : z.cells.size = 1 := by rw [hz]; rfl
  have hAs : A.size = GC := by rw [hA]; simp only [Array.size_append, List.size_toArray, size_zeroCells, hzs, htl]; omega
  have hAt : A.toList.take i = cs.take i := by rw [hA]; simp only [Array.toList_append, List.append_assoc]; exact List.take_left' htl
  have hrun : ∀ ty, (Builtin.append_ #[27, 3] ty #[.slice (some ⟨g, 0, none⟩) i cap, .int .i64 (k : Nat)]).run Tryz.prog w = .ok (.slice (some ⟨w.heap.size, 0, none⟩) (i + k) GC) (w.drew.alloc (.cells A 9)) := fun ty => by
    rw [hA, hGC, hz]
    exact Lib.run_append_grow_zeros w 27 3 ty 9 i0 _ .i64 .i64 Tryz.underlying27 Tryz.underlying3 hi0 hz0 (some ⟨g, 0, none⟩) i cap (cs.take i)
      (by rw [hz1]; exact run_firstCells_some w.drew 1 i ⟨g, 0, none⟩ i cap (cs.take i) (by omega) (fun j v hj => by
        rw [Addr.add_lit, Nat.zero_add]
        show w.cell? _ = _
        rw [hcell]
        have hji : j < i := by have := (List.getElem?_eq_some_iff.1 hj).1; omega
        rw [List.getElem?_take_of_lt hji] at hj
        exact hat j v hj))
      k (by omega) (by omega) (by omega) (by omega) (by rw [hz2]; omega) (by rw [hz2]; exact growslice_fits (by omega) (by omega))
  obtain ⟨W0, hW0⟩ : ∃ W0, W0 = w.drew.alloc (.cells A 9) := ⟨_, rfl⟩
  rw [← hW0] at hrun
  obtain ⟨G, hG⟩ : ∃ G, G = w.heap.size := ⟨_, rfl⟩
  have hg0 : W0.heap[G]? = some (.cells A 9 (0, 0)) := by rw [hW0, hG]; exact heap_alloc_new w.drew _
  have old : ∀ b, b < w.heap.size → W0.heap[b]? = w.heap[b]? := fun b hb => by rw [hW0]; exact heap_alloc_old w.drew _ hb
  have hcpA : ∀ (W : World), W = W0 → ∀ ty dc, (Builtin.copy_ #[27, 27] ty #[.slice (some ⟨G, i, none⟩) k dc, .slice (some ⟨vb, 0, none⟩) 1 1]).run Tryz.prog W = .ok (goInt [Value.string s].length) (W.setCells G i [.string s]) := fun W hW ty dc => by
    subst hW
    exact run_copy_cells W _ _ ty 9 G i k dc ⟨vb, 0, none⟩ 1 1 [.string s] Tryz.underlying27 hsz (by simp only [List.length_singleton, Nat.min_def]; split <;> omega)
      (fun j v hj => by
        rw [Addr.add_lit, cell_of_row W vb _ _ _ _ ((old vb hvlt).trans hv)]
        simpa using hj)
      (fun j hj => by rw [cell_of_row W G _ _ _ _ hg0, Array.getElem?_eq_getElem (by simp only [List.length_singleton] at hj; omega)]; rfl) (fun j hj => by simp [World.frozen?, hg0]) (str1 s)
  obtain ⟨W1, hW1⟩ : ∃ W1, W1 = W0.setCells G i [.string s] := ⟨_, rfl⟩
  have hg1 : W1.heap[G]? = some (.cells (setAll A i [.string s]) 9 (0, 0)) := by rw [hW1]; exact heap_setCells _ _ _ _ hg0
  have hs1 : (setAll A i [Value.string s]).size = GC := by rw [setAll_size, hAs]
  have hGg : ¬ g = G := by omega
  have hcpB : ∀ (W : World), (∀ x, W.cell? x = W1.cell? x) → (∀ x, W.frozen? x = W1.frozen? x) → ∀ ty dc sc, (Builtin.copy_ #[27, 27] ty #[.slice (some ⟨G, i + 1, none⟩) (i + k - (i + 1)) dc, .slice (some ⟨g, i, none⟩) (n - i) sc]).run Tryz.prog W = .ok (goInt (cs.drop i).length) (W.setCells G (i + 1) (cs.drop i)) := fun W hWc hWf ty dc sc =>
    run_copy_cells W _ _ ty 9 G (i + 1) (i + k - (i + 1)) dc ⟨g, i, none⟩ (n - i) sc (cs.drop i) Tryz.underlying27 hsz (by rw [hdl]; simp only [Nat.min_def]; split <;> omega)
      (fun j v hj => by
        rw [Addr.add_lit, hWc, hW1, World.cell?_setCells_out G _ _ _ _ (fun h _ => absurd h hGg), cell_of_row W0 g _ _ _ _ ((old g hglt).trans hg)]
        exact hat (i + j) v (by rwa [List.getElem?_drop] at hj))
      (fun j hj => by rw [hWc, cell_of_row W1 G _ _ _ _ hg1, Array.getElem?_eq_getElem (by omega)]; rfl) (fun j hj => by rw [hWf]; simp [World.frozen?, hg1]) (fun v hv => h1c v (List.mem_of_mem_drop hv))
  have FIN : ∀ W : World, W.heap = (W1.setCells G (i + 1) (cs.drop i)).heap → W.ownsRow B 9 1 (.slice (some ⟨G, 0, none⟩) (n + 1) GC) (n + 1) res := fun W hWh => by
    refine ⟨by rw [HE.out]; simp only [List.length_append, List.length_cons, List.length_take, List.length_drop]; omega, .inr ⟨G, GC, setAll (setAll A i [.string s]) (i + 1) (cs.drop i), rfl, by omega, by rw [hWh]; exact heap_setCells _ _ _ _ hg1, by omega, hGm, by rw [setAll_size, hs1, Nat.mul_one], ?_⟩⟩
    rw [setAll_list _ _ _ (by rw [hs1, hdl]; omega), setAll_list _ _ _ (by rw [hAs, List.length_singleton]; omega), HE.out, Nat.mul_one, hdl, List.length_singleton]
    exact ins_list2 _ i n hAt hcl hi (by rw [Array.length_toList]; omega)
  have HF := Lib.hid FIN
  have hw2 : IntKind.i64.wrap ((n : Int) + 1 - (i : Int)) = (k : Int) := by rw [IntKind.wrap_i64]; omega
  have hw1 : IntKind.i64.wrap ((i : Int) + 1) = (i : Int) + 1 := by rw [IntKind.wrap_i64]; omega
  have htn : ((i : Int) + 1).toNat = i + 1 := by omega
  have hb2 : ¬ (GC = i + 1) := by omega
  have hb4 : ¬ (GC = i) := by omega
  have hb5 : ¬ (cap = i) := by omega
  have hz2 : ¬ ((i : Int) = (n : Int)) := by omega
  have hin : i ≤ n := by omega
  have hic : i ≤ cap := by omega
  have hb1 : (0 : Int) ≤ (i : Int) + 1 := by omega
  have hik : (i : Int) + 1 ≤ (i : Int) + (k : Int) := by omega
  have hk1 : 1 ≤ k := by omega
  have HG := Lib.hid hG
  have HK := Lib.hid hk
  have HW0 := Lib.hid hW0
  have HW1 := Lib.hid hW1
  have mixed : Tryz.prog.follows Departure.mixedOrders = true := by kernel_rfl
  rw [← hG] at hrun ⊢
  clear FIN HE htake hat hg1 hs1 hcell hdl hcl h1c hcs hv hg hA hAs hAt hge hGm hGC hg0 old htl hz0 hz1 hi0 hzs hz hG hW0 hW1 hglt hvlt hk
  go_enter Tryz.func217, Tryz.ntmps217
  go_wp2_with (at_builtin; refine Lib.wpList_append_run _ rfl _ _ _ _ rfl _ _ rfl rfl _ _ (hrun _) ?_)
  go_wp2_with (at_builtin; refine wpList_copy_runI _ rfl _ _ 27 27 rfl _ _ rfl rfl (hcpA _ rfl _ _) ?_)
  rw [← HW1.out]
  have hcpC := hcpB W1.drew (fun _ => rfl) (fun _ => rfl)
  clear hcpB hcpA hrun
  go_region_law_o (refine step_copy_runI rfl _ _ 27 27 rfl _ _ (by simp [Act.eval, Act.put]) (by simp [Act.eval, Act.put]) (hcpC _ _ _) ?_)
  all_goals go_wp2
  all_goals go_ret
  all_goals exact ⟨GC, by rw [← HK.out]; rfl, HF.out _ (by rw [← drew_setCells]; rfl), by
    rw [HW1.out, HW0.out]
    exact gb_newSets (Nat.le_of_eq HG.out.symm) _ _ _ (gb_drew (gb_newSets (Nat.le_of_eq HG.out.symm) _ _ _ (gb_alloc (gb_drew (World.grownBy.refl _ _)) _)))⟩
set_option maxHeartbeats 1000000 in
theorem str_Insert (B : Nat) (v : Value) (xs : List ByteArray) (s : ByteArray) (i vb : Nat) (w : World) (hown : w.ownsRow B 9 1 v xs.length (strs xs)) (hB : B ≤ w.heap.size) (hn : xs.length ≤ 1000) (hi : i ≤ xs.length)
    (hv : w.heap[vb]? = some (.cells #[.string s] 9 (0, 0))) (hne : v.ownBlock ≠ some vb) :
    Calls Tryz.prog 217 #[v, .int .i64 i, .slice (some ⟨vb, 0, none⟩) 1 1] w fun e w' => ∃ a' c', e = .returned (.slice a' (xs.length + 1) c') ∧ w'.ownsRow B 9 1 (.slice a' (xs.length + 1) c') (xs.length + 1) (strs (insAtB xs s i)) ∧ w.grownBy w' v.ownBlock := by
  by_cases he : i = xs.length
  · subst he
    exact str_Insert_end B v xs s vb w hown hB hn hv
  · rcases hown.2 with ⟨rfl, h0⟩ | ⟨g, cap, cur, rfl, hbg, hg, hnc, hcm, hcs, htake⟩
    · omega
    · rw [Nat.mul_one] at hcs htake
      by_cases hroom : xs.length + 1 ≤ cap
      · refine (str_Insert_room B g cap i vb cur xs s w hbg hg (by omega) hroom hcm hcs htake hn hv (fun e => hne (by rw [e]; rfl))).mono ?_
        rintro e w' ⟨rfl, h1, h2⟩
        exact ⟨_, _, rfl, h1, h2⟩
      · refine (str_Insert_grow B g cap i vb cur xs s w hB hg (by omega) hnc (by omega) hcs htake hn hv).mono ?_
        rintro e w' ⟨GC, rfl, h1, h2⟩
        exact ⟨_, _, rfl, h1, h2⟩
end Go.Proofs.YtnhkgfgbhedphaaGreatDoor
namespace Go.Proofs.YtnhkgfgbhedphaaGreatDoor
open Go.RowKit Go.Shelf

theorem hasB_none {l : List ByteArray} {s : ByteArray} (hl : AscB l) (h : placeB l s = -1) : hasB l s = false := by
  cases hh : hasB l s with
  | false => rfl
  | true =>
    obtain ⟨j, hj, e⟩ := List.getElem_of_mem ((hasB_mem l s).1 hh)
    have := place_asc hl hj e
    omega
def SearchP (l : List ByteArray) (s : ByteArray) (e : Ending) : Prop := ∃ (k : Nat), e = .returned (.tuple #[.int .i64 k, .bool (hasB l s)]) ∧ k ≤ l.length ∧ posSB l s = k
set_option maxRecDepth 100000 in
set_option maxHeartbeats 4000000 in
theorem str_Place (va : Value) (l : List ByteArray) (s : ByteArray) (w : World) (ha : SlA w 1 va l.length (strs l)) (hl : AscB l) (hn : l.length ≤ 100000) :
    Calls Tryz.prog 216 #[va, .string s] w fun e w' => SearchP l s e ∧ w' = w := by
  have HA := Lib.hid ha
  have HL := Lib.hid hl
  have LS := Lib.hid (fun x W => cmp_LessS x s W)
  have NN := Lib.hid (fun x W => sl_isNaNs x W)
  obtain ⟨ao, cap, rfl⟩ := ha.form
  clear ha hl
  go_enter Tryz.func216, Tryz.ntmps216
  go_wp2_with fail
  go_loop [7, 8] (fun iv jv => ∃ i j : Nat, i ≤ j ∧ j ≤ l.length ∧ iv = .int .i64 i ∧ jv = .int .i64 j ∧ Hid (∀ k (hk : k < l.length), k < i → cmpS l[k] s < 0) ∧ Hid (∀ k (hk : k < l.length), j ≤ k → 0 ≤ cmpS l[k] s)) (fun iv jv => (intOf jv).toNat - (intOf iv).toNat)
  case atStart => exact ⟨0, l.length, by omega, Nat.le_refl _, rfl, rfl, Lib.hid (fun _ _ h => absurd h (by omega)), Lib.hid (fun k hk h => absurd hk (by omega))⟩
  case round =>
    obtain ⟨i, j, hij, hj, rfl, rfl, H1, H2⟩ := hrel
    by_cases hlt : i < j
    · have e1 : IntKind.i64.wrap ((i : Int) + j) = i + j := Go.IntWalk.i64_in _ (by omega)
      have d : decide ((i : Int) < (j : Int)) = true := by rw [decide_eq_true_iff]; omega
      have hil : (i + j) / 2 < l.length := by omega
      obtain ⟨b1, o1, c1, he1, hc1, hm1, hb1, hx1⟩ := HA.out.pos (by omega)
      simp only [Value.slice.injEq, true_and] at he1
      obtain ⟨rfl, rfl⟩ := he1
      have p0 := hx1 ((i + j) / 2) _ (strs_get hil)
      have e3 : IntKind.i64.wrap (((i : Int) + j) / 2 + 1) = ((i : Int) + j) / 2 + 1 := Go.IntWalk.i64_in _ (by omega)
      have SY := Lib.hid (fun e => search_yes HL.out (s := s) hil e)
      have SN := Lib.hid (fun (e : 0 ≤ cmpS l[(i + j) / 2] s) k hk h => Int.not_lt.1 (search_no HL.out (s := s) hil (Int.not_lt.2 e) k hk h))
      clear hx1
      generalize l[(i + j) / 2] = x at p0 SY SN
      go_wp2_with fail
      refine (LS.out _ _).mono ?_
      rintro e w1 ⟨rfl, rfl⟩
      by_cases hc : cmpS x s < 0
      · have dc : decide (cmpS x s < 0) = true := decide_eq_true hc
        have H3 := Lib.hid (SY.out hc)
        rw [dc]
        clear hc SY SN
        go_wp2
        exact ⟨⟨(i + j) / 2 + 1, j, by omega, hj, congrArg (Value.int .i64) (by omega), rfl, H3, H2⟩, by simp [intOf]; omega⟩
      · have dc : decide (cmpS x s < 0) = false := decide_eq_false hc
        have H3 := Lib.hid (SN.out (Int.not_lt.1 hc))
        rw [dc]
        clear hc SY SN
        go_wp2
        exact ⟨⟨i, (i + j) / 2, by omega, by omega, rfl, congrArg (Value.int .i64) (by omega), H1, H3⟩, by simp [intOf]; omega⟩
    · obtain rfl : i = j := by omega
      have d : decide ((i : Int) < (i : Int)) = false := by rw [decide_eq_false_iff_not]; omega
      by_cases hil : i < l.length
      · obtain ⟨b1, o1, c1, he1, hc1, hm1, hb1, hx1⟩ := HA.out.pos (by omega)
        simp only [Value.slice.injEq, true_and] at he1
        obtain ⟨rfl, rfl⟩ := he1
        have p0 := hx1 i _ (strs_get hil)
        have d2 : decide ((i : Int) < (l.length : Int)) = true := by rw [decide_eq_true_iff]; omega
        clear hx1
        by_cases he : l[i] = s
        · have R := Lib.hid (show hasB l s = true ∧ posSB l s = i from ⟨hasB_yes hil he, pos_ofB l s i hj H1.out (fun hk => Int.not_lt.2 (H2.out i hk (Nat.le_refl _)))⟩)
          rw [he] at p0
          clear he
          go_wp2
          refine bodyPost_ret (v := .tuple #[.int .i64 i, .bool true]) (by simp [results, Tryz.results216, go_sem]) rfl ⟨⟨i, by rw [R.out.1], hj, R.out.2⟩, rfl⟩
        · have R := Lib.hid (show hasB l s = false ∧ posSB l s = i from ⟨hasB_none HL.out (place_gap HL.out H1.out (fun k hk h => Int.not_lt.2 (H2.out k hk h)) (fun _ => he) HL.out), pos_ofB l s i hj H1.out (fun hk => Int.not_lt.2 (H2.out i hk (Nat.le_refl _)))⟩)
          have hne := beq_str l[i] s
          rw [decide_eq_false he] at hne
          clear he
          generalize l[i] = x at p0 hne
          go_wp2_with fail
          refine (NN.out _ _).mono ?_
          rintro e w1 ⟨rfl, rfl⟩
          go_wp2
          refine bodyPost_ret (v := .tuple #[.int .i64 i, .bool false]) (by simp [results, Tryz.results216, go_sem]) rfl ⟨⟨i, by rw [R.out.1], hj, R.out.2⟩, rfl⟩
      · have R := Lib.hid (show hasB l s = false ∧ posSB l s = i from ⟨hasB_none HL.out (place_gap HL.out H1.out (fun k hk h => Int.not_lt.2 (H2.out k hk h)) (fun h => absurd h hil) HL.out), pos_ofB l s i hj H1.out (fun hk => Int.not_lt.2 (H2.out i hk (Nat.le_refl _)))⟩)
        have d2 : decide ((i : Int) < (l.length : Int)) = false := by rw [decide_eq_false_iff_not]; omega
        go_wp2
        refine bodyPost_ret (v := .tuple #[.int .i64 i, .bool false]) (by simp [results, Tryz.results216, go_sem]) rfl ⟨⟨i, by rw [R.out.1], hj, R.out.2⟩, rfl⟩
end Go.Proofs.YtnhkgfgbhedphaaGreatDoor
