/- Whether two rows of texts, two queries, two policies are the same: of the same ones. slices.Equal at rows of texts. crupperref01.Same at any two rows; crupperref04.Same, query.Same at any two queries (printed by gen_qsame.py). (*policy.maker).line: a policy with a line more that asks (printed by gen_polline.py). (*policy.maker).line: a policy with a line more that asks whether it can be (printed by gen_polline.py). (*policy.maker).line: a policy with a line more that restricts (printed by gen_polline.py). (*policy.maker).line: a policy with a line more that restricts (printed by gen_polline.py). (*policy.maker).line: a policy with a line more that is a statement (printed by gen_polline.py). (*policy.maker).line: a policy with a line more (printed by gen_polline.py). policy.Parse: what it returns, for every text. Whether two rows of queries, two policies are the same: to the letter. Which verdicts are the same: report.Same, crupperref28.Same (printed by gen_repright.py). -/
import Derived.Test.YtomhekohcadijaaGreatDoorPartRF32
import Derived.Test.YtomhekohcadijaaGreatDoorPartRF16
import Derived.Test.YtomhekohcadijaaGreatDoorPartRF27
import Derived.Test.YtomhekohcadijaaGreatDoorPartRF22
import Derived.Test.YtomhekohcadijaaGreatDoorPartRF36
import Derived.Test.YtomhekohcadijaaGreatDoorPartRF24
import Derived.Test.YtomhekohcadijaaGreatDoorPartRF38
import Derived.Test.YtomhekohcadijaaGreatDoorPartRF29
import Derived.Test.YtomhekohcadijaaGreatDoorPartRF28
namespace Go.Proofs.YtomhekohcadijaaGreatDoor
open Go.RowKit Go.Shelf

end Go.Proofs.YtomhekohcadijaaGreatDoor
namespace Go.Proofs.YtomhekohcadijaaGreatDoor
open Go.RowKit Go.Shelf

end Go.Proofs.YtomhekohcadijaaGreatDoor
namespace Go.Proofs.YtomhekohcadijaaGreatDoor
open Go.RowKit Go.Shelf

def sameQ (x y : Qd) : Bool := if x.k = y.k then if x.a = y.a then if x.b = y.b then decide (x.us = y.us) else false else false else false
theorem sameQ_iff {x y : Qd} : sameQ x y = true ↔ x = y := by
  obtain ⟨k, a, b, us⟩ := x
  obtain ⟨k', a', b', us'⟩ := y
  unfold sameQ
  simp only [Qd.mk.injEq]
  constructor
  · intro h
    split at h
    · split at h
      · split at h
        · exact ⟨by assumption, by assumption, by assumption, of_decide_eq_true h⟩
        · exact absurd h (by decide)
      · exact absurd h (by decide)
    · exact absurd h (by decide)
  · rintro ⟨rfl, rfl, rfl, rfl⟩
    simp
end Go.Proofs.YtomhekohcadijaaGreatDoor
namespace Go.Proofs.YtomhekohcadijaaGreatDoor
open Go.RowKit Go.Shelf

theorem tx_eq {a b : ByteArray} (h : a = b) : (a.toList == bl b) = true := by rw [toList_bl, h]; exact beq_iff_eq.2 rfl
end Go.Proofs.YtomhekohcadijaaGreatDoor
namespace Go.Proofs.YtomhekohcadijaaGreatDoor
open Go.RowKit Go.Shelf

end Go.Proofs.YtomhekohcadijaaGreatDoor
namespace Go.Proofs.YtomhekohcadijaaGreatDoor
open Go.RowKit Go.Shelf

end Go.Proofs.YtomhekohcadijaaGreatDoor
namespace Go.Proofs.YtomhekohcadijaaGreatDoor
open Go.RowKit Go.Shelf

end Go.Proofs.YtomhekohcadijaaGreatDoor
namespace Go.Proofs.YtomhekohcadijaaGreatDoor
open Go.RowKit Go.Shelf

end Go.Proofs.YtomhekohcadijaaGreatDoor
namespace Go.Proofs.YtomhekohcadijaaGreatDoor
open Go.RowKit Go.Shelf

end Go.Proofs.YtomhekohcadijaaGreatDoor
namespace Go.Proofs.YtomhekohcadijaaGreatDoor
open Go.RowKit Go.Shelf

end Go.Proofs.YtomhekohcadijaaGreatDoor
namespace Go.Proofs.YtomhekohcadijaaGreatDoor
open Go.RowKit Go.Shelf

instance : DecidableEq Qd := fun x y => decidable_of_iff (sameQ x y = true) sameQ_iff
theorem take_same {α : Type} {l m : List α} {k : Nat} (h : l.take k = m.take k) (h1 : k < l.length) (h2 : k < m.length) (he : l[k] = m[k]) : l.take (k + 1) = m.take (k + 1) := by
  rw [List.take_succ_eq_append_getElem h1, List.take_succ_eq_append_getElem h2, h, he]
end Go.Proofs.YtomhekohcadijaaGreatDoor
namespace Go.Proofs.YtomhekohcadijaaGreatDoor
open Go.RowKit Go.Shelf

instance : DecidableEq Vd := fun x y => decidable_of_iff (x.k = y.k ∧ x.st = y.st) ⟨fun ⟨h1, h2⟩ => by cases x; cases y; simp only at h1 h2; rw [h1, h2], fun h => by rw [h]; exact ⟨rfl, rfl⟩⟩
theorem vd_eq (x y : Vd) : decide (x = y) = (decide (x.k = y.k) && decide (x.st = y.st)) := by
  rw [Bool.eq_iff_iff]
  simp only [Bool.and_eq_true, decide_eq_true_iff]
  exact ⟨fun h => by rw [h]; exact ⟨rfl, rfl⟩, fun ⟨h1, h2⟩ => by cases x; cases y; simp only at h1 h2; rw [h1, h2]⟩
def sameV (xs ys : List VZ) : Bool := decide (xs.map (·.d) = ys.map (·.d))
theorem vz_Same1 (x y : VZ) (w : World) (hx : SlA w 9 x.v x.d.st.length (x.d.st.flatMap St.cells)) (hy : SlA w 9 y.v y.d.st.length (y.d.st.flatMap St.cells)) :
    Calls Tryz.prog 88 #[vzv x, vzv y] w fun e w' => e = .returned (.bool (decide (x.d = y.d))) ∧ Below w.heap.size w w' := by
  have SS := Lib.hid (fun W (hb : Below w.heap.size w W) => state_SameB x.v y.v x.d.st y.d.st W (hx.below hb) (hy.below hb))
  have E := Lib.hid (vd_eq x.d y.d)
  generalize decide (x.d = y.d) = res at *
  generalize decide (x.d.st = y.d.st) = es at *
  obtain ⟨⟨xk, xst⟩, xv, x2, x3⟩ := x
  obtain ⟨⟨yk, yst⟩, yv, y2, y3⟩ := y
  dsimp only at *
  obtain ⟨xo, xc, rfl⟩ := hx.form
  obtain ⟨yo, yc, rfl⟩ := hy.form
  clear hx hy
  have HT := Lib.hid (TwoAt.new w #[.int .i64 xk, .slice xo xst.length xc, .int .i64 x2, .int .i64 x3] #[.int .i64 yk, .slice yo yst.length yc, .int .i64 y2, .int .i64 y3] 56 56)
  by_cases hk : xk = yk
  · have d : (xk == yk) = true := by rw [beq_iff_eq]; exact hk
    have R := Lib.hid (show res = es by rw [E.out, decide_eq_true hk]; rfl)
    clear hk
    go_enter Tryz.func88, Tryz.ntmps88
    go_wp2_with fail
    refine (SS.out _ HT.out.low).mono ?_
    rintro e w2 ⟨rfl, hb⟩
    have HT := Lib.hid (HT.out.later hb)
    clear hb
    go_wp2
    go_ret
    exact ⟨ret_b R.out.symm, HT.out.low⟩
  · have d : (xk == yk) = false := by rw [beq_eq_false_iff_ne]; exact hk
    have R := Lib.hid (show res = false by rw [E.out, decide_eq_false hk]; rfl)
    clear hk
    go_enter Tryz.func88, Tryz.ntmps88
    go_wp2_with fail
    go_ret
    exact ⟨ret_b R.out.symm, HT.out.low⟩
set_option maxRecDepth 100000 in
set_option maxHeartbeats 4000000 in
theorem vz_EqualFunc (va vb : Value) (xs ys : List VZ) (w : World) (ha : VsAt w va xs) (hb : VsAt w vb ys) :
    Calls Tryz.prog 87 #[va, vb, .func (.func 88) #[] #[]] w fun e w' => e = .returned (.bool (sameV xs ys)) ∧ Below w.heap.size w w' := by
  have hm1 := ha.r.max
  have hm2 := hb.r.max
  have HA := Lib.hid ha
  have HB := Lib.hid hb
  obtain ⟨ao, ac, rfl⟩ := ha.r.form
  obtain ⟨bo, bc, rfl⟩ := hb.r.form
  have R1 := Lib.hid (fun (h : xs.map (·.d) = ys.map (·.d)) => show sameV xs ys = true from decide_eq_true h)
  have R0 := Lib.hid (fun (h : ¬ xs.map (·.d) = ys.map (·.d)) => show sameV xs ys = false from decide_eq_false h)
  generalize sameV xs ys = res at *
  clear ha hb
  by_cases hl : xs.length = ys.length
  · have hne : ((xs.length : Int) != (ys.length : Int)) = false := by rw [hl]; simp
    have HL := Lib.hid hl
    clear hl
    go_enter Tryz.func87, Tryz.ntmps87
    go_wp2_with fail
    go_loopw [17] (fun i wr => ∃ k : Nat, k ≤ xs.length ∧ i = .int .i64 k ∧ Hid ((xs.map (·.d)).take k = (ys.map (·.d)).take k) ∧ Hid (Below w.heap.size w wr)) (fun i _ => xs.length - (intOf i).toNat)
    case atStart => exact ⟨0, by omega, rfl, Lib.hid rfl, Lib.hid (Below.refl _ _)⟩
    case round =>
      obtain ⟨k, hk, rfl, HK, HW⟩ := hrel
      by_cases hlt : k < xs.length
      · have hlt2 : k < ys.length := by rw [← HL.out]; exact hlt
        obtain ⟨b1, o1, c1, he1, hc1, hm1', hb1, hx1⟩ := (HA.out.below HW.out).r.pos (by omega)
        simp only [Value.slice.injEq, true_and] at he1
        obtain ⟨rfl, rfl⟩ := he1
        obtain ⟨b2, o2, c2, he2, hc2, hm2', hb2, hx2⟩ := (HB.out.below HW.out).r.pos (by omega)
        simp only [Value.slice.injEq, true_and] at he2
        obtain ⟨rfl, rfl⟩ := he2
        obtain ⟨p0, p1, p2, p3⟩ := vz_cell (w := wr) hx1 k hlt
        obtain ⟨q0, q1, q2, q3⟩ := vz_cell (w := wr) hx2 k hlt2
        have hu1 := (HA.out.below HW.out).s _ (List.getElem_mem hlt)
        have hu2 := (HB.out.below HW.out).s _ (List.getElem_mem hlt2)
        have HN := Lib.hid (fun (h : decide (xs[k].d = ys[k].d) = true) => take_same HK.out (by simpa using hlt) (by simpa using hlt2) (by simpa using of_decide_eq_true h))
        have HF := Lib.hid (fun (h : decide (xs[k].d = ys[k].d) = false) => show res = false by
          refine R0.out (fun e => ?_)
          have h1 : (xs.map (·.d))[k]'(by simpa using hlt) = (ys.map (·.d))[k]'(by simpa using hlt2) := by simp only [e]
          simp only [List.getElem_map] at h1
          rw [decide_eq_true h1] at h
          cases h)
        have SQ := Lib.hid (fun (W : World) (hb : Below wr.heap.size wr W) => vz_Same1 xs[k] ys[k] W (hu1.below hb) (hu2.below hb))
        generalize decide (xs[k].d = ys[k].d) = sb at *
        generalize xs[k] = X at *
        generalize ys[k] = Y at *
        obtain ⟨⟨xk, xst⟩, xv, x2, x3⟩ := X
        obtain ⟨⟨yk, yst⟩, yv, y2, y3⟩ := Y
        dsimp only at *
        obtain ⟨xo, xc, rfl⟩ := hu1.form
        obtain ⟨yo, yc, rfl⟩ := hu2.form
        have hr1 : b1 < wr.heap.size := hb1
        have hr2 : b2 < wr.heap.size := hb2
        clear hx1 hx2 hu1 hu2
        go_wp2_with fail
        have hba : Below wr.heap.size wr ((wr.alloc (.cells #[.int .i64 xk, .slice xo xst.length xc, .int .i64 x2, .int .i64 x3] 56)).alloc (.cells #[.int .i64 yk, .slice yo yst.length yc, .int .i64 y2, .int .i64 y3] 56)) := ((Below.refl _ _).alloc (Nat.le_refl _) _).alloc (by simp) _
        refine (SQ.out _ hba).mono ?_
        rintro e w2 ⟨rfl, hb2'⟩
        have hb3 := hba.trans (hb2'.mono hba.size)
        have HW2 := Lib.hid (HW.out.trans (hb3.mono HW.out.size))
        clear hb2' hb3 hba
        cases sb with
        | true =>
          have HN2 := Lib.hid (HN.out rfl)
          go_wp2
          exact ⟨⟨k + 1, by omega, by go_num, HN2, HW2⟩, by simp [intOf]; omega⟩
        | false =>
          have R := Lib.hid (HF.out rfl)
          go_wp2
          go_ret
          exact ⟨ret_b R.out.symm, HW2.out⟩
      · have R := Lib.hid (show res = true by
          have h := HK.out
          rw [List.take_of_length_le (by simp; omega), List.take_of_length_le (by have := HL.out; simp; omega)] at h
          exact R1.out h)
        go_wp2
        go_ret
        exact ⟨ret_b R.out.symm, HW.out⟩
  · have hne : ((xs.length : Int) != (ys.length : Int)) = true := by simp; omega
    have R := Lib.hid (show res = false by
      refine R0.out (fun e => hl ?_)
      have h := congrArg List.length e
      simpa using h)
    clear hl
    go_enter Tryz.func87, Tryz.ntmps87
    go_wp2
    go_ret
    exact ⟨ret_b R.out.symm, Below.refl _ _⟩
theorem rep_Same (va vb : Value) (xs ys : List VZ) (w : World) (ha : VsAt w va xs) (hb : VsAt w vb ys) :
    Calls Tryz.prog 36 #[va, vb] w fun e w' => e = .returned (.bool (sameV xs ys)) ∧ Below w.heap.size w w' := by
  have I := Lib.hid (vz_EqualFunc va vb xs ys w ha hb)
  generalize sameV xs ys = res at I ⊢
  obtain ⟨ao, ac, rfl⟩ := ha.r.form
  obtain ⟨bo, bc, rfl⟩ := hb.r.form
  clear ha hb
  go_enter Tryz.func36, Tryz.ntmps36
  go_wp2_with fail
  refine I.out.mono ?_
  rintro e w1 ⟨rfl, hb⟩
  have HB := Lib.hid hb
  clear hb
  go_wp2
  go_ret
  exact ⟨rfl, HB.out⟩
end Go.Proofs.YtomhekohcadijaaGreatDoor
