/- slices.EqualFunc at queries; policy.Same, crupperref05.Same (printed by gen_polsame.py). policy.Normal: a policy in order (printed by gen_polnormal.py). crupperref05.SortRoles: the row that is returned is the call's own (turned out of RlSort by gen_owns.py). crupperref05.Normal: a policy in order (printed by gen_polnormal.py). -/
import Derived.Test.YtnhkgfgbhedphaaGreatDoorPart17
import Derived.Test.YtnhkgfgbhedphaaGreatDoorPart12
import Derived.Test.YtnhkgfgbhedphaaGreatDoorPart6
import Derived.Test.YtnhkgfgbhedphaaGreatDoorPart16
import Derived.Test.YtnhkgfgbhedphaaGreatDoorPart10
import Derived.Test.YtnhkgfgbhedphaaGreatDoorPart3
import Derived.Test.YtnhkgfgbhedphaaGreatDoorPart7
import Derived.Test.YtnhkgfgbhedphaaGreatDoorPart14
namespace Go.Proofs.YtnhkgfgbhedphaaGreatDoor
open Go.RowKit Go.Shelf

def sameD (p q : Pd) : Bool := decide (p.l = q.l) && (decide (p.g = q.g) && (decide (p.h = q.h) && decide (p.q = q.q)))
theorem sameD_iff {p q : Pd} : sameD p q = true ↔ p = q := by
  obtain ⟨a, b, c, d⟩ := p
  obtain ⟨a', b', c', d'⟩ := q
  simp [sameD]
theorem st_EqualB (va vb : Value) (l m : List St) (w : World) (ha : SlA w 9 va l.length (l.flatMap St.cells)) (hb : SlA w 9 vb m.length (m.flatMap St.cells)) :
    Calls Tryz.prog 81 #[va, vb] w fun e w' => e = .returned (.bool (decide (l = m))) ∧ Below w.heap.size w w' :=
  (st_Equal va vb l m w ha hb).mono fun e w' ⟨he, n, hn⟩ => ⟨he, by rw [hn]; exact below_of_drewN n⟩
set_option maxRecDepth 100000 in
set_option maxHeartbeats 4000000 in
theorem q_EqualFunc (va vb : Value) (xs ys : List (Qd × Value)) (w : World) (ha : SlA w 6 va xs.length ((xs.map qz).flatMap Qv.cells)) (hb : SlA w 6 vb ys.length ((ys.map qz).flatMap Qv.cells)) (hx : ∀ z ∈ xs, SlA w 1 z.2 z.1.us.length (strs z.1.us)) (hy : ∀ z ∈ ys, SlA w 1 z.2 z.1.us.length (strs z.1.us)) :
    Calls Tryz.prog 83 #[va, vb, .func (.func 84) #[] #[]] w fun e w' => e = .returned (.bool (decide (xs.map (·.1) = ys.map (·.1)))) ∧ Below w.heap.size w w' := by
  have hm1 := ha.max
  have hm2 := hb.max
  have HA := Lib.hid ha
  have HB := Lib.hid hb
  have HX := Lib.hid hx
  have HY := Lib.hid hy
  obtain ⟨ao, ac, rfl⟩ := ha.form
  obtain ⟨bo, bc, rfl⟩ := hb.form
  have R1 := Lib.hid (fun (h : xs.map (·.1) = ys.map (·.1)) => decide_eq_true h)
  have R0 := Lib.hid (fun (h : ¬ xs.map (·.1) = ys.map (·.1)) => decide_eq_false h)
  generalize decide (xs.map (·.1) = ys.map (·.1)) = res at *
  clear ha hb hx hy
  by_cases hl : xs.length = ys.length
  · have hne : ((xs.length : Int) != (ys.length : Int)) = false := by rw [hl]; simp
    have HL := Lib.hid hl
    clear hl
    go_enter Tryz.func83, Tryz.ntmps83
    go_wp2_with fail
    go_loopw [17] (fun i wr => ∃ k : Nat, k ≤ xs.length ∧ i = .int .i64 k ∧ Hid ((xs.map (·.1)).take k = (ys.map (·.1)).take k) ∧ Hid (Below w.heap.size w wr)) (fun i _ => xs.length - (intOf i).toNat)
    case atStart => exact ⟨0, by omega, rfl, Lib.hid rfl, Lib.hid (Below.refl _ _)⟩
    case round =>
      obtain ⟨k, hk, rfl, HK, HW⟩ := hrel
      by_cases hlt : k < xs.length
      · have hlt2 : k < ys.length := by rw [← HL.out]; exact hlt
        have hlm : k < (xs.map qz).length := by simpa using hlt
        have hlm2 : k < (ys.map qz).length := by simpa using hlt2
        obtain ⟨b1, o1, c1, he1, hc1, hm1', hb1, hx1⟩ := (HA.out.below HW.out).pos (by omega)
        simp only [Value.slice.injEq, true_and] at he1
        obtain ⟨rfl, rfl⟩ := he1
        obtain ⟨b2, o2, c2, he2, hc2, hm2', hb2, hx2⟩ := (HB.out.below HW.out).pos (by omega)
        simp only [Value.slice.injEq, true_and] at he2
        obtain ⟨rfl, rfl⟩ := he2
        obtain ⟨p0, p1, p2, p3, p4, p5⟩ := q_cell (w := wr) (l := xs.map qz) hx1 k hlm
        obtain ⟨q0, q1, q2, q3, q4, q5⟩ := q_cell (w := wr) (l := ys.map qz) hx2 k hlm2
        have e1 : (xs.map qz)[k] = qz xs[k] := by simp
        have e2 : (ys.map qz)[k] = qz ys[k] := by simp
        rw [e1] at p0 p1 p2 p3 p4 p5
        rw [e2] at q0 q1 q2 q3 q4 q5
        have hu1 := (HX.out _ (List.getElem_mem hlt)).below HW.out
        have hu2 := (HY.out _ (List.getElem_mem hlt2)).below HW.out
        have SQ := Lib.hid (fun W (hb : Below wr.heap.size wr W) => query_SameQ xs[k].1 ys[k].1 xs[k].2 ys[k].2 W (hu1.below hb) (hu2.below hb))
        have HN := Lib.hid (fun (h : sameQ xs[k].1 ys[k].1 = true) => take_same HK.out (by simpa using hlt) (by simpa using hlt2) (by simpa using sameQ_iff.1 h))
        have HF := Lib.hid (fun (h : sameQ xs[k].1 ys[k].1 = false) => show res = false by
          refine R0.out (fun e => ?_)
          have h1 : (xs.map (·.1))[k]'(by simpa using hlt) = (ys.map (·.1))[k]'(by simpa using hlt2) := by simp only [e]
          simp only [List.getElem_map] at h1
          rw [sameQ_iff.2 h1] at h
          cases h)
        generalize sameQ xs[k].1 ys[k].1 = sb at *
        generalize xs[k] = X at *
        generalize ys[k] = Y at *
        obtain ⟨⟨xk, ⟨x1, x2⟩, ⟨x3, x4⟩, xs5⟩, xv⟩ := X
        obtain ⟨⟨yk, ⟨y1, y2⟩, ⟨y3, y4⟩, ys5⟩, yv⟩ := Y
        dsimp only [qz] at hu1 hu2 p0 p1 p2 p3 p4 p5 q0 q1 q2 q3 q4 q5 SQ
        obtain ⟨xo, xc, rfl⟩ := hu1.form
        obtain ⟨yo, yc, rfl⟩ := hu2.form
        have hr1 : b1 < wr.heap.size := hb1
        have hr2 : b2 < wr.heap.size := hb2
        clear hx1 hx2 hu1 hu2 e1 e2 hlm hlm2
        go_wp2_with fail
        have hba : Below wr.heap.size wr ((wr.alloc (.cells #[.int .i64 xk, .string x1, .string x2, .string x3, .string x4, .slice xo xs5.length xc] 66)).alloc (.cells #[.int .i64 yk, .string y1, .string y2, .string y3, .string y4, .slice yo ys5.length yc] 66)) := ((Below.refl _ _).alloc (Nat.le_refl _) _).alloc (by simp) _
        refine (SQ.out _ hba).mono ?_
        rintro e w2 ⟨rfl, hb2'⟩
        have hb3 := hba.trans (hb2'.mono hba.size)
        have HW2 := Lib.hid (HW.out.trans (hb3.mono HW.out.size))
        clear hb2' hb3 hba
        cases sb with
        | true =>
          have HN2 := Lib.hid (HN.out rfl)
          go_wp2
          exact ⟨⟨k + 1, by omega, by go_num, HN2, HW2⟩, by simp [intOf]; omega⟩
        | false =>
          have R := Lib.hid (HF.out rfl)
          go_wp2
          go_ret
          exact ⟨ret_b R.out.symm, HW2.out⟩
      · have R := Lib.hid (show res = true by
          have h := HK.out
          rw [List.take_of_length_le (by simp; omega), List.take_of_length_le (by have := HL.out; simp; omega)] at h
          exact R1.out h)
        go_wp2
        go_ret
        exact ⟨ret_b R.out.symm, HW.out⟩
  · have hne : ((xs.length : Int) != (ys.length : Int)) = true := by simp; omega
    have R := Lib.hid (show res = false by
      refine R0.out (fun e => hl ?_)
      have h := congrArg List.length e
      simpa using h)
    clear hl
    go_enter Tryz.func83, Tryz.ntmps83
    go_wp2
    go_ret
    exact ⟨ret_b R.out.symm, Below.refl _ _⟩
set_option maxRecDepth 100000 in
set_option maxHeartbeats 4000000 in
theorem ref5_SameD (v0 v1 v2 v3 u0 u1 u2 u3 : Value) (p q : Pd) (zs us : List (Qd × Value)) (w : World) (hp : PolD w v0 v1 v2 v3 p zs) (hq : PolD w u0 u1 u2 u3 q us) :
    Calls Tryz.prog 26 #[pv v0 v1 v2 v3, pv u0 u1 u2 u3] w fun e w' => e = .returned (.bool (sameD p q)) ∧ Below w.heap.size w w' := by
  have C0 := Lib.hid (fun W (hb : Below w.heap.size w W) => ref3_SameB v0 u0 p.l q.l W (hp.rs.below hb) (hq.rs.below hb))
  have C1 := Lib.hid (fun W (hb : Below w.heap.size w W) => ref3_SameRolesE v1 u1 p.g q.g W (hp.rg.below hb) (hq.rg.below hb))
  have C2 := Lib.hid (fun W (hb : Below w.heap.size w W) => ref3_SameRolesE v2 u2 p.h q.h W (hp.rh.below hb) (hq.rh.below hb))
  have C3 := Lib.hid (fun W (hb : Below w.heap.size w W) => ref4_SameAllQ v3 u3 zs us W (hp.rq.below hb) (hq.rq.below hb) (fun z hz => (hp.rw z hz).below hb) (fun z hz => (hq.rw z hz).below hb))
  rw [hp.z, hq.z] at C3
  have RES := Lib.hid (show sameD p q = (decide (p.l = q.l) && (decide (p.g = q.g) && (decide (p.h = q.h) && decide (p.q = q.q)))) from rfl)
  generalize sameD p q = res at *
  generalize decide (p.l = q.l) = e0 at *
  generalize decide (p.g = q.g) = e1 at *
  generalize decide (p.h = q.h) = e2 at *
  generalize decide (p.q = q.q) = e3 at *
  obtain ⟨a0, c0, rfl⟩ := hp.rs.form
  obtain ⟨a1, c1, rfl⟩ := hp.rg.form
  obtain ⟨a2, c2, rfl⟩ := hp.rh.form
  obtain ⟨a3, c3, rfl⟩ := hp.rq.form
  obtain ⟨b0, d0, rfl⟩ := hq.rs.form
  obtain ⟨b1, d1, rfl⟩ := hq.rg.form
  obtain ⟨b2, d2, rfl⟩ := hq.rh.form
  obtain ⟨b3, d3, rfl⟩ := hq.rq.form
  have HT := Lib.hid (TwoAt.new w #[.slice a0 p.l.length c0, .slice a1 p.g.length c1, .slice a2 p.h.length c2, .slice a3 zs.length c3] #[.slice b0 q.l.length d0, .slice b1 q.g.length d1, .slice b2 q.h.length d2, .slice b3 us.length d3] 26 26)
  clear hp hq
  go_enter Tryz.func26, Tryz.ntmps26
  go_wp2_with fail
  refine (C0.out _ HT.out.low).mono ?_
  rintro e w0 ⟨rfl, hb⟩
  have HT := Lib.hid (HT.out.later hb)
  clear hb C0
  by_cases h0 : e0 = true
  case neg =>
    obtain rfl : e0 = false := nb h0
    have R := Lib.hid (show res = false by rw [RES.out]; simp)
    go_wp2
    go_ret
    exact ⟨ret_b R.out.symm, HT.out.low⟩
  subst h0
  obtain ⟨ca, fa, za⟩ := HT.out.a
  obtain ⟨cb, fb, zb⟩ := HT.out.b
  go_wp2_with fail
  refine (C1.out _ HT.out.low).mono ?_
  rintro e w1 ⟨rfl, hb⟩
  have HT := Lib.hid (HT.out.later hb)
  clear hb C1 ca fa za cb fb zb
  by_cases h1 : e1 = true
  case neg =>
    obtain rfl : e1 = false := nb h1
    have R := Lib.hid (show res = false by rw [RES.out]; simp)
    go_wp2
    go_ret
    exact ⟨ret_b R.out.symm, HT.out.low⟩
  subst h1
  obtain ⟨ca, fa, za⟩ := HT.out.a
  obtain ⟨cb, fb, zb⟩ := HT.out.b
  go_wp2_with fail
  refine (C2.out _ HT.out.low).mono ?_
  rintro e w2 ⟨rfl, hb⟩
  have HT := Lib.hid (HT.out.later hb)
  clear hb C2 ca fa za cb fb zb
  by_cases h2 : e2 = true
  case neg =>
    obtain rfl : e2 = false := nb h2
    have R := Lib.hid (show res = false by rw [RES.out]; simp)
    go_wp2
    go_ret
    exact ⟨ret_b R.out.symm, HT.out.low⟩
  subst h2
  obtain ⟨ca, fa, za⟩ := HT.out.a
  obtain ⟨cb, fb, zb⟩ := HT.out.b
  go_wp2_with fail
  refine (C3.out _ HT.out.low).mono ?_
  rintro e w3 ⟨rfl, hb⟩
  have HT := Lib.hid (HT.out.later hb)
  clear hb C3 ca fa za cb fb zb
  have R := Lib.hid (show res = e3 by rw [RES.out]; simp)
  go_wp2
  go_ret
  exact ⟨ret_b R.out.symm, HT.out.low⟩
set_option maxRecDepth 100000 in
set_option maxHeartbeats 4000000 in
theorem policy_Same (v0 v1 v2 v3 u0 u1 u2 u3 : Value) (p q : Pd) (zs us : List (Qd × Value)) (w : World) (hp : PolD w v0 v1 v2 v3 p zs) (hq : PolD w u0 u1 u2 u3 q us) :
    Calls Tryz.prog 32 #[pv v0 v1 v2 v3, pv u0 u1 u2 u3] w fun e w' => e = .returned (.bool (sameD p q)) ∧ Below w.heap.size w w' := by
  have C0 := Lib.hid (fun W (hb : Below w.heap.size w W) => st_EqualB v0 u0 p.l q.l W (hp.rs.below hb) (hq.rs.below hb))
  have C1 := Lib.hid (fun W (hb : Below w.heap.size w W) => rl_EqualB v1 u1 p.g q.g W (hp.rg.below hb) (hq.rg.below hb))
  have C2 := Lib.hid (fun W (hb : Below w.heap.size w W) => rl_EqualB v2 u2 p.h q.h W (hp.rh.below hb) (hq.rh.below hb))
  have C3 := Lib.hid (fun W (hb : Below w.heap.size w W) => q_EqualFunc v3 u3 zs us W (hp.rq.below hb) (hq.rq.below hb) (fun z hz => (hp.rw z hz).below hb) (fun z hz => (hq.rw z hz).below hb))
  rw [hp.z, hq.z] at C3
  have RES := Lib.hid (show sameD p q = (decide (p.l = q.l) && (decide (p.g = q.g) && (decide (p.h = q.h) && decide (p.q = q.q)))) from rfl)
  generalize sameD p q = res at *
  generalize decide (p.l = q.l) = e0 at *
  generalize decide (p.g = q.g) = e1 at *
  generalize decide (p.h = q.h) = e2 at *
  generalize decide (p.q = q.q) = e3 at *
  obtain ⟨a0, c0, rfl⟩ := hp.rs.form
  obtain ⟨a1, c1, rfl⟩ := hp.rg.form
  obtain ⟨a2, c2, rfl⟩ := hp.rh.form
  obtain ⟨a3, c3, rfl⟩ := hp.rq.form
  obtain ⟨b0, d0, rfl⟩ := hq.rs.form
  obtain ⟨b1, d1, rfl⟩ := hq.rg.form
  obtain ⟨b2, d2, rfl⟩ := hq.rh.form
  obtain ⟨b3, d3, rfl⟩ := hq.rq.form
  have HT := Lib.hid (TwoAt.new w #[.slice a0 p.l.length c0, .slice a1 p.g.length c1, .slice a2 p.h.length c2, .slice a3 zs.length c3] #[.slice b0 q.l.length d0, .slice b1 q.g.length d1, .slice b2 q.h.length d2, .slice b3 us.length d3] 26 26)
  clear hp hq
  go_enter Tryz.func32, Tryz.ntmps32
  go_wp2_with fail
  refine (C0.out _ HT.out.low).mono ?_
  rintro e w0 ⟨rfl, hb⟩
  have HT := Lib.hid (HT.out.later hb)
  clear hb C0
  by_cases h0 : e0 = true
  case neg =>
    obtain rfl : e0 = false := nb h0
    have R := Lib.hid (show res = false by rw [RES.out]; simp)
    go_wp2
    go_ret
    exact ⟨ret_b R.out.symm, HT.out.low⟩
  subst h0
  obtain ⟨ca, fa, za⟩ := HT.out.a
  obtain ⟨cb, fb, zb⟩ := HT.out.b
  go_wp2_with fail
  refine (C1.out _ HT.out.low).mono ?_
  rintro e w1 ⟨rfl, hb⟩
  have HT := Lib.hid (HT.out.later hb)
  clear hb C1 ca fa za cb fb zb
  by_cases h1 : e1 = true
  case neg =>
    obtain rfl : e1 = false := nb h1
    have R := Lib.hid (show res = false by rw [RES.out]; simp)
    go_wp2
    go_ret
    exact ⟨ret_b R.out.symm, HT.out.low⟩
  subst h1
  obtain ⟨ca, fa, za⟩ := HT.out.a
  obtain ⟨cb, fb, zb⟩ := HT.out.b
  go_wp2_with fail
  refine (C2.out _ HT.out.low).mono ?_
  rintro e w2 ⟨rfl, hb⟩
  have HT := Lib.hid (HT.out.later hb)
  clear hb C2 ca fa za cb fb zb
  by_cases h2 : e2 = true
  case neg =>
    obtain rfl : e2 = false := nb h2
    have R := Lib.hid (show res = false by rw [RES.out]; simp)
    go_wp2
    go_ret
    exact ⟨ret_b R.out.symm, HT.out.low⟩
  subst h2
  obtain ⟨ca, fa, za⟩ := HT.out.a
  obtain ⟨cb, fb, zb⟩ := HT.out.b
  go_wp2_with fail
  refine (C3.out _ HT.out.low).mono ?_
  rintro e w3 ⟨rfl, hb⟩
  have HT := Lib.hid (HT.out.later hb)
  clear hb C3 ca fa za cb fb zb
  have R := Lib.hid (show res = e3 by rw [RES.out]; simp)
  go_wp2
  go_ret
  exact ⟨ret_b R.out.symm, HT.out.low⟩
end Go.Proofs.YtnhkgfgbhedphaaGreatDoor
namespace Go.Proofs.YtnhkgfgbhedphaaGreatDoor
open Go.RowKit Go.Shelf

def normD (p : Pd) : Pd := ⟨insAll [] (p.l.map normalS), insAllR [] p.g, insAllR [] p.h, p.q⟩
theorem kp_set4 (w : World) (b : Nat) (x0 x1 x2 x3 : Value) : Kp (fun j => j = b) w ((((w.setCell ⟨b, 0, none⟩ x0).setCell ⟨b, 1, none⟩ x1).setCell ⟨b, 2, none⟩ x2).setCell ⟨b, 3, none⟩ x3) :=
  (((Kp.set (X := fun j => j = b) rfl).trans (Kp.set (X := fun j => j = b) rfl) (fun _ _ e => e)).trans (Kp.set (X := fun j => j = b) rfl) (fun _ _ e => e)).trans (Kp.set (X := fun j => j = b) rfl) (fun _ _ e => e)
theorem blk_set4 {w : World} {b : Nat} {y0 y1 y2 y3 : Value} (h : Blk w b #[y0, y1, y2, y3]) (x0 x1 x2 x3 : Value) : Blk ((((w.setCell ⟨b, 0, none⟩ x0).setCell ⟨b, 1, none⟩ x1).setCell ⟨b, 2, none⟩ x2).setCell ⟨b, 3, none⟩ x3) b #[x0, x1, x2, x3] :=
  ((((h.put (o := 0) (v := x0) (by simp)).put (o := 1) (v := x1) (by simp)).put (o := 2) (v := x2) (by simp)).put (o := 3) (v := x3) (by simp)).congr rfl
theorem twoAt_kp {w wx w' : World} {P Q : Array Value} {b : Nat} (h : TwoAt w P Q wx) (k : Kp (fun j => j = b) wx w') (lb : w.heap.size + 1 < b) : TwoAt w P Q w' :=
  ⟨k.blk h.a (by omega), k.blk h.b (by omega), h.low.trans (k.below h.low.size (fun j hj e => by omega))⟩
theorem type_below {w w' : World} {b : Nat} {t : TypeId} (h : ∃ cs, w.heap[b]? = some (.cells cs t (0, 0))) (hb : Below w.heap.size w w') : ∃ cs, w'.heap[b]? = some (.cells cs t (0, 0)) := by
  obtain ⟨cs, h⟩ := h
  exact ⟨cs, (hb.block b (Array.getElem?_eq_some_iff.1 h).1).trans h⟩
theorem own_typeB {w : World} {base size n b : Nat} {e t : TypeId} {v : Value} {xs : List Value} (h : w.ownsRow base e size v n xs) (hb : ∃ cs, w.heap[b]? = some (.cells cs t (0, 0))) (hne : ¬ e = t) : ∀ g, v.ownBlock = some g → ¬ g = b := fun g hg => by
  obtain ⟨_, cs, h1⟩ := own_type h hg
  obtain ⟨cs', h2⟩ := hb
  exact type_ne h1 h2 hne
structure NrCut (w : World) (P Q : Array Value) (b : Nat) (u0 u1 u2 : Value) (nl : List St) (ng nh : List Rl) (wx : World) : Prop where
  t : TwoAt w P Q wx
  lb : w.heap.size + 1 < b
  blk : Blk wx b #[u0, u1, u2, .slice none 0 0]
  r0 : wx.ownsRow (w.heap.size + 2) 63 9 u0 nl.length (nl.flatMap St.cells)
  r1 : wx.ownsRow (w.heap.size + 2) 54 2 u1 ng.length (ng.flatMap Rl.cells)
  r2 : wx.ownsRow (w.heap.size + 2) 54 2 u2 nh.length (nh.flatMap Rl.cells)
  n0 : ∀ g, u0.ownBlock = some g → ¬ g = b
  n1 : ∀ g, u1.ownBlock = some g → ¬ g = b
  n2 : ∀ g, u2.ownBlock = some g → ¬ g = b
theorem take_map_snoc {l : List St} {k : Nat} (h : k < l.length) : (l.take (k + 1)).map normalS = (l.take k).map normalS ++ [normalS l[k]] := by
  rw [List.take_succ_eq_append_getElem h, List.map_append]; rfl
set_option maxRecDepth 100000 in
set_option maxHeartbeats 8000000 in
theorem policy_Normal (v0 v1 v2 v3 : Value) (p : Pd) (zs : List (Qd × Value)) (w : World) (hp : PolD w v0 v1 v2 v3 p zs) (hl : p.l.length ≤ 1000) (hg : p.g.length ≤ 1000) (hh : p.h.length ≤ 1000) (hq : p.q.length ≤ 1000) (hus : ∀ q ∈ p.q, q.us.length ≤ 100000) :
    Calls Tryz.prog 36 #[pv v0 v1 v2 v3] w fun e w' => (∃ u0 u1 u2 u3 us, e = .returned (pv u0 u1 u2 u3) ∧ PolD w' u0 u1 u2 u3 (normD p) us) ∧ Below w.heap.size w w' := by
  have HP := Lib.hid hp
  have HUS := Lib.hid hus
  have hzl : zs.length = p.q.length := by rw [← hp.z, List.length_map]
  have hz1000 : zs.length ≤ 1000 := by omega
  have HZL := Lib.hid hzl
  obtain ⟨a0, c0, rfl⟩ := hp.rs.form
  obtain ⟨a1, c1, rfl⟩ := hp.rg.form
  obtain ⟨a2, c2, rfl⟩ := hp.rh.form
  obtain ⟨a3, c3, rfl⟩ := hp.rq.form
  have SG := Lib.hid (fun W (hb : Below w.heap.size w W) => pol_SortRolesO (.slice a1 p.g.length c1) p.g W (hp.rg.below hb) hg)
  have SH := Lib.hid (fun W (hb : Below w.heap.size w W) => pol_SortRolesO (.slice a2 p.h.length c2) p.h W (hp.rh.below hb) hh)
  obtain ⟨NL, hNL⟩ : ∃ x, x = insAll [] (p.l.map normalS) := ⟨_, rfl⟩
  obtain ⟨NG, hNG⟩ : ∃ x, x = insAllR [] p.g := ⟨_, rfl⟩
  obtain ⟨NH, hNH⟩ : ∃ x, x = insAllR [] p.h := ⟨_, rfl⟩
  have HN := Lib.hid (show normD p = ⟨NL, NG, NH, p.q⟩ by rw [hNL, hNG, hNH]; rfl)
  have HNL := Lib.hid hNL
  rw [← hNG] at SG
  rw [← hNH] at SH
  clear hNL hNG hNH hp hus hzl hq hg hh
  have HT := Lib.hid (TwoAt.new w #[.slice a0 p.l.length c0, .slice a1 p.g.length c1, .slice a2 p.h.length c2, .slice a3 zs.length c3] #[.slice none 0 0, .slice none 0 0, .slice none 0 0, .slice none 0 0] 26 26)
  go_enter Tryz.func36, Tryz.ntmps36
  obtain ⟨w1, hw1⟩ : ∃ W, W = (w.alloc (.cells #[.slice a0 p.l.length c0, .slice a1 p.g.length c1, .slice a2 p.h.length c2, .slice a3 zs.length c3] 26)).alloc (.cells #[.slice none 0 0, .slice none 0 0, .slice none 0 0, .slice none 0 0] 26) := ⟨_, rfl⟩
  rw [← hw1] at HT
  go_wp2_with fail
  rw [← hw1]
  clear hw1
  go_loopw [3, 12] (fun vo i wr => ∃ ml : List St, ml.length ≤ p.l.length ∧ i = .int .i64 ml.length ∧ Hid (ml = (p.l.take ml.length).map normalS) ∧ Hid (Below w1.heap.size w1 wr) ∧ Hid (wr.ownsRow w1.heap.size 63 9 vo ml.length (ml.flatMap St.cells))) (fun _ i _ => p.l.length - (intOf i).toNat)
  case atStart => exact ⟨[], by simp, rfl, Lib.hid rfl, Lib.hid (Below.refl _ _), Lib.hid (World.ownsRow_nil _ _ _ _)⟩
  case round =>
    obtain ⟨ml, hk, rfl, HE, HB, HO⟩ := hrel
    obtain ⟨oo, oc, rfl⟩ := own_form HO.out
    by_cases hlt : ml.length < p.l.length
    · obtain ⟨b1, o1, cc1, he1, hc1, hm1, hb1, hx1⟩ := (HP.out.rs.below (HT.out.later HB.out).low).pos (by omega)
      simp only [Value.slice.injEq, true_and] at he1
      obtain ⟨rfl, rfl⟩ := he1
      obtain ⟨p0, p1, p2, p3, p4, p5, p6, p7, p8⟩ := st_cell (w := wr) hx1 ml.length hlt
      have SN := Lib.hid (show ml ++ [normalS p.l[ml.length]] = (p.l.take (ml.length + 1)).map normalS by rw [take_map_snoc hlt, ← HE.out])
      have PC := Lib.hid (fun W => syn_Normal p.l[ml.length] W)
      have hlk : ml.length ≤ 1000 := by omega
      have hek : p.l[ml.length] = ⟨p.l[ml.length].k, ⟨p.l[ml.length].h.o, p.l[ml.length].h.n⟩, p.l[ml.length].who, ⟨p.l[ml.length].a.o, p.l[ml.length].a.n⟩, ⟨p.l[ml.length].b.o, p.l[ml.length].b.n⟩, p.l[ml.length].via⟩ := rfl
      generalize p.l[ml.length] = x at *
      obtain ⟨xk, ⟨x1, x2⟩, xw, ⟨x3, x4⟩, ⟨x5, x6⟩, xv⟩ := x
      generalize normalS ⟨xk, ⟨x1, x2⟩, xw, ⟨x3, x4⟩, ⟨x5, x6⟩, xv⟩ = y at SN PC
      obtain ⟨yk, ⟨y1, y2⟩, yw, ⟨y3, y4⟩, ⟨y5, y6⟩, yv⟩ := y
      clear hek hx1
      have HB1 := Lib.hid (HB.out.alloc HB.out.size (.cells #[.int .i64 xk, .string x1, .string x2, .string xw, .string x3, .string x4, .string x5, .string x6, .string xv] 63))
      go_wp2_with fail
      refine (PC.out _).mono ?_
      rintro e w2 ⟨rfl, hb2⟩
      have HB2 := Lib.hid (HB1.out.trans (hb2.mono HB1.out.size))
      have HO2 := Lib.hid (own_below (own_below HO.out ((Below.refl _ _).alloc (Nat.le_refl _) _)) hb2)
      have hz2 := HB2.out.size
      clear hb2
      have hown := HO2.out
      go_wp2_with (at_builtin; refine halt_ ?_)
      unfold Halt_
      refine app_own Tryz.underlying22 st_info rfl (by decide) (by decide) rfl _ _ rfl w1.heap.size rfl (hown.alloc _) [.int .i64 yk, .string y1, .string y2, .string yw, .string y3, .string y4, .string y5, .string y6, .string yv] rfl (heap_new1 _ _) rfl (st_one ⟨yk, ⟨y1, y2⟩, yw, ⟨y3, y4⟩, ⟨y5, y6⟩, yv⟩) ?_ ?_ ?_
      · omega
      · simp; omega
      intro a' cap' w3 hown' hgrow
      have e1 : (ml ++ [(⟨yk, ⟨y1, y2⟩, yw, ⟨y3, y4⟩, ⟨y5, y6⟩, yv⟩ : St)]).length = ml.length + 1 := by simp
      have HO3 := Lib.hid (show w3.ownsRow w1.heap.size 63 9 _ (ml ++ [(⟨yk, ⟨y1, y2⟩, yw, ⟨y3, y4⟩, ⟨y5, y6⟩, yv⟩ : St)]).length ((ml ++ [(⟨yk, ⟨y1, y2⟩, yw, ⟨y3, y4⟩, ⟨y5, y6⟩, yv⟩ : St)]).flatMap St.cells) by rw [flat_snoc, e1]; exact hown')
      have HB3 := Lib.hid (below_own (HB2.out.alloc HB2.out.size (.cells #[.int .i64 yk, .string y1, .string y2, .string yw, .string y3, .string y4, .string y5, .string y6, .string yv] 63)) (hown.alloc _) hgrow (by simp; omega) (Nat.le_refl _))
      have HE1 := Lib.hid e1
      clear hown' hgrow hown e1
      go_wp2_with fail
      rw [HE1.out] at HO3
      exact ⟨⟨ml ++ [(⟨yk, ⟨y1, y2⟩, yw, ⟨y3, y4⟩, ⟨y5, y6⟩, yv⟩ : St)], by rw [HE1.out]; omega, by rw [HE1.out]; go_num, Lib.hid (by rw [HE1.out]; exact SN.out), HB3, by rw [HE1.out]; exact HO3⟩, by simp [intOf]; omega⟩
    · have HEQ := Lib.hid (show ml = p.l.map normalS by rw [HE.out, List.take_of_length_le (by omega)])
      have SO := Lib.hid (fun W (h : SlA W 9 (.slice oo ml.length oc) ml.length (ml.flatMap St.cells)) => syn_SortO _ ml W h (by omega))
      have HTr := Lib.hid (HT.out.later HB.out)
      have HLs := Lib.hid (Sl.of_own HO.out).a
      rw [HEQ.out, ← HNL.out, ← HEQ.out] at SO
      clear HO HB HT hk HNL HE HEQ
      go_upto_region 7 with fail
      clear hlt
      go_cut [6] (fun s6 wx => ∃ (b : Nat) (x0 x1 x2 : Option Addr) (e0 e1 e2 : Nat) (V : World), V = wx ∧ s6 = .pointer (some ⟨b, 0, none⟩) ∧ Hid (NrCut w #[.slice a0 p.l.length c0, .slice a1 p.g.length c1, .slice a2 p.h.length c2, .slice a3 zs.length c3] #[.slice none 0 0, .slice none 0 0, .slice none 0 0, .slice none 0 0] b (.slice x0 NL.length e0) (.slice x1 NG.length e1) (.slice x2 NH.length e2) NL NG NH V))
      case first =>
        have HT := HTr.out
        clear HTr HP HUS HZL HN
        go_wp2_with fail
        refine wp_region_held_drew (S := (fun W => (∀ o, W.cell? ⟨w.heap.size, o, none⟩ = (#[.slice a0 p.l.length c0, .slice a1 p.g.length c1, .slice a2 p.h.length c2, .slice a3 zs.length c3] : Array Value)[o]?))) (by kernel_rfl) (HT.drew.a.1) (fun hHeld => ?_)
        have HT := HT.drew
        have HLs := Lib.hid (HLs.out.below (below_drew (Below.refl _ _)))
        obtain ⟨wk0, hwk⟩ : ∃ W, W = wr.drew := ⟨_, rfl⟩
        rw [← hwk] at HT hHeld HLs ⊢
        clear hwk
        (refine hyes 0 ?_); (refine hyes 2 ?_); (refine hyes 3 ?_); (refine hyes 5 ?_); (refine hyes 6 ?_); (try simp only [Act.put, List.setIfInBounds_toArray, List.set])
        refine wpAnyH_ready (rs := [1, 9]) (by kernel_rfl) (by simp) (AllReadyH.cons rfl (fun K hK => ?_) (AllReadyH.cons rfl (fun K hK => ?_) AllReadyH.nil))
        · go_simp
          go_at_call 87; refine (SO.out _ HLs.out).mono ?_; rintro e wk1 ⟨z, rfl, ho, hbq⟩
          obtain ⟨x0, e0, rfl⟩ := own_form ho
          have HR0 := own_mono ho (show w.heap.size + 2 ≤ wk0.heap.size from HT.b.2.2)
          clear HLs
          have HT := HT.later hbq
          clear hbq ho
          (refine hK.out _ _ (HT.a.1) (fun hHeld => ?_); clear hK K; (try simp only [Act.put, List.setIfInBounds_toArray, List.set]))
          refine wpAnyH_ready (rs := [4, 9]) (by kernel_rfl) (by simp) (AllReadyH.cons rfl (fun K hK => ?_) (AllReadyH.cons rfl (fun K hK => ?_) AllReadyH.nil))
          · go_simp
            go_at_call 27; refine (SG.out _ HT.low).mono ?_; rintro e wk2 ⟨z, rfl, ho, hbq⟩
            obtain ⟨x1, e1, rfl⟩ := own_form ho
            have HR1 := own_mono ho (show w.heap.size + 2 ≤ wk1.heap.size from HT.b.2.2)
            have HR0 := own_below HR0 hbq
            have HT := HT.later hbq
            clear hbq ho
            (refine hK.out _ _ (HT.a.1) (fun hHeld => ?_); clear hK K; (try simp only [Act.put, List.setIfInBounds_toArray, List.set]))
            refine wpAnyH_ready (rs := [7, 9]) (by kernel_rfl) (by simp) (AllReadyH.cons rfl (fun K hK => ?_) (AllReadyH.cons rfl (fun K hK => ?_) AllReadyH.nil))
            · go_simp
              go_at_call 27; refine (SH.out _ HT.low).mono ?_; rintro e wk3 ⟨z, rfl, ho, hbq⟩
              obtain ⟨x2, e2, rfl⟩ := own_form ho
              have HR2 := own_mono ho (show w.heap.size + 2 ≤ wk2.heap.size from HT.b.2.2)
              have HR0 := own_below HR0 hbq
              have HR1 := own_below HR1 hbq
              have HT := HT.later hbq
              clear hbq ho
              (refine hK.out _ _ (HT.a.1) (fun hHeld => ?_); clear hK K; (try simp only [Act.put, List.setIfInBounds_toArray, List.set]))
              (refine hyes 8 ?_); (try simp only [Act.put, List.setIfInBounds_toArray, List.set])
              (refine held_call 9 rfl (by kernel_rfl) (fun K hK => ?_); go_simp)
              obtain ⟨b, hbb⟩ : ∃ b, b = wk3.heap.size := ⟨_, rfl⟩
              obtain ⟨wk4, hwn⟩ : ∃ V, V = wk3.alloc (.cells #[.slice none 0 0, .slice none 0 0, .slice none 0 0, .slice none 0 0] 26) := ⟨_, rfl⟩
              rw [← hwn, ← hbb]
              have hbq : Below wk3.heap.size wk3 wk4 := by rw [hwn]; exact (Below.refl _ _).alloc (Nat.le_refl _) _
              have HR0 := own_below HR0 hbq
              have HR1 := own_below HR1 hbq
              have HR2 := own_below HR2 hbq
              have HBk : Blk wk4 b #[.slice none 0 0, .slice none 0 0, .slice none 0 0, .slice none 0 0] := by rw [hwn, hbb]; exact Blk.new _ _ _
              have HBT : ∃ cs, wk4.heap[b]? = some (.cells cs 26 (0, 0)) := by rw [hwn, hbb]; exact ⟨_, heap_new1 _ _⟩
              have lb : w.heap.size + 1 < b := by rw [hbb]; exact HT.b.2.2
              have HT := HT.later hbq
              clear hbq hwn hbb
              (refine hK.out _ _ (HT.a.1) (fun hHeld => ?_); clear hK K; (try simp only [Act.put, List.setIfInBounds_toArray, List.set]))
              have NE0 := own_typeB HR0 HBT (by decide)
              have NE1 := own_typeB HR1 HBT (by decide)
              have NE2 := own_typeB HR2 HBT (by decide)
              have Hc := HBk
              obtain ⟨cs, fs, zs4⟩ := Hc
              (refine held_call 10 rfl (by kernel_rfl) (fun K hK => ?_); go_simp)
              clear cs fs zs4
              obtain ⟨wn, hwn⟩ : ∃ V, V = ((((wk4.setCell ⟨b, 0, none⟩ (.slice x0 NL.length e0)).setCell ⟨b, 1, none⟩ (.slice x1 NG.length e1)).setCell ⟨b, 2, none⟩ (.slice x2 NH.length e2)).setCell ⟨b, 3, none⟩ (.slice none 0 0)) := ⟨_, rfl⟩
              rw [← hwn]
              have KN : Kp (fun j => j = b) wk4 wn := by rw [hwn]; exact kp_set4 _ _ _ _ _ _
              have HBk : Blk wn b #[.slice x0 NL.length e0, .slice x1 NG.length e1, .slice x2 NH.length e2, .slice none 0 0] := by rw [hwn]; exact blk_set4 HBk _ _ _ _
              have HT := twoAt_kp HT KN lb
              have HR0 := KN.own HR0 NE0
              have HR1 := KN.own HR1 NE1
              have HR2 := KN.own HR2 NE2
              clear hwn KN HBT
              (refine hK.out _ _ (HT.a.1) (fun hHeld => ?_); clear hK K; (try simp only [Act.put, List.setIfInBounds_toArray, List.set]))
              refine wpAnyH_done (by kernel_rfl) ?_ _
              go_wp2_with fail
              go_meet
              exact ⟨b, x0, x1, x2, e0, e1, e2, wn, rfl, rfl, Lib.hid ⟨HT, lb, HBk, HR0, HR1, HR2, NE0, NE1, NE2⟩⟩
            · go_simp
              obtain ⟨b, hbb⟩ : ∃ b, b = wk2.heap.size := ⟨_, rfl⟩
              obtain ⟨wk3, hwn⟩ : ∃ V, V = wk2.alloc (.cells #[.slice none 0 0, .slice none 0 0, .slice none 0 0, .slice none 0 0] 26) := ⟨_, rfl⟩
              rw [← hwn, ← hbb]
              have hbq : Below wk2.heap.size wk2 wk3 := by rw [hwn]; exact (Below.refl _ _).alloc (Nat.le_refl _) _
              have HR0 := own_below HR0 hbq
              have HR1 := own_below HR1 hbq
              have HBk : Blk wk3 b #[.slice none 0 0, .slice none 0 0, .slice none 0 0, .slice none 0 0] := by rw [hwn, hbb]; exact Blk.new _ _ _
              have HBT : ∃ cs, wk3.heap[b]? = some (.cells cs 26 (0, 0)) := by rw [hwn, hbb]; exact ⟨_, heap_new1 _ _⟩
              have lb : w.heap.size + 1 < b := by rw [hbb]; exact HT.b.2.2
              have HT := HT.later hbq
              clear hbq hwn hbb
              (refine hK.out _ _ (HT.a.1) (fun hHeld => ?_); clear hK K; (try simp only [Act.put, List.setIfInBounds_toArray, List.set]))
              (refine held_call 7 rfl (by kernel_rfl) (fun K hK => ?_); go_simp)
              go_at_call 27; refine (SH.out _ HT.low).mono ?_; rintro e wk4 ⟨z, rfl, ho, hbq⟩
              obtain ⟨x2, e2, rfl⟩ := own_form ho
              have HR2 := own_mono ho (show w.heap.size + 2 ≤ wk3.heap.size from HT.b.2.2)
              have HR0 := own_below HR0 hbq
              have HR1 := own_below HR1 hbq
              have HBk := HBk.below hbq
              have HBT := type_below HBT hbq
              have HT := HT.later hbq
              clear hbq ho
              (refine hK.out _ _ (HT.a.1) (fun hHeld => ?_); clear hK K; (try simp only [Act.put, List.setIfInBounds_toArray, List.set]))
              (refine hyes 8 ?_); (try simp only [Act.put, List.setIfInBounds_toArray, List.set])
              have NE0 := own_typeB HR0 HBT (by decide)
              have NE1 := own_typeB HR1 HBT (by decide)
              have NE2 := own_typeB HR2 HBT (by decide)
              have Hc := HBk
              obtain ⟨cs, fs, zs4⟩ := Hc
              (refine held_call 10 rfl (by kernel_rfl) (fun K hK => ?_); go_simp)
              clear cs fs zs4
              obtain ⟨wn, hwn⟩ : ∃ V, V = ((((wk4.setCell ⟨b, 0, none⟩ (.slice x0 NL.length e0)).setCell ⟨b, 1, none⟩ (.slice x1 NG.length e1)).setCell ⟨b, 2, none⟩ (.slice x2 NH.length e2)).setCell ⟨b, 3, none⟩ (.slice none 0 0)) := ⟨_, rfl⟩
              rw [← hwn]
              have KN : Kp (fun j => j = b) wk4 wn := by rw [hwn]; exact kp_set4 _ _ _ _ _ _
              have HBk : Blk wn b #[.slice x0 NL.length e0, .slice x1 NG.length e1, .slice x2 NH.length e2, .slice none 0 0] := by rw [hwn]; exact blk_set4 HBk _ _ _ _
              have HT := twoAt_kp HT KN lb
              have HR0 := KN.own HR0 NE0
              have HR1 := KN.own HR1 NE1
              have HR2 := KN.own HR2 NE2
              clear hwn KN HBT
              (refine hK.out _ _ (HT.a.1) (fun hHeld => ?_); clear hK K; (try simp only [Act.put, List.setIfInBounds_toArray, List.set]))
              refine wpAnyH_done (by kernel_rfl) ?_ _
              go_wp2_with fail
              go_meet
              exact ⟨b, x0, x1, x2, e0, e1, e2, wn, rfl, rfl, Lib.hid ⟨HT, lb, HBk, HR0, HR1, HR2, NE0, NE1, NE2⟩⟩
          · go_simp
            obtain ⟨b, hbb⟩ : ∃ b, b = wk1.heap.size := ⟨_, rfl⟩
            obtain ⟨wk2, hwn⟩ : ∃ V, V = wk1.alloc (.cells #[.slice none 0 0, .slice none 0 0, .slice none 0 0, .slice none 0 0] 26) := ⟨_, rfl⟩
            rw [← hwn, ← hbb]
            have hbq : Below wk1.heap.size wk1 wk2 := by rw [hwn]; exact (Below.refl _ _).alloc (Nat.le_refl _) _
            have HR0 := own_below HR0 hbq
            have HBk : Blk wk2 b #[.slice none 0 0, .slice none 0 0, .slice none 0 0, .slice none 0 0] := by rw [hwn, hbb]; exact Blk.new _ _ _
            have HBT : ∃ cs, wk2.heap[b]? = some (.cells cs 26 (0, 0)) := by rw [hwn, hbb]; exact ⟨_, heap_new1 _ _⟩
            have lb : w.heap.size + 1 < b := by rw [hbb]; exact HT.b.2.2
            have HT := HT.later hbq
            clear hbq hwn hbb
            (refine hK.out _ _ (HT.a.1) (fun hHeld => ?_); clear hK K; (try simp only [Act.put, List.setIfInBounds_toArray, List.set]))
            (refine held_call 4 rfl (by kernel_rfl) (fun K hK => ?_); go_simp)
            go_at_call 27; refine (SG.out _ HT.low).mono ?_; rintro e wk3 ⟨z, rfl, ho, hbq⟩
            obtain ⟨x1, e1, rfl⟩ := own_form ho
            have HR1 := own_mono ho (show w.heap.size + 2 ≤ wk2.heap.size from HT.b.2.2)
            have HR0 := own_below HR0 hbq
            have HBk := HBk.below hbq
            have HBT := type_below HBT hbq
            have HT := HT.later hbq
            clear hbq ho
            (refine hK.out _ _ (HT.a.1) (fun hHeld => ?_); clear hK K; (try simp only [Act.put, List.setIfInBounds_toArray, List.set]))
            (refine held_call 7 rfl (by kernel_rfl) (fun K hK => ?_); go_simp)
            go_at_call 27; refine (SH.out _ HT.low).mono ?_; rintro e wk4 ⟨z, rfl, ho, hbq⟩
            obtain ⟨x2, e2, rfl⟩ := own_form ho
            have HR2 := own_mono ho (show w.heap.size + 2 ≤ wk3.heap.size from HT.b.2.2)
            have HR0 := own_below HR0 hbq
            have HR1 := own_below HR1 hbq
            have HBk := HBk.below hbq
            have HBT := type_below HBT hbq
            have HT := HT.later hbq
            clear hbq ho
            (refine hK.out _ _ (HT.a.1) (fun hHeld => ?_); clear hK K; (try simp only [Act.put, List.setIfInBounds_toArray, List.set]))
            (refine hyes 8 ?_); (try simp only [Act.put, List.setIfInBounds_toArray, List.set])
            have NE0 := own_typeB HR0 HBT (by decide)
            have NE1 := own_typeB HR1 HBT (by decide)
            have NE2 := own_typeB HR2 HBT (by decide)
            have Hc := HBk
            obtain ⟨cs, fs, zs4⟩ := Hc
            (refine held_call 10 rfl (by kernel_rfl) (fun K hK => ?_); go_simp)
            clear cs fs zs4
            obtain ⟨wn, hwn⟩ : ∃ V, V = ((((wk4.setCell ⟨b, 0, none⟩ (.slice x0 NL.length e0)).setCell ⟨b, 1, none⟩ (.slice x1 NG.length e1)).setCell ⟨b, 2, none⟩ (.slice x2 NH.length e2)).setCell ⟨b, 3, none⟩ (.slice none 0 0)) := ⟨_, rfl⟩
            rw [← hwn]
            have KN : Kp (fun j => j = b) wk4 wn := by rw [hwn]; exact kp_set4 _ _ _ _ _ _
            have HBk : Blk wn b #[.slice x0 NL.length e0, .slice x1 NG.length e1, .slice x2 NH.length e2, .slice none 0 0] := by rw [hwn]; exact blk_set4 HBk _ _ _ _
            have HT := twoAt_kp HT KN lb
            have HR0 := KN.own HR0 NE0
            have HR1 := KN.own HR1 NE1
            have HR2 := KN.own HR2 NE2
            clear hwn KN HBT
            (refine hK.out _ _ (HT.a.1) (fun hHeld => ?_); clear hK K; (try simp only [Act.put, List.setIfInBounds_toArray, List.set]))
            refine wpAnyH_done (by kernel_rfl) ?_ _
            go_wp2_with fail
            go_meet
            exact ⟨b, x0, x1, x2, e0, e1, e2, wn, rfl, rfl, Lib.hid ⟨HT, lb, HBk, HR0, HR1, HR2, NE0, NE1, NE2⟩⟩
        · go_simp
          obtain ⟨b, hbb⟩ : ∃ b, b = wk0.heap.size := ⟨_, rfl⟩
          obtain ⟨wk1, hwn⟩ : ∃ V, V = wk0.alloc (.cells #[.slice none 0 0, .slice none 0 0, .slice none 0 0, .slice none 0 0] 26) := ⟨_, rfl⟩
          rw [← hwn, ← hbb]
          have hbq : Below wk0.heap.size wk0 wk1 := by rw [hwn]; exact (Below.refl _ _).alloc (Nat.le_refl _) _
          have HLs := Lib.hid (HLs.out.below hbq)
          have HBk : Blk wk1 b #[.slice none 0 0, .slice none 0 0, .slice none 0 0, .slice none 0 0] := by rw [hwn, hbb]; exact Blk.new _ _ _
          have HBT : ∃ cs, wk1.heap[b]? = some (.cells cs 26 (0, 0)) := by rw [hwn, hbb]; exact ⟨_, heap_new1 _ _⟩
          have lb : w.heap.size + 1 < b := by rw [hbb]; exact HT.b.2.2
          have HT := HT.later hbq
          clear hbq hwn hbb
          (refine hK.out _ _ (HT.a.1) (fun hHeld => ?_); clear hK K; (try simp only [Act.put, List.setIfInBounds_toArray, List.set]))
          (refine held_call 1 rfl (by kernel_rfl) (fun K hK => ?_); go_simp)
          go_at_call 87; refine (SO.out _ HLs.out).mono ?_; rintro e wk2 ⟨z, rfl, ho, hbq⟩
          obtain ⟨x0, e0, rfl⟩ := own_form ho
          have HR0 := own_mono ho (show w.heap.size + 2 ≤ wk1.heap.size from HT.b.2.2)
          have HBk := HBk.below hbq
          have HBT := type_below HBT hbq
          clear HLs
          have HT := HT.later hbq
          clear hbq ho
          (refine hK.out _ _ (HT.a.1) (fun hHeld => ?_); clear hK K; (try simp only [Act.put, List.setIfInBounds_toArray, List.set]))
          (refine held_call 4 rfl (by kernel_rfl) (fun K hK => ?_); go_simp)
          go_at_call 27; refine (SG.out _ HT.low).mono ?_; rintro e wk3 ⟨z, rfl, ho, hbq⟩
          obtain ⟨x1, e1, rfl⟩ := own_form ho
          have HR1 := own_mono ho (show w.heap.size + 2 ≤ wk2.heap.size from HT.b.2.2)
          have HR0 := own_below HR0 hbq
          have HBk := HBk.below hbq
          have HBT := type_below HBT hbq
          have HT := HT.later hbq
          clear hbq ho
          (refine hK.out _ _ (HT.a.1) (fun hHeld => ?_); clear hK K; (try simp only [Act.put, List.setIfInBounds_toArray, List.set]))
          (refine held_call 7 rfl (by kernel_rfl) (fun K hK => ?_); go_simp)
          go_at_call 27; refine (SH.out _ HT.low).mono ?_; rintro e wk4 ⟨z, rfl, ho, hbq⟩
          obtain ⟨x2, e2, rfl⟩ := own_form ho
          have HR2 := own_mono ho (show w.heap.size + 2 ≤ wk3.heap.size from HT.b.2.2)
          have HR0 := own_below HR0 hbq
          have HR1 := own_below HR1 hbq
          have HBk := HBk.below hbq
          have HBT := type_below HBT hbq
          have HT := HT.later hbq
          clear hbq ho
          (refine hK.out _ _ (HT.a.1) (fun hHeld => ?_); clear hK K; (try simp only [Act.put, List.setIfInBounds_toArray, List.set]))
          (refine hyes 8 ?_); (try simp only [Act.put, List.setIfInBounds_toArray, List.set])
          have NE0 := own_typeB HR0 HBT (by decide)
          have NE1 := own_typeB HR1 HBT (by decide)
          have NE2 := own_typeB HR2 HBT (by decide)
          have Hc := HBk
          obtain ⟨cs, fs, zs4⟩ := Hc
          (refine held_call 10 rfl (by kernel_rfl) (fun K hK => ?_); go_simp)
          clear cs fs zs4
          obtain ⟨wn, hwn⟩ : ∃ V, V = ((((wk4.setCell ⟨b, 0, none⟩ (.slice x0 NL.length e0)).setCell ⟨b, 1, none⟩ (.slice x1 NG.length e1)).setCell ⟨b, 2, none⟩ (.slice x2 NH.length e2)).setCell ⟨b, 3, none⟩ (.slice none 0 0)) := ⟨_, rfl⟩
          rw [← hwn]
          have KN : Kp (fun j => j = b) wk4 wn := by rw [hwn]; exact kp_set4 _ _ _ _ _ _
          have HBk : Blk wn b #[.slice x0 NL.length e0, .slice x1 NG.length e1, .slice x2 NH.length e2, .slice none 0 0] := by rw [hwn]; exact blk_set4 HBk _ _ _ _
          have HT := twoAt_kp HT KN lb
          have HR0 := KN.own HR0 NE0
          have HR1 := KN.own HR1 NE1
          have HR2 := KN.own HR2 NE2
          clear hwn KN HBT
          (refine hK.out _ _ (HT.a.1) (fun hHeld => ?_); clear hK K; (try simp only [Act.put, List.setIfInBounds_toArray, List.set]))
          refine wpAnyH_done (by kernel_rfl) ?_ _
          go_wp2_with fail
          go_meet
          exact ⟨b, x0, x1, x2, e0, e1, e2, wn, rfl, rfl, Lib.hid ⟨HT, lb, HBk, HR0, HR1, HR2, NE0, NE1, NE2⟩⟩
      case rest =>
        obtain ⟨b, x0, x1, x2, e0, e1, e2, W6, rfl, rfl, HC⟩ := hcut
        clear HTr HLs SO SG SH
        obtain ⟨ca, fa, za⟩ := HC.out.t.a
        go_wp2_with fail
        clear ca fa za
        go_loopw [34] (fun i wr => ∃ (us : List (Qd × Value)) (x3 : Option Addr) (e3 : Nat), us.length ≤ zs.length ∧ i = .int .i64 us.length ∧ Hid (us.map (·.1) = p.q.take us.length) ∧ Hid (Kp (fun j => j = b) W6 wr) ∧ Hid (Blk wr b #[.slice x0 NL.length e0, .slice x1 NG.length e1, .slice x2 NH.length e2, .slice x3 us.length e3]) ∧ Hid (wr.ownsRow W6.heap.size 66 6 (.slice x3 us.length e3) us.length ((us.map qz).flatMap Qv.cells)) ∧ Hid (∀ z ∈ us, wr.ownsRow W6.heap.size 9 1 z.2 z.1.us.length (strs z.1.us))) (fun i _ => zs.length - (intOf i).toNat)
        case atStart => exact ⟨[], none, 0, by simp, rfl, Lib.hid rfl, Lib.hid (Kp.refl _ _), Lib.hid HC.out.blk, Lib.hid (World.ownsRow_nil _ _ _ _), Lib.hid (fun _ h => by cases h)⟩
        case round =>
          obtain ⟨us, x3, e3, hk, rfl, HE, HK, HBk, HO, HRW⟩ := hrel
          have HTr := Lib.hid (twoAt_kp HC.out.t HK.out HC.out.lb)
          have hlb := HC.out.lb
          have hb6 := HC.out.blk.2.2
          have hsz := HK.out.size
          by_cases hlt : us.length < zs.length
          · obtain ⟨b1, o1, cc1, he1, hc1, hm1, hb1, hx1⟩ := (HP.out.rq.below HTr.out.low).pos (by omega)
            simp only [Value.slice.injEq, true_and] at he1
            obtain ⟨rfl, rfl⟩ := he1
            obtain ⟨p0, p1, p2, p3, p4, p5⟩ := q_cell (w := wr) hx1 us.length (by rw [List.length_map]; exact hlt)
            rw [List.getElem_map] at p0 p1 p2 p3 p4 p5
            have hz0 : zs[us.length] ∈ zs := List.getElem_mem hlt
            have HS := Lib.hid (show p.q.take (us.length + 1) = us.map (·.1) ++ [zs[us.length].1] by
              have h : us.length < p.q.length := by have := HZL.out; omega
              rw [List.take_succ_eq_append_getElem h, HE.out]
              congr 1
              congr 1
              have e := HP.out.z
              rw [List.getElem_of_eq e.symm h, List.getElem_map])
            clear hx1
            generalize zs[us.length] = z at *
            obtain ⟨⟨qk, ⟨q1, q2⟩, ⟨q3, q4⟩, qus⟩, qw⟩ := z
            have HW := Lib.hid (HP.out.rw _ hz0)
            have hqm : (⟨qk, ⟨q1, q2⟩, ⟨q3, q4⟩, qus⟩ : Qd) ∈ p.q := by rw [← HP.out.z]; exact List.mem_map_of_mem hz0
            have hql := HUS.out _ hqm
            clear hz0 hqm
            dsimp only [qz] at p0 p1 p2 p3 p4 p5 HW hql
            obtain ⟨wo, wc, rfl⟩ := HW.out.form
            have hba : Below wr.heap.size wr (wr.alloc (.cells #[.int .i64 qk, .string q1, .string q2, .string q3, .string q4, .slice wo qus.length wc] 66)) := (Below.refl _ _).alloc (Nat.le_refl _) _
            have CL := Lib.hid (str_CloneO (.slice wo qus.length wc) qus _ (HW.out.below (HTr.out.low.trans (hba.mono HTr.out.low.size))) hql)
            have HQ0 := Lib.hid (Blk.new wr #[.int .i64 qk, .string q1, .string q2, .string q3, .string q4, .slice wo qus.length wc] 66)
            have HBA := Lib.hid hba
            have HSA := Lib.hid (show (wr.alloc (.cells #[.int .i64 qk, .string q1, .string q2, .string q3, .string q4, .slice wo qus.length wc] 66)).heap.size = wr.heap.size + 1 by simp)
            clear hba hql
            go_wp2_with fail
            refine CL.out.mono ?_
            rintro e w2 ⟨qv2, rfl, hown, hb2⟩
            obtain ⟨no, nc, rfl⟩ := own_form hown
            have HQ1 := Lib.hid (HQ0.out.below hb2)
            have HB2 := Lib.hid (HBA.out.trans (hb2.mono HBA.out.size))
            have HOW0 := Lib.hid hown
            have hz2 := HB2.out.size
            clear hb2 CL HQ0 hown p0 p1 p2 p3 p4 p5
            obtain ⟨cq, fq, zq⟩ := HQ1.out
            go_upto_region 12 with fail
            clear cq fq zq
            obtain ⟨w3, hw3⟩ : ∃ V, V = w2.setCell ⟨wr.heap.size, 5, none⟩ (.slice no qus.length nc) := ⟨_, rfl⟩
            have K3 := Lib.hid (show Kp (fun j => j = wr.heap.size) w2 w3 by rw [hw3]; exact Kp.set (X := fun j => j = wr.heap.size) rfl)
            have HQ2 := Lib.hid (show Blk w3 wr.heap.size #[.int .i64 qk, .string q1, .string q2, .string q3, .string q4, .slice no qus.length nc] by rw [hw3]; exact (HQ1.out.put (o := 5) (v := .slice no qus.length nc) (by simp)).congr rfl)
            rw [← hw3]
            clear hw3 HQ1
            have HOW := Lib.hid (own_mono (K3.out.own HOW0.out (fun g hg e => by have := (own_type HOW0.out hg).1; have := HSA.out; omega)) (show W6.heap.size ≤ _ by have := HSA.out; omega))
            have HB3 := Lib.hid (HB2.out.trans (show Below wr.heap.size w2 w3 from K3.out.below hz2 (fun j hj e => by omega)))
            clear HOW0 HB2 K3 HSA HBA
            have HBk3 := Lib.hid (HBk.out.below HB3.out)
            have HO3 := Lib.hid (own_below HO.out HB3.out)
            have HRW3 := Lib.hid (fun z hz => own_below (HRW.out z hz) HB3.out)
            have hz3 := HB3.out.size
            clear HBk HO HRW
            obtain ⟨cq, fq, zq⟩ := HQ2.out
            obtain ⟨cb, fb, zb⟩ := HBk3.out
            have hown := HO3.out
            go_wp2_with (at_builtin; refine halt_ ?_)
            unfold Halt_
            refine app_own Tryz.underlying24 qy_infoP rfl (by decide) (by decide) rfl _ _ rfl W6.heap.size rfl (hown.alloc _) [.int .i64 qk, .string q1, .string q2, .string q3, .string q4, .slice no qus.length nc] rfl (heap_new1 _ _) rfl (qv_one (qz (⟨qk, ⟨q1, q2⟩, ⟨q3, q4⟩, qus⟩, .slice no qus.length nc)) ⟨no, qus.length, nc, rfl⟩) ?_ ?_ ?_
            · omega
            · simp; omega
            intro a5 c5 w5 hown5 hgrow
            have hba := (Below.refl w3.heap.size w3).alloc (Nat.le_refl _) (.cells #[.int .i64 qk, .string q1, .string q2, .string q3, .string q4, .slice no qus.length nc] 66)
            have hneb : ¬ some b = (Value.slice x3 us.length e3).ownBlock := fun e => by have := (own_type hown e.symm).1; omega
            have KG := Lib.hid (Kp.of_grown (X := fun j => some j = (Value.slice x3 us.length e3).ownBlock) hgrow (fun _ h => h))
            have HBk5 := Lib.hid (KG.out.blk (HBk3.out.below hba) hneb)
            have HOW5 := Lib.hid (KG.out.own (own_below HOW.out hba) (fun g hg e => own_ne_type (own_below HOW.out hba) (hown.alloc _) (fun e => ne_tq e) g hg.symm e))
            have HRW5 := Lib.hid (fun z hz => KG.out.own (own_below (HRW3.out z hz) hba) (fun g hg e => own_ne_type (own_below (HRW3.out z hz) hba) (hown.alloc _) (fun e => ne_tq e) g hg.symm e))
            have KW := Lib.hid (show Kp (fun j => j = b) W6 w5 from HK.out.trans ((Kp.of_below (X := fun j => some j = (Value.slice x3 us.length e3).ownBlock) (HB3.out.trans (hba.mono hz3))).trans KG.out (fun _ _ e => e)) (fun j hj e => by have := (own_type hown e.symm).1; omega))
            have HO5 := Lib.hid hown5
            clear hgrow hown5 hown KG hba hneb HBk3 HOW HRW3 HO3 HQ2 cq fq zq cb fb zb HB3 hz3 hz2
            obtain ⟨cb, fb, zb⟩ := HBk5.out
            go_wp2_with fail
            refine ⟨⟨us ++ [(⟨qk, ⟨q1, q2⟩, ⟨q3, q4⟩, qus⟩, .slice no qus.length nc)], a5, c5, ?_⟩, by simp [intOf]; omega⟩
            have e1 : (us ++ [((⟨qk, ⟨q1, q2⟩, ⟨q3, q4⟩, qus⟩ : Qd), Value.slice no qus.length nc)]).length = us.length + 1 := by simp
            rw [e1]
            have KS : ∀ V : World, Kp (fun j => j = b) V (V.setCell ⟨b, 3, none⟩ (.slice a5 (us.length + 1) c5)) := fun V => Kp.set (X := fun j => j = b) rfl
            refine ⟨by omega, by go_num, Lib.hid ?_, Lib.hid (KW.out.trans (KS _) (fun _ _ e => e)), Lib.hid ((HBk5.out.put (o := 3) (v := .slice a5 (us.length + 1) c5) (by simp)).congr rfl), Lib.hid ?_, Lib.hid (fun z hz => ?_)⟩
            · rw [List.map_append, HS.out]; rfl
            · have e2 : ((us ++ [((⟨qk, ⟨q1, q2⟩, ⟨q3, q4⟩, qus⟩ : Qd), Value.slice no qus.length nc)]).map qz).flatMap Qv.cells = (us.map qz).flatMap Qv.cells ++ (qz (⟨qk, ⟨q1, q2⟩, ⟨q3, q4⟩, qus⟩, .slice no qus.length nc)).cells := by simp
              rw [e2]
              exact (KS _).own HO5.out (fun g hg e => by have := (own_type HO5.out hg).1; omega)
            · rcases List.mem_append.1 hz with hz | hz
              · exact (KS _).own (HRW5.out z hz) (fun g hg e => by have := (own_type (HRW5.out z hz) hg).1; omega)
              · obtain rfl := List.mem_singleton.1 hz
                exact (KS _).own HOW5.out (fun g hg e => by have := (own_type HOW5.out hg).1; omega)
          · have HQ := Lib.hid (show us.map (·.1) = p.q by rw [HE.out, List.take_of_length_le (by have := HZL.out; omega)])
            obtain ⟨cb, fb, zb⟩ := HBk.out
            obtain ⟨cc, fc, zc⟩ := HTr.out.b
            go_wp2
            clear cb fb zb cc fc zc
            generalize hW : ((((wr.setCell ⟨w.heap.size + 1, 0, none⟩ (.slice x0 NL.length e0)).setCell ⟨w.heap.size + 1, 1, none⟩ (.slice x1 NG.length e1)).setCell ⟨w.heap.size + 1, 2, none⟩ (.slice x2 NH.length e2)).setCell ⟨w.heap.size + 1, 3, none⟩ (.slice x3 us.length e3)) = W9
            have KN : Kp (fun j => j = w.heap.size + 1) wr W9 := by rw [← hW]; exact kp_set4 _ _ _ _ _ _
            have HW9 : Blk W9 (w.heap.size + 1) #[.slice x0 NL.length e0, .slice x1 NG.length e1, .slice x2 NH.length e2, .slice x3 us.length e3] := by rw [← hW]; exact blk_set4 HTr.out.b _ _ _ _
            have far : ∀ {e : TypeId} {size n : Nat} {v : Value} {xs : List Value}, wr.ownsRow (w.heap.size + 2) e size v n xs → W9.ownsRow (w.heap.size + 2) e size v n xs := fun ho => KN.own ho (fun g hg e => by have := (own_type ho hg).1; omega)
            have h62 : w.heap.size + 2 ≤ W6.heap.size := HC.out.t.b.2.2
            have HPO : PolD W9 (.slice x0 NL.length e0) (.slice x1 NG.length e1) (.slice x2 NH.length e2) (.slice x3 us.length e3) (normD p) us := by
              rw [HN.out]
              exact ⟨HQ.out, (Sl.of_own (far (HK.out.own HC.out.r0 HC.out.n0))).a, (Sl.of_own (far (HK.out.own HC.out.r1 HC.out.n1))).a, (Sl.of_own (far (HK.out.own HC.out.r2 HC.out.n2))).a, (Sl.of_own (far (own_mono HO.out h62))).a, fun z hz => (Sl.of_own (far (own_mono (HRW.out z hz) h62))).a⟩
            have HLOW : Below w.heap.size w W9 := HTr.out.low.trans (KN.below HTr.out.low.size (fun j hj e => by omega))
            clear hW KN far
            obtain ⟨cw, fw, zw⟩ := HW9
            refine bodyPost_ret (v := pv _ _ _ _) (by simp [results, Tryz.results36, go_sem, cw]) rfl ⟨⟨_, _, _, _, us, rfl, HPO⟩, HLOW⟩
end Go.Proofs.YtnhkgfgbhedphaaGreatDoor
namespace Go.Proofs.YtnhkgfgbhedphaaGreatDoor
open Go.RowKit Go.Shelf

set_option maxRecDepth 100000 in
set_option maxHeartbeats 8000000 in
theorem ref5_SortO (va : Value) (l : List Rl) (w : World) (ha : SlA w 2 va l.length (l.flatMap Rl.cells)) (hl : l.length ≤ 1000) :
    Calls Tryz.prog 18 #[va] w fun e w' => ∃ v, e = .returned v ∧ w'.ownsRow w.heap.size 54 2 v (insAllR [] l).length ((insAllR [] l).flatMap Rl.cells) ∧ Below w.heap.size w w' := by
  by_cases h0 : 0 < l.length
  · obtain ⟨b1, o1, c1, rfl, hc1, hm1, hb1, hx1⟩ := ha.pos h0
    have HX1 := Lib.hid hx1
    clear ha hx1
    go_enter Tryz.func18, Tryz.ntmps18
    go_wp2
    go_loopw [3, 10] (fun vo i wr => ∃ (k : Nat) (acc : List Rl), k ≤ l.length ∧ acc.length ≤ k ∧ i = .int .i64 k ∧ Below w.heap.size w wr ∧ wr.ownsRow w.heap.size 54 2 vo acc.length (acc.flatMap Rl.cells) ∧ Hid (insAllR [] l = insAllR acc (l.drop k))) (fun _ i _ => l.length - (intOf i).toNat)
    case atStart => exact ⟨0, [], by omega, by simp, rfl, Below.refl _ _, World.ownsRow_nil _ _ _ _, Lib.hid (by simp)⟩
    case round =>
      obtain ⟨k, acc, hk, hak, rfl, hbw, hso, HI⟩ := hrel
      have HBW := Lib.hid hbw
      have HSO := Lib.hid (Sl.of_own hso)
      have HSN := Lib.hid hso
      have hz := hbw.size
      by_cases hlt : k < l.length
      · obtain ⟨p0, p1⟩ := rl_cell (w := wr) (fun j u hu => (hbw.cell (p := ⟨b1, o1 + j, none⟩) hb1).trans (HX1.out j u hu)) k hlt
        have hbr : b1 < wr.heap.size := Nat.lt_of_lt_of_le hb1 hz
        have HST := Lib.hid (HI.out.trans (insAll_stepR acc l k hlt))
        have hx : l[k] = ⟨l[k].o, l[k].n⟩ := rfl
        generalize l[k].o = x1 at *
        generalize l[k].n = x2 at *
        rw [hx] at HST
        clear hx hbw hso HI
        obtain ⟨ao, co, rfl⟩ := HSO.out.form
        go_wp2_with fail
        have HX := Lib.hid (Blk.new wr #[.string x1, .string x2] 54)
        have HS2 := Lib.hid (HSO.out.below ((Below.refl wr.heap.size wr).alloc (Nat.le_refl _) (.cells #[.string x1, .string x2] 54)))
        refine (ref5_Has _ acc ⟨x1, x2⟩ _ HS2.out.a).mono ?_
        rintro e w2 ⟨rfl, hb2⟩
        have HX2 := Lib.hid (HX.out.below hb2)
        have HS3 := Lib.hid (HS2.out.below hb2)
        have HB2 := Lib.hid ((HBW.out.alloc HBW.out.size _).trans (hb2.mono (Nat.le_trans HBW.out.size (by simp))))
        have hz2 := HB2.out.size
        have HSN2 := Lib.hid (own_below (HSN.out.alloc _) hb2)
        clear HSN
        clear hb2 HX HS2 HSO p0 p1
        cases hh : hasR acc ⟨x1, x2⟩ with
        | true =>
          have HE := Lib.hid (HST.out.trans (by rw [insS_hasR hh]))
          clear hh
          go_wp2_with fail
          exact ⟨⟨k + 1, acc, by omega, by omega, by go_num, HB2.out, HSN2.out, HE⟩, by simp [intOf]; omega⟩
        | false =>
          have HE := Lib.hid (HST.out.trans (by rw [insS_notR hh]))
          clear hh HST
          obtain ⟨g, hg⟩ : ∃ g, wr.heap.size = g := ⟨_, rfl⟩
          rw [hg] at HX2 ⊢
          clear hg hbr HBW hz
          go_wp2_with fail
          go_loopw [6] (fun i wr => ∃ j : Nat, j ≤ acc.length ∧ i = .int .i64 j ∧ Below w2.heap.size w2 wr ∧ Hid (∀ m (hm : m < acc.length), m < j → cmpR acc[m] ⟨x1, x2⟩ < 0)) (fun i _ => acc.length - (intOf i).toNat)
          case atStart => exact ⟨0, by omega, rfl, Below.refl _ _, Lib.hid (fun _ _ h => absurd h (by omega))⟩
          case round =>
            obtain ⟨j, hj, rfl, hbj, HJ⟩ := hrel
            have HBJ := Lib.hid hbj
            by_cases hjl : j < acc.length
            · obtain ⟨b2, o2, c2, he2, hc2, hm2, hb2, hx2⟩ := HS3.out.pos (by omega)
              simp only [Value.slice.injEq, true_and] at he2
              obtain ⟨rfl, rfl⟩ := he2
              obtain ⟨q0, q1⟩ := rl_cell (w := wr) (fun m u hu => (hbj.cell (p := ⟨b2, o2 + m, none⟩) hb2).trans (hx2 m u hu)) j hjl
              have hbj2 : b2 < wr.heap.size := Nat.lt_of_lt_of_le hb2 hbj.size
              have HX3 := HX2.out.below hbj
              have cx := HX3.1
              have HBF := fun W => ref3_LessD acc[j] ⟨x1, x2⟩ W
              have d : decide ((j : Int) < (acc.length : Int)) = true := by (rw [decide_eq_true_iff]; omega)
              have HX4 : Blk wr.drew g #[.string x1, .string x2] := HX3
              have HQ4 : Two wr.drew b2 (o2 + j * 2) acc[j] := ⟨q0, q1⟩
              have HB4 : Below w2.heap.size w2 wr.drew := below_drew hbj
              clear hx2 hbj
              cases hlt' : decide (cmpR acc[j] ⟨x1, x2⟩ < 0) with
              | true =>
                have HN : Hid (∀ m (hm : m < acc.length), m < j + 1 → cmpR acc[m] ⟨x1, x2⟩ < 0) := Lib.hid (fun m hm hmj => by
                  by_cases hmj' : m < j
                  · exact HJ.out m hm hmj'
                  · obtain rfl : m = j := by omega
                    exact of_decide_eq_true hlt')
                rw [hlt'] at HBF
                clear hlt'
                go_wp2_with fail
                go_region_held3 (fun W => (∀ o, W.cell? ⟨g, o, none⟩ = (#[.string x1, .string x2] : Array Value)[o]?) ∧ Two W b2 (o2 + j * 2) acc[j])
                  (first | exact ⟨HX4.1, HQ4⟩ | go_keep)
                  ((go_at_call 51; refine (HBF _).mono ?_; rintro e wq ⟨rfl, hbq⟩; have HQ4 := HQ4.below hbj2 hbq; have HX4 := HX4.below hbq; have HB4 := HB4.trans (hbq.mono HB4.size)))
                go_wp2
                exact ⟨⟨j + 1, by omega, by go_num, HB4, HN⟩, by simp [intOf]; omega⟩
              | false =>
                have HLT := Lib.hid hlt'
                rw [hlt'] at HBF
                clear hlt'
                go_wp2_with fail
                go_region_held3 (fun W => (∀ o, W.cell? ⟨g, o, none⟩ = (#[.string x1, .string x2] : Array Value)[o]?) ∧ Two W b2 (o2 + j * 2) acc[j])
                  (first | exact ⟨HX4.1, HQ4⟩ | go_keep)
                  ((go_at_call 51; refine (HBF _).mono ?_; rintro e wq ⟨rfl, hbq⟩; have HQ4 := HQ4.below hbj2 hbq; have HX4 := HX4.below hbq; have HB4 := HB4.trans (hbq.mono HB4.size)))
                have hsb := (HS3.out.below HB4).pos (by omega)
                obtain ⟨b3, o3, c3, he3, hc3, hm3, hb3, hx3⟩ := hsb
                simp only [Value.slice.injEq, Option.some.injEq, Addr.mk.injEq, true_and, and_true] at he3
                obtain ⟨⟨rfl, rfl⟩, rfl⟩ := he3
                have HSB := Lib.hid hx3
                clear hx3
                go_wp2_with (at_builtin; refine halt_ ?_)
                unfold Halt_
                refine app_grow Tryz.underlying23 rl_info' rfl (by decide) (by decide) rfl _ _ rfl (ao := some ⟨wq.heap.size, 0, none⟩) (n := 0) (cap := 0) (olds := []) rfl (by simp) (by simp) (by simp) (b := b2) (off := o2 + j * 2) (m := acc.length - j) (c := co - j) (news := (acc.drop j).flatMap Rl.cells) rfl ?_ ?_ (rls_one _) (by omega) (by omega) ?_
                · rw [flat_len _ 2 Rl.cells_len, List.length_drop]
                · intro i u hu
                  rw [flat_dropR acc j hj] at hu
                  have := HSB.out _ _ hu
                  rw [← Nat.add_assoc] at this
                  exact (World.cell?_alloc_past _ _ _ hb3).trans this
                intro v5 w5 hown5 hb5
                have hwq : wq.heap.size < (wq.alloc (.cells #[] 54)).heap.size := by simp
                have HX5 : Blk w5 g #[.string x1, .string x2] := (HX4.alloc _).below hb5
                have hh5 : b2 < w5.heap.size := Nat.lt_of_lt_of_le hb3 (Nat.le_trans (Nat.le_of_lt hwq) hb5.size)
                have HS5 : ∀ i u, (acc.flatMap Rl.cells)[i]? = some u → w5.cell? ⟨b2, o2 + i, none⟩ = some u := fun i u hu => (hb5.cell (p := ⟨b2, o2 + i, none⟩) (Nat.lt_trans hb3 hwq)).trans ((World.cell?_alloc_past _ _ _ hb3).trans (HSB.out i u hu))
                have HB5 : Below w2.heap.size w2 w5 := (HB4.alloc HB4.size _).trans (hb5.mono (Nat.le_trans HB4.size (Nat.le_of_lt hwq)))
                simp only [Nat.zero_add, List.nil_append] at hown5
                obtain ⟨g5, c5, rfl, hg5a, hg5b⟩ := hown5.form (show 0 < acc.length - j by omega)
                have HO5 := Lib.hid hown5
                have HB5' := Lib.hid HB5
                obtain ⟨inf, hi, hz0, hz1, hz2⟩ := info_parts rl_info'
                have HINF := Lib.hid hi
                have HX6 : Blk w5.drew g #[.string x1, .string x2] := HX5
                have HSX := Lib.hid (fun i u (hu : (acc.flatMap Rl.cells)[i]? = some u) => show w5.drew.cell? ⟨b2, o2 + i, none⟩ = some u from HS5 i u hu)
                have HOD := Lib.hid (show w5.drew.ownsRow _ _ 2 _ _ _ from hown5)
                have c5x := HX5.1
                have hgb : g < (w5.drew.alloc (.cells #[.string x1, .string x2] 54)).heap.size := Nat.lt_of_lt_of_le HX6.2.2 (((Below.refl _ w5.drew).alloc (Nat.le_refl _) _).size)
                have hi1 : (0 : Int) ≤ (j : Int) := by omega
                have hi2 : (j : Int) ≤ (acc.length : Int) := by omega
                have hi3 : (j : Int) ≤ (co : Int) := by omega
                clear hown5 hb5 HS5 HB5 HX5 HX4 HB4 HQ4 hi HBF hwq hb3 hbq cx HX3 q0 q1 d
                go_wp2_with fail
                go_region_held3 (fun W => ∀ o, W.cell? ⟨g, o, none⟩ = (#[.string x1, .string x2] : Array Value)[o]?)
                  (first | exact HX6.1 | exact (HX6.alloc _).1 | exact HX7.1 | exact HX9.1 | go_keep)
                  (first
                    | (refine step_append_grows rfl _ _ 23 rfl 54 inf _ 2 32 Tryz.underlying23 HINF.out hz0 hz1 hz2 rfl (Nat.le_of_ble_eq_true rfl) (some ⟨b2, o2, none⟩) j j ((acc.take j).flatMap Rl.cells) rfl ?_ (take_len9R acc j hj) ?_ ⟨w5.heap.size, 0, none⟩ 1 1 (Rl.cells ⟨x1, x2⟩) rfl rfl ?_ (rl1 x1 x2) (Nat.lt_succ_self _) ?_ ?_ ?_; (intro h; cases h); (intro b hb i u hu; cases hb; rw [addr_add]; exact (World.cell?_alloc_past _ _ _ hh5).trans (HSX.out i u (flat_takeR acc j i u hu))); exact cells_new _ _ _ _ rfl; (simp only [maxLen]; omega); omega; intro v7 w7 hown7 hg7; have hb7 := below_of_none hg7; have HX7 := (HX6.alloc _).below hb7; have HO7 := own_below (own_below HOD.out ((Below.refl _ _).alloc (Nat.le_refl _) _)) hb7)
                    | (refine step_append_lies _ rfl _ _ 23 rfl _ 54 inf _ 2 32 Tryz.underlying23 HINF.out hz0 hz1 hz2 rfl (Nat.le_of_ble_eq_true rfl) v7 (j + 1) _ rfl hown7 ⟨g5, 0, none⟩ (acc.length - j) c5 ((acc.drop j).flatMap Rl.cells) rfl (drop_len9R acc j) (HO7.cells (g := g5) rfl) (rls_one _) ?_ ?_ ?_ hb7.size _ rfl ?_; omega; (simp only [maxLen]; omega); omega; intro g9 c9 w9 hown9 hg9 hor9 hlt9; have HX9 := HX7.grown hg9 (own_gt_ne hown7 hgb)))
                have HBw5 := HB2.out.trans (HB5'.out.mono HB2.out.size)
                have HBw6 := (below_drew HBw5).alloc (B := w.heap.size) HBw5.size (.cells #[.string x1, .string x2] 54)
                have HBw7 := HBw6.trans (hb7.mono HBw6.size)
                have HB9 := Lib.hid (below_own HBw7 hown7 hg9 HBw7.size HBw6.size)
                have HSL9 := Lib.hid (Sl.of_own hown9)
                have HON9 := Lib.hid (own_mono hown9 HBw6.size)
                have HPS := Lib.hid (pos_ofR acc ⟨x1, x2⟩ j hj HJ.out (fun _ => of_decide_eq_false HLT.out))
                clear hown9 hg9 hown7 hg7 hb7 HX9 HX7 HO7 HBw5 HBw6 HBw7
                go_wp2
                exact ⟨⟨k + 1, insAtR acc ⟨x1, x2⟩ j, by omega, by rw [insAt_lenR hj]; omega, by go_num, HB9.out, by rw [insAt_lenR hj, ← sl_appR hj]; exact HON9.out, Lib.hid (by rw [HE.out, HPS.out])⟩, by simp [intOf]; omega⟩
            · obtain rfl : j = acc.length := by omega
              have HPS := Lib.hid (pos_ofR acc ⟨x1, x2⟩ acc.length (Nat.le_refl _) HJ.out (fun h => absurd h hjl))
              obtain ⟨inf, hi, hz0, hz1, hz2'⟩ := info_parts rl_info'
              have HINF := Lib.hid hi
              have HX3 := HX2.out.below hbj
              have cx := HX3.1
              have d : decide ((acc.length : Int) < (acc.length : Int)) = false := by (rw [decide_eq_false_iff_not]; omega)
              clear hi hjl hj
              rcases HS3.out.2.2 with ⟨hv, hn0⟩ | ⟨b2, o2, c2, hv, hc2, hm2, hb2, hx2⟩
              · skip
                have hacc : acc = [] := List.eq_nil_of_length_eq_zero hn0
                simp only [Value.slice.injEq, true_and] at hv
                obtain ⟨rfl, -, rfl⟩ := hv
                simp only [hn0]
                clear d
                clear hbj
                go_wp2_with fail
                go_big_quiet (fail)
                go_wp2_with (at_builtin; refine halt_ ?_)
                unfold Halt_
                refine app_zero _ rfl _ _ 23 rfl 54 inf Tryz.underlying23 HINF.out (some ⟨wr.heap.size, 0, none⟩) 0 0 (Nat.le_refl _) rfl _ _ rfl ?_
                obtain ⟨w5, hw5⟩ : ∃ w5, w5 = (wr.drewN nq).alloc (.cells #[] 54) := ⟨_, rfl⟩
                have hb5 : Below wr.heap.size wr w5 := by rw [hw5]; exact (below_drewN (Below.refl _ _) _).alloc (Nat.le_refl _) _
                have hh0 : wr.heap.size ≤ w5.heap.size := hb5.size
                rw [← hw5]
                have HX5 : Blk w5 g #[.string x1, .string x2] := HX3.below hb5
                have HB5' := Lib.hid (HBJ.out.trans (hb5.mono HBJ.out.size))
                have HX6 : Blk w5.drew g #[.string x1, .string x2] := HX5
                have c5x := HX5.1
                have hgb : g < (w5.drew.alloc (.cells #[.string x1, .string x2] 54)).heap.size := Nat.lt_of_lt_of_le HX6.2.2 (((Below.refl _ w5.drew).alloc (Nat.le_refl _) _).size)
                clear hw5 hb5 HX5 HX3 cx
                go_wp2_with fail
                go_region_held3 (fun W => ∀ o, W.cell? ⟨g, o, none⟩ = (#[.string x1, .string x2] : Array Value)[o]?)
                  (first | exact HX6.1 | exact (HX6.alloc _).1 | exact HX7.1 | go_keep)
                  (first
                    | (refine step_append_grows rfl _ _ 23 rfl 54 inf _ 2 32 Tryz.underlying23 HINF.out hz0 hz1 hz2' rfl (Nat.le_of_ble_eq_true rfl) none 0 0 [] rfl ?_ rfl ?_ ⟨w5.heap.size, 0, none⟩ 1 1 (Rl.cells ⟨x1, x2⟩) rfl rfl ?_ (rl1 x1 x2) (Nat.lt_succ_self _) ?_ ?_ ?_; (intro _; exact ⟨rfl, rfl⟩); (intro b hb; cases hb); exact cells_new _ _ _ _ rfl; (simp only [maxLen]; omega); omega; intro v7 w7 hown7 hg7; obtain ⟨a7, c7, rfl, hc7⟩ := own_form2 hown7; have hb7 := below_of_none hg7; have HX7 := (HX6.alloc _).below hb7)
                    | (refine step_zero _ rfl _ _ 23 rfl 54 inf Tryz.underlying23 HINF.out _ _ c7 hc7 rfl _ _ rfl ?_))
                have HBw5 := HB2.out.trans (HB5'.out.mono HB2.out.size)
                have HBw6 := (below_drew HBw5).alloc (B := w.heap.size) HBw5.size (.cells #[.string x1, .string x2] 54)
                have HB9 := Lib.hid (HBw6.trans (hb7.mono HBw6.size))
                have HSL9 := Lib.hid (Sl.of_own hown7)
                have HON9 := Lib.hid (own_mono hown7 HBw6.size)
                clear hg7 hb7 hown7 HX7 HBw5 HBw6
                go_wp2
                exact ⟨⟨k + 1, insAtR acc ⟨x1, x2⟩ acc.length, by omega, by rw [insAt_endR]; omega, by go_num, HB9.out, by rw [insAt_endR, ← app_endR, hacc]; exact HON9.out, Lib.hid (by rw [HE.out, HPS.out])⟩, by simp [intOf]; omega⟩
              · simp only [Value.slice.injEq, true_and] at hv
                obtain ⟨rfl, rfl⟩ := hv
                by_cases hco : co = acc.length
                · skip
                  subst hco
                  clear hbj
                  go_wp2_with fail
                  go_big_quiet (fail)
                  go_wp2_with (at_builtin; refine halt_ ?_)
                  unfold Halt_
                  refine app_zero _ rfl _ _ 23 rfl 54 inf Tryz.underlying23 HINF.out (some ⟨wr.heap.size, 0, none⟩) 0 0 (Nat.le_refl _) rfl _ _ rfl ?_
                  obtain ⟨w5, hw5⟩ : ∃ w5, w5 = (wr.drewN nq).alloc (.cells #[] 54) := ⟨_, rfl⟩
                  have hb5 : Below wr.heap.size wr w5 := by rw [hw5]; exact (below_drewN (Below.refl _ _) _).alloc (Nat.le_refl _) _
                  have hh0 : wr.heap.size ≤ w5.heap.size := hb5.size
                  rw [← hw5]
                  have HX5 : Blk w5 g #[.string x1, .string x2] := HX3.below hb5
                  have HB5' := Lib.hid (HBJ.out.trans (hb5.mono HBJ.out.size))
                  have hh5 : b2 < w5.heap.size := Nat.lt_of_lt_of_le hb2 HB5'.out.size
                  have HSX := Lib.hid (fun i u (hu : (acc.flatMap Rl.cells)[i]? = some u) => show w5.drew.cell? ⟨b2, o2 + i, none⟩ = some u from (HB5'.out.cell (p := ⟨b2, o2 + i, none⟩) hb2).trans (hx2 i u hu))
                  have hi1 : (0 : Int) ≤ (acc.length : Int) := by omega
                  have hi3 : (acc.length : Int) ≤ (acc.length : Int) := by omega
                  have HX6 : Blk w5.drew g #[.string x1, .string x2] := HX5
                  have c5x := HX5.1
                  have hgb : g < (w5.drew.alloc (.cells #[.string x1, .string x2] 54)).heap.size := Nat.lt_of_lt_of_le HX6.2.2 (((Below.refl _ w5.drew).alloc (Nat.le_refl _) _).size)
                  clear hw5 hb5 HX5 HX3 cx hx2
                  go_wp2_with fail
                  go_region_held3 (fun W => ∀ o, W.cell? ⟨g, o, none⟩ = (#[.string x1, .string x2] : Array Value)[o]?)
                    (first | exact HX6.1 | exact (HX6.alloc _).1 | exact HX7.1 | go_keep)
                    (first
                      | (refine step_append_grows rfl _ _ 23 rfl 54 inf _ 2 32 Tryz.underlying23 HINF.out hz0 hz1 hz2' rfl (Nat.le_of_ble_eq_true rfl) (some ⟨b2, o2, none⟩) acc.length acc.length (acc.flatMap Rl.cells) rfl ?_ (flat_len _ 2 Rl.cells_len acc) ?_ ⟨w5.heap.size, 0, none⟩ 1 1 (Rl.cells ⟨x1, x2⟩) rfl rfl ?_ (rl1 x1 x2) (Nat.lt_succ_self _) ?_ ?_ ?_; (intro h; cases h); (intro b hb i u hu; cases hb; rw [addr_add]; exact (World.cell?_alloc_past _ _ _ hh5).trans (HSX.out i u hu)); exact cells_new _ _ _ _ rfl; (simp only [maxLen]; omega); omega; intro v7 w7 hown7 hg7; obtain ⟨a7, c7, rfl, hc7⟩ := own_form2 hown7; have hb7 := below_of_none hg7; have HX7 := (HX6.alloc _).below hb7)
                      | (refine step_zero _ rfl _ _ 23 rfl 54 inf Tryz.underlying23 HINF.out _ _ c7 hc7 rfl _ _ rfl ?_))
                  have HBw5 := HB2.out.trans (HB5'.out.mono HB2.out.size)
                  have HBw6 := (below_drew HBw5).alloc (B := w.heap.size) HBw5.size (.cells #[.string x1, .string x2] 54)
                  have HB9 := Lib.hid (HBw6.trans (hb7.mono HBw6.size))
                  have HSL9 := Lib.hid (Sl.of_own hown7)
                  have HON9 := Lib.hid (own_mono hown7 HBw6.size)
                  clear hg7 hb7 hown7 HX7 HBw5 HBw6
                  go_wp2
                  exact ⟨⟨k + 1, insAtR acc ⟨x1, x2⟩ acc.length, by omega, by rw [insAt_endR]; omega, by go_num, HB9.out, by rw [insAt_endR, ← app_endR]; exact HON9.out, Lib.hid (by rw [HE.out, HPS.out])⟩, by simp [intOf]; omega⟩
                · skip
                  have hco2 : acc.length < co := by omega
                  clear hbj
                  go_wp2_with fail
                  go_big_quiet (fail)
                  go_wp2_with (at_builtin; refine halt_ ?_)
                  unfold Halt_
                  refine app_zero _ rfl _ _ 23 rfl 54 inf Tryz.underlying23 HINF.out (some ⟨wr.heap.size, 0, none⟩) 0 0 (Nat.le_refl _) rfl _ _ rfl ?_
                  obtain ⟨w5, hw5⟩ : ∃ w5, w5 = (wr.drewN nq).alloc (.cells #[] 54) := ⟨_, rfl⟩
                  have hb5 : Below wr.heap.size wr w5 := by rw [hw5]; exact (below_drewN (Below.refl _ _) _).alloc (Nat.le_refl _) _
                  have hh0 : wr.heap.size ≤ w5.heap.size := hb5.size
                  rw [← hw5]
                  have HX5 : Blk w5 g #[.string x1, .string x2] := HX3.below hb5
                  have HB5' := Lib.hid (HBJ.out.trans (hb5.mono HBJ.out.size))
                  have hh5 : b2 < w5.heap.size := Nat.lt_of_lt_of_le hb2 HB5'.out.size
                  have HSX := Lib.hid (fun i u (hu : (acc.flatMap Rl.cells)[i]? = some u) => show w5.drew.cell? ⟨b2, o2 + i, none⟩ = some u from (HB5'.out.cell (p := ⟨b2, o2 + i, none⟩) hb2).trans (hx2 i u hu))
                  have hi1 : (0 : Int) ≤ (acc.length : Int) := by omega
                  have hi3 : (acc.length : Int) ≤ (co : Int) := by omega
                  have HX6 : Blk w5.drew g #[.string x1, .string x2] := HX5
                  have c5x := HX5.1
                  have hgb : g < (w5.drew.alloc (.cells #[.string x1, .string x2] 54)).heap.size := Nat.lt_of_lt_of_le HX6.2.2 (((Below.refl _ w5.drew).alloc (Nat.le_refl _) _).size)
                  clear hw5 hb5 HX5 HX3 cx hx2
                  go_wp2_with fail
                  go_region_held3 (fun W => ∀ o, W.cell? ⟨g, o, none⟩ = (#[.string x1, .string x2] : Array Value)[o]?)
                    (first | exact HX6.1 | exact (HX6.alloc _).1 | exact HX7.1 | go_keep)
                    (first
                      | (refine step_append_grows rfl _ _ 23 rfl 54 inf _ 2 32 Tryz.underlying23 HINF.out hz0 hz1 hz2' rfl (Nat.le_of_ble_eq_true rfl) (some ⟨b2, o2, none⟩) acc.length acc.length (acc.flatMap Rl.cells) rfl ?_ (flat_len _ 2 Rl.cells_len acc) ?_ ⟨w5.heap.size, 0, none⟩ 1 1 (Rl.cells ⟨x1, x2⟩) rfl rfl ?_ (rl1 x1 x2) (Nat.lt_succ_self _) ?_ ?_ ?_; (intro h; cases h); (intro b hb i u hu; cases hb; rw [addr_add]; exact (World.cell?_alloc_past _ _ _ hh5).trans (HSX.out i u hu)); exact cells_new _ _ _ _ rfl; (simp only [maxLen]; omega); omega; intro v7 w7 hown7 hg7; obtain ⟨a7, c7, rfl, hc7⟩ := own_form2 hown7; have hb7 := below_of_none hg7; have HX7 := (HX6.alloc _).below hb7)
                      | (refine step_zero _ rfl _ _ 23 rfl 54 inf Tryz.underlying23 HINF.out _ _ c7 hc7 rfl _ _ rfl ?_))
                  have HBw5 := HB2.out.trans (HB5'.out.mono HB2.out.size)
                  have HBw6 := (below_drew HBw5).alloc (B := w.heap.size) HBw5.size (.cells #[.string x1, .string x2] 54)
                  have HB9 := Lib.hid (HBw6.trans (hb7.mono HBw6.size))
                  have HSL9 := Lib.hid (Sl.of_own hown7)
                  have HON9 := Lib.hid (own_mono hown7 HBw6.size)
                  clear hg7 hb7 hown7 HX7 HBw5 HBw6
                  go_wp2
                  exact ⟨⟨k + 1, insAtR acc ⟨x1, x2⟩ acc.length, by omega, by rw [insAt_endR]; omega, by go_num, HB9.out, by rw [insAt_endR, ← app_endR]; exact HON9.out, Lib.hid (by rw [HE.out, HPS.out])⟩, by simp [intOf]; omega⟩
      · have R := Lib.hid (HI.out.trans (insAll_endR acc l k hlt))
        have HSN := Lib.hid hso
        obtain ⟨ao, co, rfl⟩ := (Sl.of_own hso).form
        clear hbw hso
        go_wp2
        go_ret
        exact ⟨_, rfl, by rw [R.out]; exact HSN.out, HBW.out⟩
  · obtain ⟨a1, c1, rfl⟩ := ha.form
    obtain rfl : l = [] := List.eq_nil_of_length_eq_zero (by omega)
    clear ha h0 hl
    go_enter Tryz.func18, Tryz.ntmps18
    go_wp2
    go_loopw [3, 10] (fun vo i wr => vo = .slice none 0 0 ∧ i = .int .i64 0 ∧ wr = w) (fun _ _ _ => 0)
    case atStart => exact ⟨rfl, rfl, rfl⟩
    case round =>
      obtain ⟨rfl, rfl, rfl⟩ := hrel
      go_wp2
      go_ret
      exact ⟨_, rfl, World.ownsRow_nil _ _ _ _, Below.refl _ _⟩

end Go.Proofs.YtnhkgfgbhedphaaGreatDoor
namespace Go.Proofs.YtnhkgfgbhedphaaGreatDoor
open Go.RowKit Go.Shelf

set_option maxRecDepth 100000 in
set_option maxHeartbeats 8000000 in
theorem ref5_Normal (v0 v1 v2 v3 : Value) (p : Pd) (zs : List (Qd × Value)) (w : World) (hp : PolD w v0 v1 v2 v3 p zs) (hl : p.l.length ≤ 1000) (hg : p.g.length ≤ 1000) (hh : p.h.length ≤ 1000) :
    Calls Tryz.prog 37 #[pv v0 v1 v2 v3] w fun e w' => (∃ u0 u1 u2 u3 us, e = .returned (pv u0 u1 u2 u3) ∧ PolD w' u0 u1 u2 u3 (normD p) us) ∧ Below w.heap.size w w' := by
  have HP := Lib.hid hp
  have hzl : zs.length = p.q.length := by rw [← hp.z, List.length_map]
  have HZL := Lib.hid hzl
  obtain ⟨a0, c0, rfl⟩ := hp.rs.form
  obtain ⟨a1, c1, rfl⟩ := hp.rg.form
  obtain ⟨a2, c2, rfl⟩ := hp.rh.form
  obtain ⟨a3, c3, rfl⟩ := hp.rq.form
  have SG := Lib.hid (fun W (hb : Below w.heap.size w W) => ref5_SortO (.slice a1 p.g.length c1) p.g W (hp.rg.below hb) hg)
  have SH := Lib.hid (fun W (hb : Below w.heap.size w W) => ref5_SortO (.slice a2 p.h.length c2) p.h W (hp.rh.below hb) hh)
  obtain ⟨NL, hNL⟩ : ∃ x, x = insAll [] (p.l.map normalS) := ⟨_, rfl⟩
  obtain ⟨NG, hNG⟩ : ∃ x, x = insAllR [] p.g := ⟨_, rfl⟩
  obtain ⟨NH, hNH⟩ : ∃ x, x = insAllR [] p.h := ⟨_, rfl⟩
  have HN := Lib.hid (show normD p = ⟨NL, NG, NH, p.q⟩ by rw [hNL, hNG, hNH]; rfl)
  have HNL := Lib.hid hNL
  rw [← hNG] at SG
  rw [← hNH] at SH
  clear hNL hNG hNH hp hzl hg hh
  have HT := Lib.hid (TwoAt.new w #[.slice a0 p.l.length c0, .slice a1 p.g.length c1, .slice a2 p.h.length c2, .slice a3 zs.length c3] #[.slice none 0 0, .slice none 0 0, .slice none 0 0, .slice none 0 0] 26 26)
  go_enter Tryz.func37, Tryz.ntmps37
  obtain ⟨w1, hw1⟩ : ∃ W, W = (w.alloc (.cells #[.slice a0 p.l.length c0, .slice a1 p.g.length c1, .slice a2 p.h.length c2, .slice a3 zs.length c3] 26)).alloc (.cells #[.slice none 0 0, .slice none 0 0, .slice none 0 0, .slice none 0 0] 26) := ⟨_, rfl⟩
  rw [← hw1] at HT
  go_wp2_with fail
  rw [← hw1]
  clear hw1
  go_loopw [3, 9] (fun vo i wr => ∃ ml : List St, ml.length ≤ p.l.length ∧ i = .int .i64 ml.length ∧ Hid (ml = (p.l.take ml.length).map normalS) ∧ Hid (Below w1.heap.size w1 wr) ∧ Hid (wr.ownsRow w1.heap.size 63 9 vo ml.length (ml.flatMap St.cells))) (fun _ i _ => p.l.length - (intOf i).toNat)
  case atStart => exact ⟨[], by simp, rfl, Lib.hid rfl, Lib.hid (Below.refl _ _), Lib.hid (World.ownsRow_nil _ _ _ _)⟩
  case round =>
    obtain ⟨ml, hk, rfl, HE, HB, HO⟩ := hrel
    obtain ⟨oo, oc, rfl⟩ := own_form HO.out
    by_cases hlt : ml.length < p.l.length
    · obtain ⟨b1, o1, cc1, he1, hc1, hm1, hb1, hx1⟩ := (HP.out.rs.below (HT.out.later HB.out).low).pos (by omega)
      simp only [Value.slice.injEq, true_and] at he1
      obtain ⟨rfl, rfl⟩ := he1
      obtain ⟨p0, p1, p2, p3, p4, p5, p6, p7, p8⟩ := st_cell (w := wr) hx1 ml.length hlt
      have SN := Lib.hid (show ml ++ [normalS p.l[ml.length]] = (p.l.take (ml.length + 1)).map normalS by rw [take_map_snoc hlt, ← HE.out])
      have PC := Lib.hid (fun W => ref3_Normal p.l[ml.length] W)
      have hlk : ml.length ≤ 1000 := by omega
      have hek : p.l[ml.length] = ⟨p.l[ml.length].k, ⟨p.l[ml.length].h.o, p.l[ml.length].h.n⟩, p.l[ml.length].who, ⟨p.l[ml.length].a.o, p.l[ml.length].a.n⟩, ⟨p.l[ml.length].b.o, p.l[ml.length].b.n⟩, p.l[ml.length].via⟩ := rfl
      generalize p.l[ml.length] = x at *
      obtain ⟨xk, ⟨x1, x2⟩, xw, ⟨x3, x4⟩, ⟨x5, x6⟩, xv⟩ := x
      generalize normalS ⟨xk, ⟨x1, x2⟩, xw, ⟨x3, x4⟩, ⟨x5, x6⟩, xv⟩ = y at SN PC
      obtain ⟨yk, ⟨y1, y2⟩, yw, ⟨y3, y4⟩, ⟨y5, y6⟩, yv⟩ := y
      clear hek hx1
      have HB1 := Lib.hid (HB.out.alloc HB.out.size (.cells #[.int .i64 xk, .string x1, .string x2, .string xw, .string x3, .string x4, .string x5, .string x6, .string xv] 63))
      go_wp2_with fail
      refine (PC.out _).mono ?_
      rintro e w2 ⟨rfl, hb2⟩
      have HB2 := Lib.hid (HB1.out.trans (hb2.mono HB1.out.size))
      have HO2 := Lib.hid (own_below (own_below HO.out ((Below.refl _ _).alloc (Nat.le_refl _) _)) hb2)
      have hz2 := HB2.out.size
      clear hb2
      have hown := HO2.out
      go_wp2_with (at_builtin; refine halt_ ?_)
      unfold Halt_
      refine app_own Tryz.underlying22 st_info rfl (by decide) (by decide) rfl _ _ rfl w1.heap.size rfl (hown.alloc _) [.int .i64 yk, .string y1, .string y2, .string yw, .string y3, .string y4, .string y5, .string y6, .string yv] rfl (heap_new1 _ _) rfl (st_one ⟨yk, ⟨y1, y2⟩, yw, ⟨y3, y4⟩, ⟨y5, y6⟩, yv⟩) ?_ ?_ ?_
      · omega
      · simp; omega
      intro a' cap' w3 hown' hgrow
      have e1 : (ml ++ [(⟨yk, ⟨y1, y2⟩, yw, ⟨y3, y4⟩, ⟨y5, y6⟩, yv⟩ : St)]).length = ml.length + 1 := by simp
      have HO3 := Lib.hid (show w3.ownsRow w1.heap.size 63 9 _ (ml ++ [(⟨yk, ⟨y1, y2⟩, yw, ⟨y3, y4⟩, ⟨y5, y6⟩, yv⟩ : St)]).length ((ml ++ [(⟨yk, ⟨y1, y2⟩, yw, ⟨y3, y4⟩, ⟨y5, y6⟩, yv⟩ : St)]).flatMap St.cells) by rw [flat_snoc, e1]; exact hown')
      have HB3 := Lib.hid (below_own (HB2.out.alloc HB2.out.size (.cells #[.int .i64 yk, .string y1, .string y2, .string yw, .string y3, .string y4, .string y5, .string y6, .string yv] 63)) (hown.alloc _) hgrow (by simp; omega) (Nat.le_refl _))
      have HE1 := Lib.hid e1
      clear hown' hgrow hown e1
      go_wp2_with fail
      rw [HE1.out] at HO3
      exact ⟨⟨ml ++ [(⟨yk, ⟨y1, y2⟩, yw, ⟨y3, y4⟩, ⟨y5, y6⟩, yv⟩ : St)], by rw [HE1.out]; omega, by rw [HE1.out]; go_num, Lib.hid (by rw [HE1.out]; exact SN.out), HB3, by rw [HE1.out]; exact HO3⟩, by simp [intOf]; omega⟩
    · have HEQ := Lib.hid (show ml = p.l.map normalS by rw [HE.out, List.take_of_length_le (by omega)])
      have SO := Lib.hid (fun W (h : SlA W 9 (.slice oo ml.length oc) ml.length (ml.flatMap St.cells)) => ref3_Sort _ ml W h (by omega))
      have HTr := Lib.hid (HT.out.later HB.out)
      have HLs := Lib.hid (Sl.of_own HO.out).a
      rw [HEQ.out, ← HNL.out, ← HEQ.out] at SO
      clear HO HB HT hk HNL HE HEQ
      go_upto_region 7 with fail
      clear hlt
      have HT := HTr.out
      clear HTr
      refine wp_region_held_drew (S := (fun W => (∀ o, W.cell? ⟨w.heap.size, o, none⟩ = (#[.slice a0 p.l.length c0, .slice a1 p.g.length c1, .slice a2 p.h.length c2, .slice a3 zs.length c3] : Array Value)[o]?))) (by kernel_rfl) (HT.drew.a.1) (fun hHeld => ?_)
      have HT := HT.drew
      have HLs := Lib.hid (HLs.out.below (below_drew (Below.refl _ _)))
      obtain ⟨wk0, hwk⟩ : ∃ W, W = wr.drew := ⟨_, rfl⟩
      rw [← hwk] at HT hHeld HLs ⊢
      clear hwk
      (refine hyes 0 ?_); (refine hyes 2 ?_); (refine hyes 3 ?_); (refine hyes 5 ?_); (refine hyes 6 ?_); (refine hyes 8 ?_); (refine hyes 9 ?_); (try simp only [Act.put, List.setIfInBounds_toArray, List.set])
      (refine held_call 1 rfl (by kernel_rfl) (fun K hK => ?_); go_simp)
      go_at_call 16; refine (SO.out _ HLs.out).mono ?_; rintro e wk1 ⟨z, rfl, ho, hbq⟩
      obtain ⟨x0, e0, rfl⟩ := ho.form
      have HR0 := Lib.hid ho
      clear HLs SO ho
      have HT := HT.later hbq
      clear hbq
      (refine hK.out _ _ (HT.a.1) (fun hHeld => ?_); clear hK K; (try simp only [Act.put, List.setIfInBounds_toArray, List.set]))
      (refine held_call 4 rfl (by kernel_rfl) (fun K hK => ?_); go_simp)
      go_at_call 18; refine (SG.out _ HT.low).mono ?_; rintro e wk2 ⟨z, rfl, ho, hbq⟩
      obtain ⟨x1, e1, rfl⟩ := own_form ho
      have HR1 := Lib.hid (Sl.of_own ho)
      have HR0 := Lib.hid (HR0.out.below hbq)
      have HT := HT.later hbq
      clear hbq ho SG
      (refine hK.out _ _ (HT.a.1) (fun hHeld => ?_); clear hK K; (try simp only [Act.put, List.setIfInBounds_toArray, List.set]))
      (refine held_call 7 rfl (by kernel_rfl) (fun K hK => ?_); go_simp)
      go_at_call 18; refine (SH.out _ HT.low).mono ?_; rintro e wk3 ⟨z, rfl, ho, hbq⟩
      obtain ⟨x2, e2, rfl⟩ := own_form ho
      have HR2 := Lib.hid (Sl.of_own ho)
      have HR0 := Lib.hid (HR0.out.below hbq)
      have HR1 := Lib.hid (HR1.out.below hbq)
      have HT := HT.later hbq
      clear hbq ho SH
      (refine hK.out _ _ (HT.a.1) (fun hHeld => ?_); clear hK K; (try simp only [Act.put, List.setIfInBounds_toArray, List.set]))
      (refine hyes 10 ?_); (try simp only [Act.put, List.setIfInBounds_toArray, List.set])
      have HBS : BlkS wk3 (w.heap.size + 1) 4 := ⟨_, HT.b, rfl, by simp [isSl]⟩
      have Hc := HT.b
      obtain ⟨cs, fs, zs4⟩ := Hc
      (refine held_call 11 rfl (by kernel_rfl) (fun K hK => ?_); go_simp)
      clear cs fs zs4
      obtain ⟨W9, hW⟩ : ∃ V, V = ((((wk3.setCell ⟨w.heap.size + 1, 0, none⟩ (.slice x0 NL.length e0)).setCell ⟨w.heap.size + 1, 1, none⟩ (.slice x1 NG.length e1)).setCell ⟨w.heap.size + 1, 2, none⟩ (.slice x2 NH.length e2)).setCell ⟨w.heap.size + 1, 3, none⟩ (.slice a3 zs.length c3)) := ⟨_, rfl⟩
      rw [← hW]
      have KN : Kp (fun j => j = w.heap.size + 1) wk3 W9 := by rw [hW]; exact kp_set4 _ _ _ _ _ _
      have HW9 : Blk W9 (w.heap.size + 1) #[.slice x0 NL.length e0, .slice x1 NG.length e1, .slice x2 NH.length e2, .slice a3 zs.length c3] := by rw [hW]; exact blk_set4 HT.b _ _ _ _
      have HR0 := Lib.hid (show SlA W9 9 _ _ _ from by rw [hW]; exact (HR0.out.puts (st_noSl _) [.slice x0 NL.length e0, .slice x1 NG.length e1, .slice x2 NH.length e2, .slice a3 zs.length c3] 0 _ HBS (by simp) (by simp [isSl])).a)
      have HR1 := Lib.hid (show SlA W9 2 _ _ _ from by rw [hW]; exact (HR1.out.puts (rl_noSl _) [.slice x0 NL.length e0, .slice x1 NG.length e1, .slice x2 NH.length e2, .slice a3 zs.length c3] 0 _ HBS (by simp) (by simp [isSl])).a)
      have HR2 := Lib.hid (show SlA W9 2 _ _ _ from by rw [hW]; exact (HR2.out.puts (rl_noSl _) [.slice x0 NL.length e0, .slice x1 NG.length e1, .slice x2 NH.length e2, .slice a3 zs.length c3] 0 _ HBS (by simp) (by simp [isSl])).a)
      have HLOW : Below w.heap.size w W9 := HT.low.trans (KN.below HT.low.size (fun j hj e => by omega))
      have HAt : ∀ o, W9.cell? ⟨w.heap.size, o, none⟩ = (#[.slice a0 p.l.length c0, .slice a1 p.g.length c1, .slice a2 p.h.length c2, .slice a3 zs.length c3] : Array Value)[o]? := (KN.blk HT.a (by omega)).1
      clear hW KN HBS HT
      (refine hK.out _ _ (HAt) (fun hHeld => ?_); clear hK K; (try simp only [Act.put, List.setIfInBounds_toArray, List.set]))
      clear HAt
      refine wpAnyH_done (by kernel_rfl) ?_ _
      have HPO : PolD W9 (.slice x0 NL.length e0) (.slice x1 NG.length e1) (.slice x2 NH.length e2) (.slice a3 zs.length c3) (normD p) zs := by
        have hp := HP.out.below HLOW
        rw [HN.out]
        exact ⟨hp.z, HR0.out, HR1.out, HR2.out, hp.rq, hp.rw⟩
      obtain ⟨cw, fw, zw⟩ := HW9
      go_wp2
      refine bodyPost_ret (v := pv _ _ _ _) (by simp [results, Tryz.results37, go_sem, cw]) rfl ⟨⟨_, _, _, _, zs, rfl, HPO⟩, HLOW⟩
end Go.Proofs.YtnhkgfgbhedphaaGreatDoor
