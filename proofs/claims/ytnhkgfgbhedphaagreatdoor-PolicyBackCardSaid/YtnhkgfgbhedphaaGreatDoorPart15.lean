/- crupperref01.Same at any two rows; crupperref04.Same, query.Same at any two queries (printed by gen_qsame.py). Whether two rows of queries, two policies are the same: to the letter. slices.EqualFunc at queries; policy.Same, crupperref05.Same (printed by gen_polsame.py). The statement PolicyBack: the walk of the law (printed by gen_law05b.py). Roles and statements among a law's arguments: opened to data, and read again in a later world. Rows of statements among a law's arguments: opened. Policies among a law's arguments: opened. -/
import Derived.Test.YtnhkgfgbhedphaaGreatDoorPart8
import Derived.Test.YtnhkgfgbhedphaaGreatDoorPart14
import Derived.Test.YtnhkgfgbhedphaaGreatDoorPart11
import Derived.Test.YtnhkgfgbhedphaaGreatDoorPart10
import Derived.Test.YtnhkgfgbhedphaaGreatDoorPart5
import Derived.Test.YtnhkgfgbhedphaaGreatDoorPart13
import Derived.ProofKit
import Derived.OpenShut
import Derived.ChangeMaps5
import Derived.Deep.Strs
import Derived.Test.YtnhkgfgbhedphaaGreatDoorPart3
import Derived.Deep.Slices
namespace Go.Proofs.YtnhkgfgbhedphaaGreatDoor
open Go.RowKit Go.Shelf

set_option maxRecDepth 100000 in
set_option maxHeartbeats 2000000 in
theorem ref1_SameQ (va vb : Value) (l m : List ByteArray) (w : World) (ha : SlA w 1 va l.length (strs l)) (hb : SlA w 1 vb m.length (strs m)) :
    Calls Tryz.prog 13 #[va, vb] w fun e w' => e = .returned (.bool (decide (l = m))) ∧ ∃ n, w' = w.drewN n := by
  have hmax := ha.max
  have hmax2 := hb.max
  by_cases hl : l.length = m.length
  case neg =>
    have R := Lib.hid (same_lenT hl)
    have d : ((l.length : Int) != (m.length : Int)) = true := by rw [bne_iff_ne]; omega
    obtain ⟨a1, c1, rfl⟩ := ha.form
    obtain ⟨a2, c2, rfl⟩ := hb.form
    clear ha hb hl
    go_enter Tryz.func13, Tryz.ntmps13
    go_wp2
    go_ret
    exact ⟨ret_b R.out.symm, 0, rfl⟩
  have hne : ((l.length : Int) != (m.length : Int)) = false := by rw [hl]; simp
  by_cases h0 : 0 < l.length
  · obtain ⟨b1, o1, c1, rfl, hc1, hm1, _, hx1⟩ := ha.pos h0
    obtain ⟨b2, o2, c2, rfl, hc2, hm2, _, hx2⟩ := hb.pos (by omega)
    have HX1 := Lib.hid hx1
    have HX2 := Lib.hid hx2
    have HL := Lib.hid hl
    clear ha hb hx1 hx2 hl
    go_enter Tryz.func13, Tryz.ntmps13
    go_wp2
    go_loopw [13] (fun i wr => ∃ k n : Nat, k ≤ l.length ∧ i = .int .i64 k ∧ wr = w.drewN n ∧ Hid (l.take k = m.take k)) (fun i _ => l.length - (intOf i).toNat)
    case atStart => exact ⟨0, 0, by omega, rfl, rfl, Lib.hid (by simp)⟩
    case round =>
      obtain ⟨k, n, hk, rfl, rfl, HT⟩ := hrel
      by_cases hlt : k < l.length
      · have hlt2 : k < m.length := by have := HL.out; omega
        have p0 := HX1.out k _ (strs_get hlt)
        have q0 := HX2.out k _ (strs_get hlt2)
        by_cases he : l[k] = m[k]
        · have HN := Lib.hid (take_moreT HT.out hlt hlt2 he)
          have d1 : (!(l[k].toList == m[k].toList)) = false := by rw [beq_str, decide_eq_true he]; rfl
          clear he
          generalize l[k] = x at *
          generalize m[k] = y at *
          go_wp2_with fail
          go_big_quiet (fail)
          go_wp2
          exact ⟨⟨k + 1, n + nq, by omega, by go_num, rfl, HN⟩, by simp [intOf]; omega⟩
        · have R := Lib.hid (same_noT hlt hlt2 he)
          have d1 : (!(l[k].toList == m[k].toList)) = true := by rw [beq_str, decide_eq_false he]; rfl
          clear he
          generalize l[k] = x at *
          generalize m[k] = y at *
          go_wp2_with fail
          go_big_quiet (fail)
          go_wp2
          go_ret
          exact ⟨ret_b R.out.symm, n + nq, by simp [World.drewN, Nat.add_assoc]⟩
      · have R := Lib.hid (same_endT HT.out hlt (by have := HL.out; omega))
        go_wp2
        go_ret
        exact ⟨ret_b R.out.symm, n, rfl⟩
  · have R := Lib.hid (same_endT (l := l) (m := m) (k := 0) (by simp) h0 (by omega))
    obtain ⟨a1, c1, rfl⟩ := ha.form
    obtain ⟨a2, c2, rfl⟩ := hb.form
    have d0 : l.length = 0 := by omega
    have d02 : m.length = 0 := by omega
    clear ha hb h0 hmax hl hmax2
    go_enter Tryz.func13, Tryz.ntmps13
    go_wp2
    go_loopw [13] (fun i wr => i = .int .i64 0 ∧ wr = w) (fun _ _ => 0)
    case atStart => exact ⟨rfl, rfl⟩
    case round =>
      obtain ⟨rfl, rfl⟩ := hrel
      go_wp2
      go_ret
      exact ⟨ret_b R.out.symm, 0, rfl⟩
theorem ref1_SameQB (va vb : Value) (l m : List ByteArray) (w : World) (ha : SlA w 1 va l.length (strs l)) (hb : SlA w 1 vb m.length (strs m)) :
    Calls Tryz.prog 13 #[va, vb] w fun e w' => e = .returned (.bool (decide (l = m))) ∧ Below w.heap.size w w' :=
  (ref1_SameQ va vb l m w ha hb).mono fun e w' ⟨he, n, hn⟩ => ⟨he, by rw [hn]; exact below_of_drewN n⟩
theorem str_EqualQB (va vb : Value) (l m : List ByteArray) (w : World) (ha : SlA w 1 va l.length (strs l)) (hb : SlA w 1 vb m.length (strs m)) :
    Calls Tryz.prog 132 #[va, vb] w fun e w' => e = .returned (.bool (decide (l = m))) ∧ Below w.heap.size w w' :=
  (str_Equal va vb l m w ha hb).mono fun e w' ⟨he, n, hn⟩ => ⟨he, by rw [hn]; exact below_of_drewN n⟩
def sameQ (x y : Qd) : Bool := if x.k = y.k then if x.a = y.a then if x.b = y.b then decide (x.us = y.us) else false else false else false
theorem sameQ_iff {x y : Qd} : sameQ x y = true ↔ x = y := by
  obtain ⟨k, a, b, us⟩ := x
  obtain ⟨k', a', b', us'⟩ := y
  unfold sameQ
  simp only [Qd.mk.injEq]
  constructor
  · intro h
    split at h
    · split at h
      · split at h
        · exact ⟨by assumption, by assumption, by assumption, of_decide_eq_true h⟩
        · exact absurd h (by decide)
      · exact absurd h (by decide)
    · exact absurd h (by decide)
  · rintro ⟨rfl, rfl, rfl, rfl⟩
    simp
set_option maxRecDepth 100000 in
set_option maxHeartbeats 2000000 in
theorem query_SameQ (x y : Qd) (va vb : Value) (w : World) (ha : SlA w 1 va x.us.length (strs x.us)) (hb : SlA w 1 vb y.us.length (strs y.us)) :
    Calls Tryz.prog 84 #[qdv x va, qdv y vb] w fun e w' => e = .returned (.bool (sameQ x y)) ∧ Below w.heap.size w w' := by
  have E := Lib.hid (show sameQ x y = (if x.k = y.k then if x.a = y.a then if x.b = y.b then decide (x.us = y.us) else false else false else false) from rfl)
  have hEq := role_eql
  have SS := Lib.hid (fun W (h : Below w.heap.size w W) => str_EqualQB va vb x.us y.us W (ha.below h) (hb.below h))
  generalize sameQ x y = r at *
  obtain ⟨k, ⟨x1, x2⟩, ⟨x3, x4⟩, us⟩ := x
  obtain ⟨k', ⟨y1, y2⟩, ⟨y3, y4⟩, us'⟩ := y
  dsimp only at E SS ha hb
  obtain ⟨wo, wc, rfl⟩ := ha.form
  obtain ⟨uo, uc, rfl⟩ := hb.form
  have HT := Lib.hid (TwoAt.new w #[.int .i64 k, .string x1, .string x2, .string x3, .string x4, .slice wo us.length wc] #[.int .i64 k', .string y1, .string y2, .string y3, .string y4, .slice uo us'.length uc] 66 66)
  have SS := Lib.hid (SS.out _ HT.out.low)
  clear ha hb
  by_cases h1 : k = k'
  case neg =>
    have R := Lib.hid (show r = false by rw [E.out, if_neg h1])
    have d1 : (k == k') = false := by simpa using h1
    clear h1 E
    go_enter Tryz.func84, Tryz.ntmps84
    go_wp2
    go_ret
    exact ⟨ret_b R.out.symm, HT.out.low⟩
  rw [if_pos h1] at E
  subst h1
  by_cases h2 : (⟨x1, x2⟩ : Rl) = ⟨y1, y2⟩
  case neg =>
    have R := Lib.hid (show r = false by rw [E.out, if_neg h2])
    have d1 : eqRl ⟨x1, x2⟩ ⟨y1, y2⟩ = false := decide_eq_false h2
    clear h2 E
    go_enter Tryz.func84, Tryz.ntmps84
    go_wp2
    go_ret
    exact ⟨ret_b R.out.symm, HT.out.low⟩
  rw [if_pos h2] at E
  have d1 : eqRl ⟨x1, x2⟩ ⟨y1, y2⟩ = true := decide_eq_true h2
  clear h2
  by_cases h3 : (⟨x3, x4⟩ : Rl) = ⟨y3, y4⟩
  case neg =>
    have R := Lib.hid (show r = false by rw [E.out, if_neg h3])
    have d2 : eqRl ⟨x3, x4⟩ ⟨y3, y4⟩ = false := decide_eq_false h3
    clear h3 E
    go_enter Tryz.func84, Tryz.ntmps84
    go_wp2
    go_ret
    exact ⟨ret_b R.out.symm, HT.out.low⟩
  rw [if_pos h3] at E
  have d2 : eqRl ⟨x3, x4⟩ ⟨y3, y4⟩ = true := decide_eq_true h3
  clear h3
  generalize decide (us = us') = d at *
  have R := Lib.hid E.out
  clear E
  go_enter Tryz.func84, Tryz.ntmps84
  go_wp2_with fail
  refine SS.out.mono ?_
  rintro e w1 ⟨rfl, hb⟩
  have HT := Lib.hid (HT.out.later hb)
  clear hb SS
  go_wp2
  go_ret
  exact ⟨ret_b R.out.symm, HT.out.low⟩
end Go.Proofs.YtnhkgfgbhedphaaGreatDoor
namespace Go.Proofs.YtnhkgfgbhedphaaGreatDoor
open Go.RowKit Go.Shelf

instance : DecidableEq Qd := fun x y => decidable_of_iff (sameQ x y = true) sameQ_iff
theorem take_same {α : Type} {l m : List α} {k : Nat} (h : l.take k = m.take k) (h1 : k < l.length) (h2 : k < m.length) (he : l[k] = m[k]) : l.take (k + 1) = m.take (k + 1) := by
  rw [List.take_succ_eq_append_getElem h1, List.take_succ_eq_append_getElem h2, h, he]
end Go.Proofs.YtnhkgfgbhedphaaGreatDoor
namespace Go.Proofs.YtnhkgfgbhedphaaGreatDoor
open Go.RowKit Go.Shelf

def sameD (p q : Pd) : Bool := decide (p.l = q.l) && (decide (p.g = q.g) && (decide (p.h = q.h) && decide (p.q = q.q)))
theorem sameD_iff {p q : Pd} : sameD p q = true ↔ p = q := by
  obtain ⟨a, b, c, d⟩ := p
  obtain ⟨a', b', c', d'⟩ := q
  simp [sameD]
theorem st_EqualB (va vb : Value) (l m : List St) (w : World) (ha : SlA w 9 va l.length (l.flatMap St.cells)) (hb : SlA w 9 vb m.length (m.flatMap St.cells)) :
    Calls Tryz.prog 81 #[va, vb] w fun e w' => e = .returned (.bool (decide (l = m))) ∧ Below w.heap.size w w' :=
  (st_Equal va vb l m w ha hb).mono fun e w' ⟨he, n, hn⟩ => ⟨he, by rw [hn]; exact below_of_drewN n⟩
set_option maxRecDepth 100000 in
set_option maxHeartbeats 4000000 in
theorem q_EqualFunc (va vb : Value) (xs ys : List (Qd × Value)) (w : World) (ha : SlA w 6 va xs.length ((xs.map qz).flatMap Qv.cells)) (hb : SlA w 6 vb ys.length ((ys.map qz).flatMap Qv.cells)) (hx : ∀ z ∈ xs, SlA w 1 z.2 z.1.us.length (strs z.1.us)) (hy : ∀ z ∈ ys, SlA w 1 z.2 z.1.us.length (strs z.1.us)) :
    Calls Tryz.prog 83 #[va, vb, .func (.func 84) #[] #[]] w fun e w' => e = .returned (.bool (decide (xs.map (·.1) = ys.map (·.1)))) ∧ Below w.heap.size w w' := by
  have hm1 := ha.max
  have hm2 := hb.max
  have HA := Lib.hid ha
  have HB := Lib.hid hb
  have HX := Lib.hid hx
  have HY := Lib.hid hy
  obtain ⟨ao, ac, rfl⟩ := ha.form
  obtain ⟨bo, bc, rfl⟩ := hb.form
  have R1 := Lib.hid (fun (h : xs.map (·.1) = ys.map (·.1)) => decide_eq_true h)
  have R0 := Lib.hid (fun (h : ¬ xs.map (·.1) = ys.map (·.1)) => decide_eq_false h)
  generalize decide (xs.map (·.1) = ys.map (·.1)) = res at *
  clear ha hb hx hy
  by_cases hl : xs.length = ys.length
  · have hne : ((xs.length : Int) != (ys.length : Int)) = false := by rw [hl]; simp
    have HL := Lib.hid hl
    clear hl
    go_enter Tryz.func83, Tryz.ntmps83
    go_wp2_with fail
    go_loopw [17] (fun i wr => ∃ k : Nat, k ≤ xs.length ∧ i = .int .i64 k ∧ Hid ((xs.map (·.1)).take k = (ys.map (·.1)).take k) ∧ Hid (Below w.heap.size w wr)) (fun i _ => xs.length - (intOf i).toNat)
    case atStart => exact ⟨0, by omega, rfl, Lib.hid rfl, Lib.hid (Below.refl _ _)⟩
    case round =>
      obtain ⟨k, hk, rfl, HK, HW⟩ := hrel
      by_cases hlt : k < xs.length
      · have hlt2 : k < ys.length := by rw [← HL.out]; exact hlt
        have hlm : k < (xs.map qz).length := by simpa using hlt
        have hlm2 : k < (ys.map qz).length := by simpa using hlt2
        obtain ⟨b1, o1, c1, he1, hc1, hm1', hb1, hx1⟩ := (HA.out.below HW.out).pos (by omega)
        simp only [Value.slice.injEq, true_and] at he1
        obtain ⟨rfl, rfl⟩ := he1
        obtain ⟨b2, o2, c2, he2, hc2, hm2', hb2, hx2⟩ := (HB.out.below HW.out).pos (by omega)
        simp only [Value.slice.injEq, true_and] at he2
        obtain ⟨rfl, rfl⟩ := he2
        obtain ⟨p0, p1, p2, p3, p4, p5⟩ := q_cell (w := wr) (l := xs.map qz) hx1 k hlm
        obtain ⟨q0, q1, q2, q3, q4, q5⟩ := q_cell (w := wr) (l := ys.map qz) hx2 k hlm2
        have e1 : (xs.map qz)[k] = qz xs[k] := by simp
        have e2 : (ys.map qz)[k] = qz ys[k] := by simp
        rw [e1] at p0 p1 p2 p3 p4 p5
        rw [e2] at q0 q1 q2 q3 q4 q5
        have hu1 := (HX.out _ (List.getElem_mem hlt)).below HW.out
        have hu2 := (HY.out _ (List.getElem_mem hlt2)).below HW.out
        have SQ := Lib.hid (fun W (hb : Below wr.heap.size wr W) => query_SameQ xs[k].1 ys[k].1 xs[k].2 ys[k].2 W (hu1.below hb) (hu2.below hb))
        have HN := Lib.hid (fun (h : sameQ xs[k].1 ys[k].1 = true) => take_same HK.out (by simpa using hlt) (by simpa using hlt2) (by simpa using sameQ_iff.1 h))
        have HF := Lib.hid (fun (h : sameQ xs[k].1 ys[k].1 = false) => show res = false by
          refine R0.out (fun e => ?_)
          have h1 : (xs.map (·.1))[k]'(by simpa using hlt) = (ys.map (·.1))[k]'(by simpa using hlt2) := by simp only [e]
          simp only [List.getElem_map] at h1
          rw [sameQ_iff.2 h1] at h
          cases h)
        generalize sameQ xs[k].1 ys[k].1 = sb at *
        generalize xs[k] = X at *
        generalize ys[k] = Y at *
        obtain ⟨⟨xk, ⟨x1, x2⟩, ⟨x3, x4⟩, xs5⟩, xv⟩ := X
        obtain ⟨⟨yk, ⟨y1, y2⟩, ⟨y3, y4⟩, ys5⟩, yv⟩ := Y
        dsimp only [qz] at hu1 hu2 p0 p1 p2 p3 p4 p5 q0 q1 q2 q3 q4 q5 SQ
        obtain ⟨xo, xc, rfl⟩ := hu1.form
        obtain ⟨yo, yc, rfl⟩ := hu2.form
        have hr1 : b1 < wr.heap.size := hb1
        have hr2 : b2 < wr.heap.size := hb2
        clear hx1 hx2 hu1 hu2 e1 e2 hlm hlm2
        go_wp2_with fail
        have hba : Below wr.heap.size wr ((wr.alloc (.cells #[.int .i64 xk, .string x1, .string x2, .string x3, .string x4, .slice xo xs5.length xc] 66)).alloc (.cells #[.int .i64 yk, .string y1, .string y2, .string y3, .string y4, .slice yo ys5.length yc] 66)) := ((Below.refl _ _).alloc (Nat.le_refl _) _).alloc (by simp) _
        refine (SQ.out _ hba).mono ?_
        rintro e w2 ⟨rfl, hb2'⟩
        have hb3 := hba.trans (hb2'.mono hba.size)
        have HW2 := Lib.hid (HW.out.trans (hb3.mono HW.out.size))
        clear hb2' hb3 hba
        cases sb with
        | true =>
          have HN2 := Lib.hid (HN.out rfl)
          go_wp2
          exact ⟨⟨k + 1, by omega, by go_num, HN2, HW2⟩, by simp [intOf]; omega⟩
        | false =>
          have R := Lib.hid (HF.out rfl)
          go_wp2
          go_ret
          exact ⟨ret_b R.out.symm, HW2.out⟩
      · have R := Lib.hid (show res = true by
          have h := HK.out
          rw [List.take_of_length_le (by simp; omega), List.take_of_length_le (by have := HL.out; simp; omega)] at h
          exact R1.out h)
        go_wp2
        go_ret
        exact ⟨ret_b R.out.symm, HW.out⟩
  · have hne : ((xs.length : Int) != (ys.length : Int)) = true := by simp; omega
    have R := Lib.hid (show res = false by
      refine R0.out (fun e => hl ?_)
      have h := congrArg List.length e
      simpa using h)
    clear hl
    go_enter Tryz.func83, Tryz.ntmps83
    go_wp2
    go_ret
    exact ⟨ret_b R.out.symm, Below.refl _ _⟩
set_option maxRecDepth 100000 in
set_option maxHeartbeats 4000000 in
theorem policy_Same (v0 v1 v2 v3 u0 u1 u2 u3 : Value) (p q : Pd) (zs us : List (Qd × Value)) (w : World) (hp : PolD w v0 v1 v2 v3 p zs) (hq : PolD w u0 u1 u2 u3 q us) :
    Calls Tryz.prog 32 #[pv v0 v1 v2 v3, pv u0 u1 u2 u3] w fun e w' => e = .returned (.bool (sameD p q)) ∧ Below w.heap.size w w' := by
  have C0 := Lib.hid (fun W (hb : Below w.heap.size w W) => st_EqualB v0 u0 p.l q.l W (hp.rs.below hb) (hq.rs.below hb))
  have C1 := Lib.hid (fun W (hb : Below w.heap.size w W) => rl_EqualB v1 u1 p.g q.g W (hp.rg.below hb) (hq.rg.below hb))
  have C2 := Lib.hid (fun W (hb : Below w.heap.size w W) => rl_EqualB v2 u2 p.h q.h W (hp.rh.below hb) (hq.rh.below hb))
  have C3 := Lib.hid (fun W (hb : Below w.heap.size w W) => q_EqualFunc v3 u3 zs us W (hp.rq.below hb) (hq.rq.below hb) (fun z hz => (hp.rw z hz).below hb) (fun z hz => (hq.rw z hz).below hb))
  rw [hp.z, hq.z] at C3
  have RES := Lib.hid (show sameD p q = (decide (p.l = q.l) && (decide (p.g = q.g) && (decide (p.h = q.h) && decide (p.q = q.q)))) from rfl)
  generalize sameD p q = res at *
  generalize decide (p.l = q.l) = e0 at *
  generalize decide (p.g = q.g) = e1 at *
  generalize decide (p.h = q.h) = e2 at *
  generalize decide (p.q = q.q) = e3 at *
  obtain ⟨a0, c0, rfl⟩ := hp.rs.form
  obtain ⟨a1, c1, rfl⟩ := hp.rg.form
  obtain ⟨a2, c2, rfl⟩ := hp.rh.form
  obtain ⟨a3, c3, rfl⟩ := hp.rq.form
  obtain ⟨b0, d0, rfl⟩ := hq.rs.form
  obtain ⟨b1, d1, rfl⟩ := hq.rg.form
  obtain ⟨b2, d2, rfl⟩ := hq.rh.form
  obtain ⟨b3, d3, rfl⟩ := hq.rq.form
  have HT := Lib.hid (TwoAt.new w #[.slice a0 p.l.length c0, .slice a1 p.g.length c1, .slice a2 p.h.length c2, .slice a3 zs.length c3] #[.slice b0 q.l.length d0, .slice b1 q.g.length d1, .slice b2 q.h.length d2, .slice b3 us.length d3] 26 26)
  clear hp hq
  go_enter Tryz.func32, Tryz.ntmps32
  go_wp2_with fail
  refine (C0.out _ HT.out.low).mono ?_
  rintro e w0 ⟨rfl, hb⟩
  have HT := Lib.hid (HT.out.later hb)
  clear hb C0
  by_cases h0 : e0 = true
  case neg =>
    obtain rfl : e0 = false := nb h0
    have R := Lib.hid (show res = false by rw [RES.out]; simp)
    go_wp2
    go_ret
    exact ⟨ret_b R.out.symm, HT.out.low⟩
  subst h0
  obtain ⟨ca, fa, za⟩ := HT.out.a
  obtain ⟨cb, fb, zb⟩ := HT.out.b
  go_wp2_with fail
  refine (C1.out _ HT.out.low).mono ?_
  rintro e w1 ⟨rfl, hb⟩
  have HT := Lib.hid (HT.out.later hb)
  clear hb C1 ca fa za cb fb zb
  by_cases h1 : e1 = true
  case neg =>
    obtain rfl : e1 = false := nb h1
    have R := Lib.hid (show res = false by rw [RES.out]; simp)
    go_wp2
    go_ret
    exact ⟨ret_b R.out.symm, HT.out.low⟩
  subst h1
  obtain ⟨ca, fa, za⟩ := HT.out.a
  obtain ⟨cb, fb, zb⟩ := HT.out.b
  go_wp2_with fail
  refine (C2.out _ HT.out.low).mono ?_
  rintro e w2 ⟨rfl, hb⟩
  have HT := Lib.hid (HT.out.later hb)
  clear hb C2 ca fa za cb fb zb
  by_cases h2 : e2 = true
  case neg =>
    obtain rfl : e2 = false := nb h2
    have R := Lib.hid (show res = false by rw [RES.out]; simp)
    go_wp2
    go_ret
    exact ⟨ret_b R.out.symm, HT.out.low⟩
  subst h2
  obtain ⟨ca, fa, za⟩ := HT.out.a
  obtain ⟨cb, fb, zb⟩ := HT.out.b
  go_wp2_with fail
  refine (C3.out _ HT.out.low).mono ?_
  rintro e w3 ⟨rfl, hb⟩
  have HT := Lib.hid (HT.out.later hb)
  clear hb C3 ca fa za cb fb zb
  have R := Lib.hid (show res = e3 by rw [RES.out]; simp)
  go_wp2
  go_ret
  exact ⟨ret_b R.out.symm, HT.out.low⟩
end Go.Proofs.YtnhkgfgbhedphaaGreatDoor
namespace Go.Proofs.YtnhkgfgbhedphaaGreatDoor
open Go.RowKit Go.Shelf

set_option maxRecDepth 100000 in
set_option maxHeartbeats 8000000 in
theorem law5_PolicyBack (v0 v1 v2 v3 : Value) (l : List St) (g h : List Rl) (qs : List Qv) (s : ByteArray) (w : World) (hg : Gl w) (hp : PolAt w v0 v1 v2 v3 l g h qs) (hs : s.size ≤ 9223372036854775807) :
    Calls Tryz.prog 6 #[pv v0 v1 v2 v3, .string s] w fun e w' => e = .returned (.bool true) ∧ Below w.heap.size w w' := by
  have HL := Lib.hid (fun W (hb : Below w.heap.size w W) => law5_lives W (hg.below hb))
  have P := Lib.hid (fun (s : ByteArray) W (hb : Below w.heap.size w W) (hs : s.size ≤ 9223372036854775807) => policy_Parse s W (hg.below hb) hs)
  have HLt := Lib.hid (fun W (hb : Below w.heap.size w W) => law5_LightU v0 v1 v2 v3 l g h qs W (hp.below hb))
  obtain ⟨zs, hz1, hz2⟩ := hp.give
  have HZ := Lib.hid hz1
  have EZ := Lib.hid hz2
  clear hz1 hz2
  obtain ⟨a0, c0, rfl⟩ := hp.rs.form
  obtain ⟨a1, c1, rfl⟩ := hp.rg.form
  obtain ⟨a2, c2, rfl⟩ := hp.rh.form
  obtain ⟨a3, c3, rfl⟩ := hp.rq.form
  clear hg hp
  have HT := Lib.hid (show OneAt w #[.slice a0 l.length c0, .slice a1 g.length c1, .slice a2 h.length c2, .slice a3 qs.length c3] (w.alloc (.cells #[.slice a0 l.length c0, .slice a1 g.length c1, .slice a2 h.length c2, .slice a3 qs.length c3] 26)) from ⟨Blk.new w _ _, (Below.refl _ _).alloc (Nat.le_refl _) _⟩)
  have hEq := fault_eql
  have hx : (s.extract 0 (min (s.size : Int) 3000).toNat).size ≤ 9223372036854775807 := by
    rw [ByteArray.size_extract]; omega
  go_enter Tryz.func6, Tryz.ntmps6
  go_wp2_with fail
  generalize s.extract 0 (min (s.size : Int) 3000).toNat = t at *
  have RR := parseP_right t
  refine (P.out t _ HT.out.low hx).mono ?_
  generalize parseP t = r at *
  obtain ⟨x, r1, r2, r3⟩ := r
  rintro e w1 ⟨u0, u1, u2, u3, us, rfl, hpo, hb1⟩
  have HX := Lib.hid hpo.pol
  have HT := Lib.hid (HT.out.later hb1)
  obtain ⟨b0, d0, rfl⟩ := hpo.pol.rs.form
  obtain ⟨b1, d1, rfl⟩ := hpo.pol.rg.form
  obtain ⟨b2, d2, rfl⟩ := hpo.pol.rh.form
  obtain ⟨b3, d3, rfl⟩ := hpo.pol.rq.form
  have HRx := Lib.hid (show RightD x from RR)
  clear hpo hb1 RR hx
  dsimp only at HX ⊢
  by_cases hr : r1 = 0
  · subst hr
    have HU := Lib.hid (TwoAt.new w1 #[.slice b0 x.l.length d0, .slice b1 x.g.length d1, .slice b2 x.h.length d2, .slice b3 us.length d3] #[.int .i64 0, .int .i64 r2, .int .i64 r3] 26 48)
    have HUl := HU.out.low
    have PX := Lib.hid (print_right (HX.out.below HUl) HRx.out)
    clear HUl
    obtain ⟨ca, fa, za⟩ := HU.out.a
    obtain ⟨cb, fb, zb⟩ := HU.out.b
    go_wp2_with fail
    clear ca fa za cb fb zb
    refine PX.out.mono ?_
    rintro e w2 ⟨rfl, hb2⟩
    have HT := Lib.hid ((HT.out.later HU.out.low).later hb2)
    have HU := Lib.hid (HU.out.later hb2)
    clear hb2 PX
    go_wp2_with fail
    have hsz := textP_size HRx.out
    by_cases h8 : (textP x).size ≤ 8000
    · have PQ := P.out (textP x) _ HT.out.low (by omega)
      rw [parse_textP HRx.out h8] at PQ
      refine PQ.mono ?_
      clear PQ
      rintro e w3 ⟨y0, y1, y2, y3, ys, rfl, hpy, hb3⟩
      have HT := Lib.hid (HT.out.later hb3)
      have HU := Lib.hid (HU.out.later hb3)
      have HY := Lib.hid hpy.pol
      obtain ⟨p0, n0, rfl⟩ := hpy.pol.rs.form
      obtain ⟨p1, n1, rfl⟩ := hpy.pol.rg.form
      obtain ⟨p2, n2, rfl⟩ := hpy.pol.rh.form
      obtain ⟨p3, n3, rfl⟩ := hpy.pol.rq.form
      clear hpy hb3
      try dsimp only at HY ⊢
      have HV := Lib.hid (TwoAt.new w3 #[.slice p0 x.l.length n0, .slice p1 x.g.length n1, .slice p2 x.h.length n2, .slice p3 ys.length n3] #[.int .i64 0, .int .i64 0, .int .i64 0] 26 48)
      have HT := Lib.hid (HT.out.later HV.out.low)
      have HU := Lib.hid (HU.out.later HV.out.low)
      obtain ⟨ca, fa, za⟩ := HU.out.a
      obtain ⟨cb, fb, zb⟩ := HV.out.a
      obtain ⟨cc, fc, zc⟩ := HV.out.b
      go_wp2_with fail
      clear ca fa za cb fb zb cc fc zc
      refine (right_right (HX.out.below HU.out.low) HRx.out).mono ?_
      rintro e w4 ⟨rfl, hb4⟩
      have HT := Lib.hid (HT.out.later hb4)
      have HU := Lib.hid (HU.out.later hb4)
      have HV := Lib.hid (HV.out.later hb4)
      clear hb4
      obtain ⟨ca, fa, za⟩ := HU.out.a
      obtain ⟨cb, fb, zb⟩ := HV.out.a
      obtain ⟨cc, fc, zc⟩ := HV.out.b
      have SM := Lib.hid (policy_Same _ _ _ _ _ _ _ _ x x us ys _ (HX.out.below HU.out.low) (HY.out.below HV.out.low))
      rw [sameD_iff.2 (rfl : x = x)] at SM
      go_wp2_with fail
      clear ca fa za cb fb zb cc fc zc
      refine SM.out.mono ?_
      rintro e w5 ⟨rfl, hb5⟩
      have HT := Lib.hid (HT.out.later hb5)
      clear hb5 SM HU HV HX HY HRx h8 hsz
      obtain ⟨ca, fa, za⟩ := HT.out.a
      go_wp2_with fail
      clear ca fa za
      refine (HLt.out _ HT.out.low).mono ?_
      rintro e w8 ⟨⟨bL, rfl, hbL⟩, hb8⟩
      have HZ8 := Lib.hid (HZ.out.below HT.out.low)
      have HT8 := Lib.hid (HT.out.later hb8)
      clear hb8 HT
      have HT := HT8
      clear HT8
      cases bL with
      | false =>
        clear hbL
        obtain ⟨ca, fa, za⟩ := HT.out.a
        go_wp2_with fail
        clear ca fa za
        refine (HL.out _ HT.out.low).mono ?_
        rintro e wz ⟨rfl, hbz⟩
        have HT := Lib.hid (HT.out.later hbz)
        clear hbz
        go_wp2
        go_ret
        exact ⟨rfl, HT.out.low⟩
      | true =>
        obtain ⟨⟨l30, g30, h30, q30, l40, qU⟩, gh⟩ := hbL rfl
        have LE := leP_light HZ8.out l40 (by rw [EZ.out]; exact qU) gh
        have q30' : (zs.map (·.1)).length ≤ 30 := by rw [List.length_map, ← List.length_map (f := qz), EZ.out]; exact q30
        have RA := Lib.hid (fun W (hb : Below w.heap.size w W) => right_any (HZ.out.below hb) (LE.mono (by decide) (Nat.le_refl _)) (show l.length ≤ 80 by omega) (show g.length ≤ 40 by omega) (show h.length ≤ 40 by omega) (show (zs.map (·.1)).length ≤ 100 by omega))
        clear hbL l30 g30 h30 q30 l40 qU gh LE q30' HZ8
        obtain ⟨ca, fa, za⟩ := HT.out.a
        go_wp2_with fail
        clear ca fa za
        refine (RA.out _ HT.out.low).mono ?_
        rintro e w9 ⟨⟨bR, rfl, hbR⟩, hb9⟩
        have HT := Lib.hid (HT.out.later hb9)
        clear hb9 RA
        cases bR with
        | false =>
          clear hbR
          obtain ⟨ca, fa, za⟩ := HT.out.a
          go_wp2_with fail
          clear ca fa za
          refine (HL.out _ HT.out.low).mono ?_
          rintro e wz ⟨rfl, hbz⟩
          have HT := Lib.hid (HT.out.later hbz)
          clear hbz
          go_wp2
          go_ret
          exact ⟨rfl, HT.out.low⟩
        | true =>
          have HR := Lib.hid (hbR.1 rfl)
          clear hbR
          have PR := Lib.hid (fun W (hb : Below w.heap.size w W) => print_right (HZ.out.below hb) HR.out)
          have PT := Lib.hid (parse_textP HR.out)
          have hsz := textP_size HR.out
          generalize htx : textP ⟨l, g, h, zs.map (·.1)⟩ = tx at PR PT hsz
          clear htx
          obtain ⟨ca, fa, za⟩ := HT.out.a
          go_wp2_with fail
          clear ca fa za
          refine (PR.out _ HT.out.low).mono ?_
          rintro e wA ⟨rfl, hbA⟩
          have HT := Lib.hid (HT.out.later hbA)
          clear hbA
          by_cases h8 : tx.size ≤ 8000
          · have k1 : decide ((8000 : Int) < (tx.size : Int)) = false := by (rw [decide_eq_false_iff_not]; omega)
            obtain ⟨ca, fa, za⟩ := HT.out.a
            go_wp2_with fail
            clear ca fa za
            refine (PR.out _ HT.out.low).mono ?_
            rintro e wB ⟨rfl, hbB⟩
            have HT := Lib.hid (HT.out.later hbB)
            clear hbB
            go_wp2_with fail
            have PQ := P.out tx _ HT.out.low (by omega)
            rw [PT.out h8] at PQ
            refine PQ.mono ?_
            clear PQ PT PR
            rintro e wC ⟨y0, y1, y2, y3, ys, rfl, hpy, hbC⟩
            have HT := Lib.hid (HT.out.later hbC)
            have HY := Lib.hid hpy.pol
            obtain ⟨p0, n0, rfl⟩ := hpy.pol.rs.form
            obtain ⟨p1, n1, rfl⟩ := hpy.pol.rg.form
            obtain ⟨p2, n2, rfl⟩ := hpy.pol.rh.form
            obtain ⟨p3, n3, rfl⟩ := hpy.pol.rq.form
            have HV := Lib.hid (TwoAt.new wC #[.slice p0 l.length n0, .slice p1 g.length n1, .slice p2 h.length n2, .slice p3 ys.length n3] #[.int .i64 0, .int .i64 0, .int .i64 0] 26 48)
            have HT := Lib.hid (HT.out.later HV.out.low)
            clear hpy hbC
            dsimp only
            have SM := Lib.hid (fun W (hb : Below wC.heap.size wC W) (hb2 : Below w.heap.size w W) => policy_Same _ _ _ _ _ _ _ _ ⟨l, g, h, zs.map (·.1)⟩ ⟨l, g, h, zs.map (·.1)⟩ ys zs W (HY.out.below hb) (HZ.out.below hb2))
            rw [sameD_iff.2 (rfl : (⟨l, g, h, zs.map (·.1)⟩ : Pd) = ⟨l, g, h, zs.map (·.1)⟩)] at SM
            have hE0 := eqF_same 0 0 0
            obtain ⟨ca, fa, za⟩ := HT.out.a
            obtain ⟨cb, fb, zb⟩ := HV.out.a
            obtain ⟨cc, fc, zc⟩ := HV.out.b
            go_wp2_with fail
            clear ca fa za cb fb zb cc fc zc
            refine (SM.out _ HV.out.low HT.out.low).mono ?_
            rintro e wD ⟨rfl, hbD⟩
            have HT := Lib.hid (HT.out.later hbD)
            clear hbD SM
            go_wp2_with fail
            refine (HL.out _ HT.out.low).mono ?_
            rintro e wE ⟨rfl, hbE⟩
            have HT := Lib.hid (HT.out.later hbE)
            clear hbE
            go_wp2
            go_ret
            exact ⟨rfl, HT.out.low⟩
          · have k1 : decide ((8000 : Int) < (tx.size : Int)) = true := by (rw [decide_eq_true_iff]; omega)
            clear PT PR
            obtain ⟨ca, fa, za⟩ := HT.out.a
            go_wp2_with fail
            clear ca fa za
            refine (HL.out _ HT.out.low).mono ?_
            rintro e wz ⟨rfl, hbz⟩
            have HT := Lib.hid (HT.out.later hbz)
            clear hbz
            go_wp2
            go_ret
            exact ⟨rfl, HT.out.low⟩
    · have PQ := P.out (textP x) _ HT.out.low (by omega)
      rw [parse_textP_long (by omega)] at PQ
      refine PQ.mono ?_
      clear PQ
      rintro e w3 ⟨y0, y1, y2, y3, ys, rfl, hpy, hb3⟩
      have HT := Lib.hid (HT.out.later hb3)
      have HU := Lib.hid (HU.out.later hb3)
      have HY := Lib.hid hpy.pol
      obtain ⟨p0, n0, rfl⟩ := hpy.pol.rs.form
      obtain ⟨p1, n1, rfl⟩ := hpy.pol.rg.form
      obtain ⟨p2, n2, rfl⟩ := hpy.pol.rh.form
      obtain ⟨p3, n3, rfl⟩ := hpy.pol.rq.form
      clear hpy hb3
      try dsimp only at HY ⊢
      have HV := Lib.hid (TwoAt.new w3 #[.slice p0 noPd.l.length n0, .slice p1 noPd.g.length n1, .slice p2 noPd.h.length n2, .slice p3 ys.length n3] #[.int .i64 4, .int .i64 0, .int .i64 0] 26 48)
      have HT := Lib.hid (HT.out.later HV.out.low)
      have HU := Lib.hid (HU.out.later HV.out.low)
      obtain ⟨ca, fa, za⟩ := HU.out.a
      obtain ⟨cb, fb, zb⟩ := HV.out.a
      obtain ⟨cc, fc, zc⟩ := HV.out.b
      go_wp2_with fail
      clear ca fa za cb fb zb cc fc zc
      refine (right_right (HX.out.below HU.out.low) HRx.out).mono ?_
      rintro e w4 ⟨rfl, hb4⟩
      have HT := Lib.hid (HT.out.later hb4)
      have HU := Lib.hid (HU.out.later hb4)
      have HV := Lib.hid (HV.out.later hb4)
      clear hb4
      obtain ⟨ca, fa, za⟩ := HU.out.a
      obtain ⟨cb, fb, zb⟩ := HV.out.a
      obtain ⟨cc, fc, zc⟩ := HV.out.b
      have HU' := HU
      clear HU HV HX HY HRx h8 hsz
      clear HU'
      obtain ⟨cd, fd, zd⟩ := HT.out.a
      go_wp2_with fail
      clear ca fa za cb fb zb cc fc zc cd fd zd
      refine (HLt.out _ HT.out.low).mono ?_
      rintro e w8 ⟨⟨bL, rfl, hbL⟩, hb8⟩
      have HZ8 := Lib.hid (HZ.out.below HT.out.low)
      have HT8 := Lib.hid (HT.out.later hb8)
      clear hb8 HT
      have HT := HT8
      clear HT8
      cases bL with
      | false =>
        clear hbL
        obtain ⟨ca, fa, za⟩ := HT.out.a
        go_wp2_with fail
        clear ca fa za
        refine (HL.out _ HT.out.low).mono ?_
        rintro e wz ⟨rfl, hbz⟩
        have HT := Lib.hid (HT.out.later hbz)
        clear hbz
        go_wp2
        go_ret
        exact ⟨rfl, HT.out.low⟩
      | true =>
        obtain ⟨⟨l30, g30, h30, q30, l40, qU⟩, gh⟩ := hbL rfl
        have LE := leP_light HZ8.out l40 (by rw [EZ.out]; exact qU) gh
        have q30' : (zs.map (·.1)).length ≤ 30 := by rw [List.length_map, ← List.length_map (f := qz), EZ.out]; exact q30
        have RA := Lib.hid (fun W (hb : Below w.heap.size w W) => right_any (HZ.out.below hb) (LE.mono (by decide) (Nat.le_refl _)) (show l.length ≤ 80 by omega) (show g.length ≤ 40 by omega) (show h.length ≤ 40 by omega) (show (zs.map (·.1)).length ≤ 100 by omega))
        clear hbL l30 g30 h30 q30 l40 qU gh LE q30' HZ8
        obtain ⟨ca, fa, za⟩ := HT.out.a
        go_wp2_with fail
        clear ca fa za
        refine (RA.out _ HT.out.low).mono ?_
        rintro e w9 ⟨⟨bR, rfl, hbR⟩, hb9⟩
        have HT := Lib.hid (HT.out.later hb9)
        clear hb9 RA
        cases bR with
        | false =>
          clear hbR
          obtain ⟨ca, fa, za⟩ := HT.out.a
          go_wp2_with fail
          clear ca fa za
          refine (HL.out _ HT.out.low).mono ?_
          rintro e wz ⟨rfl, hbz⟩
          have HT := Lib.hid (HT.out.later hbz)
          clear hbz
          go_wp2
          go_ret
          exact ⟨rfl, HT.out.low⟩
        | true =>
          have HR := Lib.hid (hbR.1 rfl)
          clear hbR
          have PR := Lib.hid (fun W (hb : Below w.heap.size w W) => print_right (HZ.out.below hb) HR.out)
          have PT := Lib.hid (parse_textP HR.out)
          have hsz := textP_size HR.out
          generalize htx : textP ⟨l, g, h, zs.map (·.1)⟩ = tx at PR PT hsz
          clear htx
          obtain ⟨ca, fa, za⟩ := HT.out.a
          go_wp2_with fail
          clear ca fa za
          refine (PR.out _ HT.out.low).mono ?_
          rintro e wA ⟨rfl, hbA⟩
          have HT := Lib.hid (HT.out.later hbA)
          clear hbA
          by_cases h8 : tx.size ≤ 8000
          · have k1 : decide ((8000 : Int) < (tx.size : Int)) = false := by (rw [decide_eq_false_iff_not]; omega)
            obtain ⟨ca, fa, za⟩ := HT.out.a
            go_wp2_with fail
            clear ca fa za
            refine (PR.out _ HT.out.low).mono ?_
            rintro e wB ⟨rfl, hbB⟩
            have HT := Lib.hid (HT.out.later hbB)
            clear hbB
            go_wp2_with fail
            have PQ := P.out tx _ HT.out.low (by omega)
            rw [PT.out h8] at PQ
            refine PQ.mono ?_
            clear PQ PT PR
            rintro e wC ⟨y0, y1, y2, y3, ys, rfl, hpy, hbC⟩
            have HT := Lib.hid (HT.out.later hbC)
            have HY := Lib.hid hpy.pol
            obtain ⟨p0, n0, rfl⟩ := hpy.pol.rs.form
            obtain ⟨p1, n1, rfl⟩ := hpy.pol.rg.form
            obtain ⟨p2, n2, rfl⟩ := hpy.pol.rh.form
            obtain ⟨p3, n3, rfl⟩ := hpy.pol.rq.form
            have HV := Lib.hid (TwoAt.new wC #[.slice p0 l.length n0, .slice p1 g.length n1, .slice p2 h.length n2, .slice p3 ys.length n3] #[.int .i64 0, .int .i64 0, .int .i64 0] 26 48)
            have HT := Lib.hid (HT.out.later HV.out.low)
            clear hpy hbC
            dsimp only
            have SM := Lib.hid (fun W (hb : Below wC.heap.size wC W) (hb2 : Below w.heap.size w W) => policy_Same _ _ _ _ _ _ _ _ ⟨l, g, h, zs.map (·.1)⟩ ⟨l, g, h, zs.map (·.1)⟩ ys zs W (HY.out.below hb) (HZ.out.below hb2))
            rw [sameD_iff.2 (rfl : (⟨l, g, h, zs.map (·.1)⟩ : Pd) = ⟨l, g, h, zs.map (·.1)⟩)] at SM
            have hE0 := eqF_same 0 0 0
            obtain ⟨ca, fa, za⟩ := HT.out.a
            obtain ⟨cb, fb, zb⟩ := HV.out.a
            obtain ⟨cc, fc, zc⟩ := HV.out.b
            go_wp2_with fail
            clear ca fa za cb fb zb cc fc zc
            refine (SM.out _ HV.out.low HT.out.low).mono ?_
            rintro e wD ⟨rfl, hbD⟩
            have HT := Lib.hid (HT.out.later hbD)
            clear hbD SM
            go_wp2_with fail
            refine (HL.out _ HT.out.low).mono ?_
            rintro e wE ⟨rfl, hbE⟩
            have HT := Lib.hid (HT.out.later hbE)
            clear hbE
            go_wp2
            go_ret
            exact ⟨rfl, HT.out.low⟩
          · have k1 : decide ((8000 : Int) < (tx.size : Int)) = true := by (rw [decide_eq_true_iff]; omega)
            clear PT PR
            obtain ⟨ca, fa, za⟩ := HT.out.a
            go_wp2_with fail
            clear ca fa za
            refine (HL.out _ HT.out.low).mono ?_
            rintro e wz ⟨rfl, hbz⟩
            have HT := Lib.hid (HT.out.later hbz)
            clear hbz
            go_wp2
            go_ret
            exact ⟨rfl, HT.out.low⟩
  · have HU := Lib.hid (TwoAt.new w1 #[.slice b0 x.l.length d0, .slice b1 x.g.length d1, .slice b2 x.h.length d2, .slice b3 us.length d3] #[.int .i64 r1, .int .i64 r2, .int .i64 r3] 26 48)
    have e1 : decide (r1 = 0) = false := decide_eq_false hr
    have e2 : (r1 == 0) = false := by simp [hr]
    have HT := Lib.hid (HT.out.later HU.out.low)
    clear hr HX HRx HU
    obtain ⟨ca, fa, za⟩ := HT.out.a
    go_wp2_with fail
    clear ca fa za
    refine (HLt.out _ HT.out.low).mono ?_
    rintro e w8 ⟨⟨bL, rfl, hbL⟩, hb8⟩
    have HZ8 := Lib.hid (HZ.out.below HT.out.low)
    have HT8 := Lib.hid (HT.out.later hb8)
    clear hb8 HT
    have HT := HT8
    clear HT8
    cases bL with
    | false =>
      clear hbL
      obtain ⟨ca, fa, za⟩ := HT.out.a
      go_wp2_with fail
      clear ca fa za
      refine (HL.out _ HT.out.low).mono ?_
      rintro e wz ⟨rfl, hbz⟩
      have HT := Lib.hid (HT.out.later hbz)
      clear hbz
      go_wp2
      go_ret
      exact ⟨rfl, HT.out.low⟩
    | true =>
      obtain ⟨⟨l30, g30, h30, q30, l40, qU⟩, gh⟩ := hbL rfl
      have LE := leP_light HZ8.out l40 (by rw [EZ.out]; exact qU) gh
      have q30' : (zs.map (·.1)).length ≤ 30 := by rw [List.length_map, ← List.length_map (f := qz), EZ.out]; exact q30
      have RA := Lib.hid (fun W (hb : Below w.heap.size w W) => right_any (HZ.out.below hb) (LE.mono (by decide) (Nat.le_refl _)) (show l.length ≤ 80 by omega) (show g.length ≤ 40 by omega) (show h.length ≤ 40 by omega) (show (zs.map (·.1)).length ≤ 100 by omega))
      clear hbL l30 g30 h30 q30 l40 qU gh LE q30' HZ8
      obtain ⟨ca, fa, za⟩ := HT.out.a
      go_wp2_with fail
      clear ca fa za
      refine (RA.out _ HT.out.low).mono ?_
      rintro e w9 ⟨⟨bR, rfl, hbR⟩, hb9⟩
      have HT := Lib.hid (HT.out.later hb9)
      clear hb9 RA
      cases bR with
      | false =>
        clear hbR
        obtain ⟨ca, fa, za⟩ := HT.out.a
        go_wp2_with fail
        clear ca fa za
        refine (HL.out _ HT.out.low).mono ?_
        rintro e wz ⟨rfl, hbz⟩
        have HT := Lib.hid (HT.out.later hbz)
        clear hbz
        go_wp2
        go_ret
        exact ⟨rfl, HT.out.low⟩
      | true =>
        have HR := Lib.hid (hbR.1 rfl)
        clear hbR
        have PR := Lib.hid (fun W (hb : Below w.heap.size w W) => print_right (HZ.out.below hb) HR.out)
        have PT := Lib.hid (parse_textP HR.out)
        have hsz := textP_size HR.out
        generalize htx : textP ⟨l, g, h, zs.map (·.1)⟩ = tx at PR PT hsz
        clear htx
        obtain ⟨ca, fa, za⟩ := HT.out.a
        go_wp2_with fail
        clear ca fa za
        refine (PR.out _ HT.out.low).mono ?_
        rintro e wA ⟨rfl, hbA⟩
        have HT := Lib.hid (HT.out.later hbA)
        clear hbA
        by_cases h8 : tx.size ≤ 8000
        · have k1 : decide ((8000 : Int) < (tx.size : Int)) = false := by (rw [decide_eq_false_iff_not]; omega)
          obtain ⟨ca, fa, za⟩ := HT.out.a
          go_wp2_with fail
          clear ca fa za
          refine (PR.out _ HT.out.low).mono ?_
          rintro e wB ⟨rfl, hbB⟩
          have HT := Lib.hid (HT.out.later hbB)
          clear hbB
          go_wp2_with fail
          have PQ := P.out tx _ HT.out.low (by omega)
          rw [PT.out h8] at PQ
          refine PQ.mono ?_
          clear PQ PT PR
          rintro e wC ⟨y0, y1, y2, y3, ys, rfl, hpy, hbC⟩
          have HT := Lib.hid (HT.out.later hbC)
          have HY := Lib.hid hpy.pol
          obtain ⟨p0, n0, rfl⟩ := hpy.pol.rs.form
          obtain ⟨p1, n1, rfl⟩ := hpy.pol.rg.form
          obtain ⟨p2, n2, rfl⟩ := hpy.pol.rh.form
          obtain ⟨p3, n3, rfl⟩ := hpy.pol.rq.form
          have HV := Lib.hid (TwoAt.new wC #[.slice p0 l.length n0, .slice p1 g.length n1, .slice p2 h.length n2, .slice p3 ys.length n3] #[.int .i64 0, .int .i64 0, .int .i64 0] 26 48)
          have HT := Lib.hid (HT.out.later HV.out.low)
          clear hpy hbC
          dsimp only
          have SM := Lib.hid (fun W (hb : Below wC.heap.size wC W) (hb2 : Below w.heap.size w W) => policy_Same _ _ _ _ _ _ _ _ ⟨l, g, h, zs.map (·.1)⟩ ⟨l, g, h, zs.map (·.1)⟩ ys zs W (HY.out.below hb) (HZ.out.below hb2))
          rw [sameD_iff.2 (rfl : (⟨l, g, h, zs.map (·.1)⟩ : Pd) = ⟨l, g, h, zs.map (·.1)⟩)] at SM
          have hE0 := eqF_same 0 0 0
          obtain ⟨ca, fa, za⟩ := HT.out.a
          obtain ⟨cb, fb, zb⟩ := HV.out.a
          obtain ⟨cc, fc, zc⟩ := HV.out.b
          go_wp2_with fail
          clear ca fa za cb fb zb cc fc zc
          refine (SM.out _ HV.out.low HT.out.low).mono ?_
          rintro e wD ⟨rfl, hbD⟩
          have HT := Lib.hid (HT.out.later hbD)
          clear hbD SM
          go_wp2_with fail
          refine (HL.out _ HT.out.low).mono ?_
          rintro e wE ⟨rfl, hbE⟩
          have HT := Lib.hid (HT.out.later hbE)
          clear hbE
          go_wp2
          go_ret
          exact ⟨rfl, HT.out.low⟩
        · have k1 : decide ((8000 : Int) < (tx.size : Int)) = true := by (rw [decide_eq_true_iff]; omega)
          clear PT PR
          obtain ⟨ca, fa, za⟩ := HT.out.a
          go_wp2_with fail
          clear ca fa za
          refine (HL.out _ HT.out.low).mono ?_
          rintro e wz ⟨rfl, hbz⟩
          have HT := Lib.hid (HT.out.later hbz)
          clear hbz
          go_wp2
          go_ret
          exact ⟨rfl, HT.out.low⟩
end Go.Proofs.YtnhkgfgbhedphaaGreatDoor
namespace Go.Proofs.YtnhkgfgbhedphaaGreatDoor
open Go.ChangeShapes Go.WideShapes Go.ChangeAt Go.RowKit

section
variable {H : Type} {enc : TypeId × Value → H} {w : World} {base fuel n : Nat} {sp : Nat → Bool} {held : Bool} {cs : List Value} {x : DataW H × List MemPlace} {v : Value} {d : DataW H} {ps : List MemPlace}
def dStr (H : Type) (s : ByteArray) : DataW H := .lit (.string s.data.toList)
def dRl (H : Type) (r : Rl) : DataW H := .agg [dStr H r.o, dStr H r.n]
def dSt (H : Type) (s : St) : DataW H := .agg [.lit (.int .i64 s.k), dRl H s.h, dStr H s.who, dRl H s.a, dRl H s.b, dStr H s.via]
def St.fits (s : St) : Prop := s.le maxLen ∧ (Lit.int IntKind.i64 s.k).wf = true

theorem two_of (h : cs.length = 2) : ∃ a b, cs = [a, b] := by
  match cs, h with
  | [a, b], _ => exact ⟨a, b, rfl⟩
theorem trod_role (h : DataW.trod enc Tryz.prog w base sp held fuel 54 cs = some x) : ∃ r : Rl, cs = r.cells ∧ x = (dRl H r, []) ∧ r.le maxLen := by
  obtain ⟨xs, n, _, rfl, hl, hlen, hf⟩ := DataW.trod_struct Tryz.underlying54 h
  have hc : Tryz.prog.cellsOf 54 = 2 := by kernel_rfl
  have hs : Tryz.prog.cellsOf 9 = 1 := by kernel_rfl
  rw [hc] at hl
  obtain ⟨a, b, rfl⟩ := two_of hl
  have f0 : DataW.trod enc Tryz.prog w base sp held n 9 [a] = xs[0]? := by simpa [hs] using hf 0 _ rfl
  have f1 : DataW.trod enc Tryz.prog w base sp held n 9 [b] = xs[1]? := by simpa [hs] using hf 1 _ rfl
  match xs, hlen with
  | [y0, y1], _ =>
    simp only [List.getElem?_cons_zero, List.getElem?_cons_succ] at f0 f1
    obtain ⟨s0, e0, g0, l0⟩ := DataW.trod_string Tryz.underlying9 f0
    obtain ⟨s1, e1, g1, l1⟩ := DataW.trod_string Tryz.underlying9 f1
    simp only [List.cons.injEq, and_true] at e0 e1
    subst e0 e1 g0 g1
    exact ⟨⟨s0, s1⟩, rfl, rfl, l0, l1⟩
theorem nine_of (h : cs.length = 9) : ∃ a b c d e f g i j, cs = [a, b, c, d, e, f, g, i, j] := by
  match cs, h with
  | [a, b, c, d, e, f, g, i, j], _ => exact ⟨a, b, c, d, e, f, g, i, j, rfl⟩
theorem trod_stmt (h : DataW.trod enc Tryz.prog w base sp held fuel 63 cs = some x) : ∃ s : St, cs = s.cells ∧ x = (dSt H s, []) ∧ s.fits := by
  obtain ⟨xs, n, _, rfl, hl, hlen, hf⟩ := DataW.trod_struct Tryz.underlying63 h
  have hc : Tryz.prog.cellsOf 63 = 9 := by kernel_rfl
  have hr : Tryz.prog.cellsOf 54 = 2 := by kernel_rfl
  have hi : Tryz.prog.cellsOf 3 = 1 := by kernel_rfl
  have hs : Tryz.prog.cellsOf 9 = 1 := by kernel_rfl
  rw [hc] at hl
  obtain ⟨c0, c1, c2, c3, c4, c5, c6, c7, c8, rfl⟩ := nine_of hl
  have f0 : DataW.trod enc Tryz.prog w base sp held n 3 [c0] = xs[0]? := by simpa [hi] using hf 0 _ rfl
  have f1 : DataW.trod enc Tryz.prog w base sp held n 54 [c1, c2] = xs[1]? := by simpa [hr] using hf 1 _ rfl
  have f2 : DataW.trod enc Tryz.prog w base sp held n 9 [c3] = xs[2]? := by simpa [hs] using hf 2 _ rfl
  have f3 : DataW.trod enc Tryz.prog w base sp held n 54 [c4, c5] = xs[3]? := by simpa [hr] using hf 3 _ rfl
  have f4 : DataW.trod enc Tryz.prog w base sp held n 54 [c6, c7] = xs[4]? := by simpa [hr] using hf 4 _ rfl
  have f5 : DataW.trod enc Tryz.prog w base sp held n 9 [c8] = xs[5]? := by simpa [hs] using hf 5 _ rfl
  match xs, hlen with
  | [y0, y1, y2, y3, y4, y5], _ =>
    simp only [List.getElem?_cons_zero, List.getElem?_cons_succ] at f0 f1 f2 f3 f4 f5
    obtain ⟨k, e0, g0, l0⟩ := DataW.trod_int Tryz.underlying3 f0
    obtain ⟨r1, e1, g1, l1⟩ := trod_role f1
    obtain ⟨s2, e2, g2, l2⟩ := DataW.trod_string Tryz.underlying9 f2
    obtain ⟨r3, e3, g3, l3⟩ := trod_role f3
    obtain ⟨r4, e4, g4, l4⟩ := trod_role f4
    obtain ⟨s5, e5, g5, l5⟩ := DataW.trod_string Tryz.underlying9 f5
    simp only [Rl.cells, List.cons.injEq, and_true] at e0 e1 e2 e3 e4 e5
    obtain ⟨rfl, rfl⟩ := e1
    obtain ⟨rfl, rfl⟩ := e3
    obtain ⟨rfl, rfl⟩ := e4
    subst e0 e2 e5 g0 g1 g2 g3 g4 g5
    exact ⟨⟨k, r1, s2, r3, r4, s5⟩, rfl, rfl, ⟨l1, l2, l3, l4, l5⟩, l0⟩
end
end Go.Proofs.YtnhkgfgbhedphaaGreatDoor
namespace Go.Proofs.YtnhkgfgbhedphaaGreatDoor
open Go.ChangeShapes Go.WideShapes Go.ChangeAt Go.RowKit Go.Deep

theorem laid_out : laidOutB Tryz.prog = true := by kernel_rfl
end Go.Proofs.YtnhkgfgbhedphaaGreatDoor
namespace Go.Proofs.YtnhkgfgbhedphaaGreatDoor
open Go.ChangeShapes Go.WideShapes Go.ChangeAt Go.RowKit Go.Deep

section
variable {H : Type} {enc : TypeId × Value → H} {w : World} {base : Nat} {held : Bool}
theorem open_rowOf {α : Type} [Inhabited α] (cells : α → List Value) (k : Nat) (hk : 0 < k) (hlen : ∀ x, (cells x).length = k) {t e : TypeId} (ht : Tryz.prog.underlying t = some (.slice e)) (hc : Tryz.prog.cellsOf e = k) (p : α → Prop)
    (each : ∀ n cs y, DataW.trod enc Tryz.prog w base (fun _ => true) held n e cs = some y → ∃ x : α, cs = cells x ∧ p x) {fuel : Nat} {c : Value} {y : DataW H × List MemPlace}
    (hf : DataW.trod enc Tryz.prog w base (fun _ => true) held fuel t [c] = some y) : ∃ l : List α, SlA w k c l.length (l.flatMap cells) ∧ ∀ x ∈ l, p x := by
  rcases open_slice ht hf with ⟨hcs, _⟩ | ⟨a, len, cap, m, n, D, Pl, hcs, _, hl, hm, hmm, _, hx⟩
  · simp only [List.cons.injEq, and_true] at hcs
    subst hcs
    exact ⟨[], (Sl.nil _ _).a, fun s hs => by cases hs⟩
  · simp only [List.cons.injEq, and_true] at hcs
    subst hcs
    simp only [if_true] at hmm
    subst hmm
    rw [hc] at hx
    have hex : ∀ i, i < m → ∃ s : α, w.cells? base (a.add (i * k)) k = some (cells s) ∧ p s := by
      intro i hi
      obtain ⟨cs', h1, h2⟩ := hx i hi
      obtain ⟨s, rfl, hs⟩ := each _ _ _ h2
      exact ⟨s, h1, hs⟩
    obtain ⟨S, hS⟩ := choose_lt hex
    obtain ⟨b, off, spot⟩ := a
    by_cases h0 : 0 < len
    · have hk0 : 0 < (cells (S 0)).length := by rw [hlen]; exact hk
      have c0 := (World.cells?_some (hS 0 (by omega)).1).2.2 0 hk
      rw [List.getElem?_eq_getElem hk0] at c0
      have hspot : spot = none := by simpa [Addr.add] using World.cell?_spot c0
      subst hspot
      have hlenl : ((List.range len).map S).length = len := by simp
      have hcell : ∀ j u, (((List.range len).map S).flatMap cells)[j]? = some u → w.cell? ⟨b, off + j, none⟩ = some u := by
        intro j u hu
        have hj : j < len * k := by
          have := (List.getElem?_eq_some_iff.1 hu).1
          rwa [flat_len cells k hlen, hlenl] at this
        have hf9 : j % k < k := Nat.mod_lt _ hk
        have hi : j / k < len := Nat.div_lt_of_lt_mul (by rwa [Nat.mul_comm])
        have e : j = j / k * k + j % k := by rw [Nat.mul_comm]; exact (Nat.div_add_mod j k).symm
        rw [e, flat_get cells k hlen _ (j / k) (j % k) hf9 (S (j / k)) (by simp [hi])] at hu
        have h1 := (World.cells?_some (hS (j / k) (by omega)).1).2.2 (j % k) hf9
        rw [add_add, add_plain, ← e] at h1
        exact h1.trans hu
      refine ⟨(List.range len).map S, .inl ?_, fun s hs => ?_⟩
      · rw [hlenl]
        refine ⟨by rw [flat_len cells k hlen, hlenl], by omega, .inr ⟨b, off, m, rfl, hl, hm, ?_, hcell⟩⟩
        rw [add_add, add_plain] at c0
        exact World.block_lt_of_cell? _ _ c0
      · obtain ⟨i, hi, rfl⟩ := List.mem_map.1 hs
        exact (hS i (by have := List.mem_range.1 hi; omega)).2
    · have hl0 : len = 0 := by omega
      subst hl0
      exact ⟨[], .inr ⟨⟨_, _, rfl⟩, rfl, rfl⟩, fun s hs => by cases hs⟩

theorem maxLen_eq : maxLen = 9223372036854775807 := by decide
theorem le_max {s : St} (h : s.fits) : s.le 9223372036854775807 := by have := h.1; rwa [maxLen_eq] at this
theorem rle_max {r : Rl} (h : r.le maxLen) : r.le 9223372036854775807 := by rwa [maxLen_eq] at h
instance : Inhabited Rl := ⟨noR⟩
theorem open_stsC {fuel : Nat} {c : Value} {y : DataW H × List MemPlace} (hf : DataW.trod enc Tryz.prog w base (fun _ => true) held fuel 22 [c] = some y) :
    ∃ l : List St, SlA w 9 c l.length (l.flatMap St.cells) ∧ allLe l 9223372036854775807 :=
  open_rowOf St.cells 9 (by decide) St.cells_len Tryz.underlying22 (by kernel_rfl) (fun s => s.le 9223372036854775807)
    (fun _ _ _ h => by obtain ⟨s, e, _, hs⟩ := trod_stmt h; exact ⟨s, e, le_max hs⟩) hf
theorem open_rls {fuel : Nat} {c : Value} {y : DataW H × List MemPlace} (hf : DataW.trod enc Tryz.prog w base (fun _ => true) held fuel 23 [c] = some y) :
    ∃ l : List Rl, SlA w 2 c l.length (l.flatMap Rl.cells) ∧ ∀ x ∈ l, x.le 9223372036854775807 :=
  open_rowOf Rl.cells 2 (by decide) Rl.cells_len Tryz.underlying23 (by kernel_rfl) (fun s => s.le 9223372036854775807)
    (fun _ _ _ h => by obtain ⟨s, e, _, hs⟩ := trod_role h; exact ⟨s, e, rle_max hs⟩) hf
theorem strs_flat (l : List ByteArray) : (l.flatMap fun s => [Value.string s]) = strs l := by
  induction l with
  | nil => rfl
  | cons a r ih => rw [List.flatMap_cons, ih]; rfl
theorem open_strsC {fuel : Nat} {c : Value} {y : DataW H × List MemPlace} (hf : DataW.trod enc Tryz.prog w base (fun _ => true) held fuel 27 [c] = some y) :
    ∃ l : List ByteArray, SlA w 1 c l.length (strs l) ∧ ∀ x ∈ l, x.size ≤ 9223372036854775807 := by
  obtain ⟨l, h1, h2⟩ := open_rowOf (fun s : ByteArray => [Value.string s]) 1 (by decide) (fun _ => rfl) Tryz.underlying27 (by kernel_rfl) (fun s => s.size ≤ 9223372036854775807)
    (fun _ cs _ h => by obtain ⟨s, e, _, hs⟩ := DataW.trod_string Tryz.underlying9 h; exact ⟨s, e, by rwa [maxLen_eq] at hs⟩) hf
  exact ⟨l, by rwa [strs_flat] at h1, h2⟩

theorem six_of {cs : List Value} (h : cs.length = 6) : ∃ a b c d e f, cs = [a, b, c, d, e, f] := by
  match cs, h with
  | [a, b, c, d, e, f], _ => exact ⟨a, b, c, d, e, f, rfl⟩
theorem trod_query {fuel : Nat} {cs : List Value} {x : DataW H × List MemPlace} (h : DataW.trod enc Tryz.prog w base (fun _ => true) held fuel 66 cs = some x) : ∃ q : Qv, cs = q.cells ∧ q.ok w := by
  obtain ⟨xs, n, _, rfl, hl, hlen, hf⟩ := DataW.trod_struct Tryz.underlying66 h
  have hc : Tryz.prog.cellsOf 66 = 6 := by kernel_rfl
  have hr : Tryz.prog.cellsOf 54 = 2 := by kernel_rfl
  have hi : Tryz.prog.cellsOf 3 = 1 := by kernel_rfl
  have hs : Tryz.prog.cellsOf 27 = 1 := by kernel_rfl
  rw [hc] at hl
  obtain ⟨c0, c1, c2, c3, c4, c5, rfl⟩ := six_of hl
  have f0 : DataW.trod enc Tryz.prog w base (fun _ => true) held n 3 [c0] = xs[0]? := by simpa [hi] using hf 0 _ rfl
  have f1 : DataW.trod enc Tryz.prog w base (fun _ => true) held n 54 [c1, c2] = xs[1]? := by simpa [hr] using hf 1 _ rfl
  have f2 : DataW.trod enc Tryz.prog w base (fun _ => true) held n 54 [c3, c4] = xs[2]? := by simpa [hr] using hf 2 _ rfl
  have f3 : DataW.trod enc Tryz.prog w base (fun _ => true) held n 27 [c5] = xs[3]? := by simpa [hs] using hf 3 _ rfl
  match xs, hlen with
  | [y0, y1, y2, y3], _ =>
    simp only [List.getElem?_cons_zero, List.getElem?_cons_succ] at f0 f1 f2 f3
    obtain ⟨k, e0, _, _⟩ := DataW.trod_int Tryz.underlying3 f0
    obtain ⟨r1, e1, _, l1⟩ := trod_role f1
    obtain ⟨r2, e2, _, l2⟩ := trod_role f2
    obtain ⟨ss, s3, l3⟩ := open_strsC f3
    simp only [Rl.cells, List.cons.injEq, and_true] at e0 e1 e2
    obtain ⟨rfl, rfl⟩ := e1
    obtain ⟨rfl, rfl⟩ := e2
    subst e0
    exact ⟨⟨k, r1, r2, c5⟩, rfl, rle_max l1, rle_max l2, ss, s3, l3⟩
theorem open_qs {fuel : Nat} {c : Value} {y : DataW H × List MemPlace} (hf : DataW.trod enc Tryz.prog w base (fun _ => true) held fuel 24 [c] = some y) :
    ∃ l : List Qv, SlA w 6 c l.length (l.flatMap Qv.cells) ∧ ∀ x ∈ l, x.ok w :=
  open_rowOf Qv.cells 6 (by decide) Qv.cells_len Tryz.underlying24 (by kernel_rfl) (fun q => q.ok w) (fun _ _ _ h => trod_query h) hf
theorem four_of {cs : List Value} (h : cs.length = 4) : ∃ a b c d, cs = [a, b, c, d] := by
  match cs, h with
  | [a, b, c, d], _ => exact ⟨a, b, c, d, rfl⟩
set_option maxRecDepth 100000 in
theorem open_pol {r : Reach} {b0 : Nat} {v : Value} {d : DataW H} {ps : List MemPlace} (hval : Value.okWide Tryz.prog w r b0 26 v) (hd : DataW.Trod enc Tryz.prog w base (fun _ => true) held 26 v d ps) :
    ∃ v0 v1 v2 v3 l g h qs, v = pv v0 v1 v2 v3 ∧ PolAt w v0 v1 v2 v3 l g h qs := by
  obtain ⟨cs, rfl, _⟩ := okWide_struct Tryz.underlying26 hval
  obtain ⟨fuel, hf⟩ := hd
  obtain ⟨xs, n, _, _, hl, hlen, hf'⟩ := DataW.trod_struct Tryz.underlying26 hf
  have hc : Tryz.prog.cellsOf 26 = 4 := by kernel_rfl
  have h0 : Tryz.prog.cellsOf 22 = 1 := by kernel_rfl
  have h1 : Tryz.prog.cellsOf 23 = 1 := by kernel_rfl
  have h2 : Tryz.prog.cellsOf 24 = 1 := by kernel_rfl
  rw [hc] at hl
  obtain ⟨c0, c1, c2, c3, hcs⟩ := four_of hl
  rw [hcs] at hf'
  have f0 : DataW.trod enc Tryz.prog w base (fun _ => true) held n 22 [c0] = xs[0]? := by simpa [h0] using hf' 0 _ rfl
  have f1 : DataW.trod enc Tryz.prog w base (fun _ => true) held n 23 [c1] = xs[1]? := by simpa [h1] using hf' 1 _ rfl
  have f2 : DataW.trod enc Tryz.prog w base (fun _ => true) held n 23 [c2] = xs[2]? := by simpa [h1] using hf' 2 _ rfl
  have f3 : DataW.trod enc Tryz.prog w base (fun _ => true) held n 24 [c3] = xs[3]? := by simpa [h2] using hf' 3 _ rfl
  match xs, hlen with
  | [y0, y1, y2, y3], _ =>
    simp only [List.getElem?_cons_zero, List.getElem?_cons_succ] at f0 f1 f2 f3
    obtain ⟨l, s0, l0⟩ := open_stsC f0
    obtain ⟨g, s1, l1⟩ := open_rls f1
    obtain ⟨h, s2, l2⟩ := open_rls f2
    obtain ⟨qs, s3, l3⟩ := open_qs f3
    refine ⟨c0, c1, c2, c3, l, g, h, qs, ?_, ⟨s0, s1, s2, s3, l0, l1, l2, l3⟩⟩
    obtain ⟨cl⟩ := cs
    simp only [Value.cells] at hcs
    have : cl = [c0, c1, c2, c3] := by simpa using hcs
    rw [this]
end
end Go.Proofs.YtnhkgfgbhedphaaGreatDoor
