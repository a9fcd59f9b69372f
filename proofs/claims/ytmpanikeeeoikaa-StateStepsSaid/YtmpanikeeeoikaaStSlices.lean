/- Functions of package slices at rows of statements: Index, Contains, Equal. -/
import Derived.Test.YtmpanikeeeoikaaRefRows
namespace Go.Proofs.Ytmpanikeeeoikaa
open Go.RowKit Go.Shelf

theorem eqSt_comm (s t : St) : eqSt s t = eqSt t s := by
  unfold eqSt; rw [Bool.eq_iff_iff, decide_eq_true_iff, decide_eq_true_iff]; exact eq_comm
set_option maxRecDepth 100000 in
set_option maxHeartbeats 2000000 in
theorem st_Index (va : Value) (l : List St) (s : St) (w : World) (ha : SlA w 9 va l.length (l.flatMap St.cells)) :
    Calls Try.prog 66 #[va, sv s] w fun e w' => (∃ i : Int, e = .returned (.int .i64 i) ∧ decide (0 ≤ i) = hasS l s) ∧ Below w.heap.size w w' := by
  have hmax := ha.max
  have hEq := stmt_eql'
  by_cases h0 : 0 < l.length
  · obtain ⟨b1, o1, c1, rfl, hc1, hm1, hb1, hx1⟩ := ha.pos h0
    have HX1 := Lib.hid hx1
    have HS := Lib.hid (fun k (hl : k < l.length) (e : l[k] = s) => has_yes hl e)
    have HE := Lib.hid (fun k (hk : ¬ k < l.length) h => has_end (l := l) (s := s) (k := k) hk h)
    have HD := Lib.hid (fun k (hl : k < l.length) => show (eqSt s l[k] = true ↔ l[k] = s) from by rw [eqSt_comm]; exact decide_eq_true_iff)
    generalize hasS l s = res at HS HE ⊢
    clear ha hx1
    obtain ⟨ks, ⟨h1, h2⟩, who, ⟨a1, a2⟩, ⟨b1', b2'⟩, via⟩ := s
    go_enter Try.func66, Try.ntmps66
    go_wp2
    go_loopw [8] (fun i wr => ∃ k n : Nat, k ≤ l.length ∧ i = .int .i64 k ∧ wr = (w.alloc (.cells #[.int .i64 ks, .string h1, .string h2, .string who, .string a1, .string a2, .string b1', .string b2', .string via] 30)).drewN n ∧ Hid (∀ j (hj : j < l.length), j < k → ¬ l[j] = ⟨ks, ⟨h1, h2⟩, who, ⟨a1, a2⟩, ⟨b1', b2'⟩, via⟩)) (fun i _ => l.length - (intOf i).toNat)
    case atStart => exact ⟨0, 0, by omega, rfl, rfl, Lib.hid (fun _ _ h => absurd h (by omega))⟩
    case round =>
      obtain ⟨k, n, hk, rfl, rfl, HT⟩ := hrel
      by_cases hlt : k < l.length
      · obtain ⟨p0, p1, p2, p3, p4, p5, p6, p7, p8⟩ := st_cell (w := w) HX1.out k hlt
        have hD := HD.out k hlt
        cases he : eqSt ⟨ks, ⟨h1, h2⟩, who, ⟨a1, a2⟩, ⟨b1', b2'⟩, via⟩ l[k] with
        | true =>
          have R := Lib.hid (HS.out k hlt (hD.1 he))
          change eqSt _ ⟨l[k].k, ⟨l[k].h.o, l[k].h.n⟩, l[k].who, ⟨l[k].a.o, l[k].a.n⟩, ⟨l[k].b.o, l[k].b.n⟩, l[k].via⟩ = true at he
          clear hD
          go_wp2_with fail
          go_big_quiet (fail)
          go_wp2
          go_ret
          exact ⟨⟨(k : Int), rfl, by rw [R.out, decide_eq_true_iff]; omega⟩, below_drewN (below_drewN ((Below.refl _ _).alloc (Nat.le_refl _) _) _) _⟩
        | false =>
          have HN : Hid (∀ j (hj : j < l.length), j < k + 1 → ¬ l[j] = ⟨ks, ⟨h1, h2⟩, who, ⟨a1, a2⟩, ⟨b1', b2'⟩, via⟩) := Lib.hid (fun j hj hjk => by
            by_cases hjk' : j < k
            · exact HT.out j hj hjk'
            · obtain rfl : j = k := by omega
              intro e; rw [hD.2 e] at he; cases he)
          change eqSt _ ⟨l[k].k, ⟨l[k].h.o, l[k].h.n⟩, l[k].who, ⟨l[k].a.o, l[k].a.n⟩, ⟨l[k].b.o, l[k].b.n⟩, l[k].via⟩ = false at he
          clear hD
          go_wp2_with fail
          go_big_quiet (fail)
          go_wp2
          exact ⟨⟨k + 1, n + nq, by omega, by go_num, rfl, HN⟩, by simp [intOf]; omega⟩
      · have R := Lib.hid (HE.out k hlt HT.out)
        go_wp2
        go_ret
        exact ⟨⟨-1, rfl, by rw [R.out]; rfl⟩, below_drewN ((Below.refl _ _).alloc (Nat.le_refl _) _) _⟩
  · obtain ⟨a1, c1, rfl⟩ := ha.form
    obtain rfl : l = [] := List.eq_nil_of_length_eq_zero (by omega)
    clear ha h0 hmax
    obtain ⟨ks, ⟨h1, h2⟩, who, ⟨a1', a2'⟩, ⟨b1', b2'⟩, via⟩ := s
    go_enter Try.func66, Try.ntmps66
    go_wp2
    go_loopw [8] (fun i wr => i = .int .i64 0 ∧ Below w.heap.size w wr) (fun _ _ => 0)
    case atStart => exact ⟨rfl, (Below.refl _ _).alloc (Nat.le_refl _) _⟩
    case round =>
      obtain ⟨rfl, hbw⟩ := hrel
      go_wp2
      go_ret
      exact ⟨⟨-1, rfl, rfl⟩, hbw⟩

set_option maxHeartbeats 1000000 in
theorem st_Contains (va : Value) (l : List St) (s : St) (w : World) (ha : SlA w 9 va l.length (l.flatMap St.cells)) :
    Calls Try.prog 42 #[va, sv s] w fun e w' => e = .returned (.bool (hasS l s)) ∧ Below w.heap.size w w' := by
  have I := Lib.hid (fun W h => st_Index va l s W h)
  have HA := Lib.hid ha
  generalize hasS l s = res at I ⊢
  obtain ⟨ks, ⟨h1, h2⟩, who, ⟨a1, a2⟩, ⟨b1', b2'⟩, via⟩ := s
  clear ha
  go_enter Try.func42, Try.ntmps42
  go_wp2_with fail
  refine (I.out _ (HA.out.below ((Below.refl _ _).alloc (Nat.le_refl _) _))).mono ?_
  rintro e w1 ⟨⟨i, rfl, hi⟩, hb⟩
  have HI := Lib.hid hi
  have HB := Lib.hid (((Below.refl _ w).alloc (Nat.le_refl _) _).trans (hb.mono (by simp)) : Below w.heap.size w w1)
  clear hi hb
  go_wp2
  go_ret
  exact ⟨ret_b HI.out, HB.out⟩

set_option maxRecDepth 100000 in
set_option maxHeartbeats 2000000 in
theorem st_Equal (va vb : Value) (l m : List St) (w : World) (ha : SlA w 9 va l.length (l.flatMap St.cells)) (hb : SlA w 9 vb m.length (m.flatMap St.cells)) :
    Calls Try.prog 39 #[va, vb] w fun e w' => e = .returned (.bool (decide (l = m))) ∧ ∃ n, w' = w.drewN n := by
  have hmax := ha.max
  have hmax2 := hb.max
  by_cases hl : l.length = m.length
  case neg =>
    have R := Lib.hid (same_len hl)
    have d : ((l.length : Int) != (m.length : Int)) = true := by rw [bne_iff_ne]; omega
    obtain ⟨a1, c1, rfl⟩ := ha.form
    obtain ⟨a2, c2, rfl⟩ := hb.form
    clear ha hb hl
    go_enter Try.func39, Try.ntmps39
    go_wp2
    go_ret
    exact ⟨ret_b R.out.symm, 0, rfl⟩
  have hNe := stmt_neq'
  have hne : ((l.length : Int) != (m.length : Int)) = false := by rw [hl]; simp
  by_cases h0 : 0 < l.length
  · obtain ⟨b1, o1, c1, rfl, hc1, hm1, _, hx1⟩ := ha.pos h0
    obtain ⟨b2, o2, c2, rfl, hc2, hm2, _, hx2⟩ := hb.pos (by omega)
    have HX1 := Lib.hid hx1
    have HX2 := Lib.hid hx2
    have HL := Lib.hid hl
    clear ha hb hx1 hx2 hl
    go_enter Try.func39, Try.ntmps39
    go_wp2
    go_loopw [13] (fun i wr => ∃ k n : Nat, k ≤ l.length ∧ i = .int .i64 k ∧ wr = w.drewN n ∧ Hid (l.take k = m.take k)) (fun i _ => l.length - (intOf i).toNat)
    case atStart => exact ⟨0, 0, by omega, rfl, rfl, Lib.hid (by simp)⟩
    case round =>
      obtain ⟨k, n, hk, rfl, rfl, HT⟩ := hrel
      by_cases hlt : k < l.length
      · have hlt2 : k < m.length := by have := HL.out; omega
        obtain ⟨p0, p1, p2, p3, p4, p5, p6, p7, p8⟩ := st_cell HX1.out k hlt
        obtain ⟨q0, q1, q2, q3, q4, q5, q6, q7, q8⟩ := st_cell HX2.out k hlt2
        by_cases he : l[k] = m[k]
        · have HN := Lib.hid (take_more HT.out hlt hlt2 he)
          have d1 : (!eqSt ⟨l[k].k, ⟨l[k].h.o, l[k].h.n⟩, l[k].who, ⟨l[k].a.o, l[k].a.n⟩, ⟨l[k].b.o, l[k].b.n⟩, l[k].via⟩ ⟨m[k].k, ⟨m[k].h.o, m[k].h.n⟩, m[k].who, ⟨m[k].a.o, m[k].a.n⟩, ⟨m[k].b.o, m[k].b.n⟩, m[k].via⟩) = false := by
            have := congrArg (!·) (decide_eq_true he); exact this
          clear he
          go_wp2_with fail
          go_big_quiet (fail)
          go_wp2
          exact ⟨⟨k + 1, n + nq, by omega, by go_num, rfl, HN⟩, by simp [intOf]; omega⟩
        · have R := Lib.hid (same_no hlt hlt2 he)
          have d1 : (!eqSt ⟨l[k].k, ⟨l[k].h.o, l[k].h.n⟩, l[k].who, ⟨l[k].a.o, l[k].a.n⟩, ⟨l[k].b.o, l[k].b.n⟩, l[k].via⟩ ⟨m[k].k, ⟨m[k].h.o, m[k].h.n⟩, m[k].who, ⟨m[k].a.o, m[k].a.n⟩, ⟨m[k].b.o, m[k].b.n⟩, m[k].via⟩) = true := by
            have := congrArg (!·) (decide_eq_false he); exact this
          clear he
          go_wp2_with fail
          go_big_quiet (fail)
          go_wp2
          go_ret
          exact ⟨ret_b R.out.symm, n + nq, by simp [World.drewN, Nat.add_assoc]⟩
      · have R := Lib.hid (same_end HT.out hlt (by have := HL.out; omega))
        go_wp2
        go_ret
        exact ⟨ret_b R.out.symm, n, rfl⟩
  · have R := Lib.hid (same_end (l := l) (m := m) (k := 0) (by simp) h0 (by omega))
    obtain ⟨a1, c1, rfl⟩ := ha.form
    obtain ⟨a2, c2, rfl⟩ := hb.form
    have d0 : l.length = 0 := by omega
    have d02 : m.length = 0 := by omega
    clear ha hb h0 hmax hl hmax2
    go_enter Try.func39, Try.ntmps39
    go_wp2
    go_loopw [13] (fun i wr => i = .int .i64 0 ∧ wr = w) (fun _ _ => 0)
    case atStart => exact ⟨rfl, rfl⟩
    case round =>
      obtain ⟨rfl, rfl⟩ := hrel
      go_wp2
      go_ret
      exact ⟨ret_b R.out.symm, 0, rfl⟩
end Go.Proofs.Ytmpanikeeeoikaa
