/- Rows of roles: whether one is among them. -/
import Derived.Test.YtmpanikeeeoikaaRefRows
import Derived.Test.YtmpanikeeeoikaaSynMore2
namespace Go.Proofs.Ytmpanikeeeoikaa
open Go.RowKit Go.Shelf

def hasR (l : List Rl) (s : Rl) : Bool := l.any (fun x => eqRl x s)
theorem hasR_yes {l : List Rl} {s : Rl} {k : Nat} (hl : k < l.length) (e : l[k] = s) : hasR l s = true := by
  unfold hasR; rw [List.any_eq_true]; exact ⟨l[k], List.getElem_mem hl, by simp [eqRl, e]⟩
theorem hasR_end {l : List Rl} {s : Rl} {k : Nat} (hk : ¬ k < l.length) (h : ∀ j (hj : j < l.length), j < k → ¬ l[j] = s) : hasR l s = false := by
  unfold hasR; rw [List.any_eq_false]
  intro x hx
  obtain ⟨j, hj, rfl⟩ := List.getElem_of_mem hx
  simp [eqRl, h j hj (by omega)]
theorem eqRl_comm (s t : Rl) : eqRl s t = eqRl t s := by
  unfold eqRl; rw [Bool.eq_iff_iff, decide_eq_true_iff, decide_eq_true_iff]; exact eq_comm
set_option maxRecDepth 100000 in
set_option maxHeartbeats 2000000 in
theorem rl_Index (va : Value) (l : List Rl) (s : Rl) (w : World) (ha : SlA w 2 va l.length (l.flatMap Rl.cells)) :
    Calls Try.prog 77 #[va, rv s] w fun e w' => (∃ i : Int, e = .returned (.int .i64 i) ∧ decide (0 ≤ i) = hasR l s) ∧ Below w.heap.size w w' := by
  have hmax := ha.max
  have hEq := role_eql
  by_cases h0 : 0 < l.length
  · obtain ⟨b1, o1, c1, rfl, hc1, hm1, hb1, hx1⟩ := ha.pos h0
    have HX1 := Lib.hid hx1
    have HS := Lib.hid (fun k (hl : k < l.length) (e : l[k] = s) => hasR_yes hl e)
    have HE := Lib.hid (fun k (hk : ¬ k < l.length) h => hasR_end (l := l) (s := s) (k := k) hk h)
    have HD := Lib.hid (fun k (hl : k < l.length) => show (eqRl s l[k] = true ↔ l[k] = s) from by rw [eqRl_comm]; exact decide_eq_true_iff)
    generalize hasR l s = res at HS HE ⊢
    clear ha hx1
    obtain ⟨h1, h2⟩ := s
    go_enter Try.func77, Try.ntmps77
    go_wp2
    go_loopw [8] (fun i wr => ∃ k n : Nat, k ≤ l.length ∧ i = .int .i64 k ∧ wr = (w.alloc (.cells #[.string h1, .string h2] 28)).drewN n ∧ Hid (∀ j (hj : j < l.length), j < k → ¬ l[j] = ⟨h1, h2⟩)) (fun i _ => l.length - (intOf i).toNat)
    case atStart => exact ⟨0, 0, by omega, rfl, rfl, Lib.hid (fun _ _ h => absurd h (by omega))⟩
    case round =>
      obtain ⟨k, n, hk, rfl, rfl, HT⟩ := hrel
      by_cases hlt : k < l.length
      · obtain ⟨p0, p1⟩ := rl_cell (w := w) HX1.out k hlt
        have hD := HD.out k hlt
        cases he : eqRl ⟨h1, h2⟩ l[k] with
        | true =>
          have R := Lib.hid (HS.out k hlt (hD.1 he))
          change eqRl _ ⟨l[k].o, l[k].n⟩ = true at he
          clear hD
          go_wp2_with fail
          go_big_quiet (fail)
          go_wp2
          go_ret
          exact ⟨⟨(k : Int), rfl, by rw [R.out, decide_eq_true_iff]; omega⟩, below_drewN (below_drewN ((Below.refl _ _).alloc (Nat.le_refl _) _) _) _⟩
        | false =>
          have HN : Hid (∀ j (hj : j < l.length), j < k + 1 → ¬ l[j] = ⟨h1, h2⟩) := Lib.hid (fun j hj hjk => by
            by_cases hjk' : j < k
            · exact HT.out j hj hjk'
            · obtain rfl : j = k := by omega
              intro e; rw [hD.2 e] at he; cases he)
          change eqRl _ ⟨l[k].o, l[k].n⟩ = false at he
          clear hD
          go_wp2_with fail
          go_big_quiet (fail)
          go_wp2
          exact ⟨⟨k + 1, n + nq, by omega, by go_num, rfl, HN⟩, by simp [intOf]; omega⟩
      · have R := Lib.hid (HE.out k hlt HT.out)
        go_wp2
        go_ret
        exact ⟨⟨-1, rfl, by rw [R.out]; rfl⟩, below_drewN ((Below.refl _ _).alloc (Nat.le_refl _) _) _⟩
  · obtain ⟨a1, c1, rfl⟩ := ha.form
    obtain rfl : l = [] := List.eq_nil_of_length_eq_zero (by omega)
    clear ha h0 hmax
    obtain ⟨h1, h2⟩ := s
    go_enter Try.func77, Try.ntmps77
    go_wp2
    go_loopw [8] (fun i wr => i = .int .i64 0 ∧ Below w.heap.size w wr) (fun _ _ => 0)
    case atStart => exact ⟨rfl, (Below.refl _ _).alloc (Nat.le_refl _) _⟩
    case round =>
      obtain ⟨rfl, hbw⟩ := hrel
      go_wp2
      go_ret
      exact ⟨⟨-1, rfl, rfl⟩, hbw⟩

set_option maxHeartbeats 1000000 in
theorem rl_Contains (va : Value) (l : List Rl) (s : Rl) (w : World) (ha : SlA w 2 va l.length (l.flatMap Rl.cells)) :
    Calls Try.prog 60 #[va, rv s] w fun e w' => e = .returned (.bool (hasR l s)) ∧ Below w.heap.size w w' := by
  have I := Lib.hid (fun W h => rl_Index va l s W h)
  have HA := Lib.hid ha
  generalize hasR l s = res at I ⊢
  obtain ⟨h1, h2⟩ := s
  clear ha
  go_enter Try.func60, Try.ntmps60
  go_wp2_with fail
  refine (I.out _ (HA.out.below ((Below.refl _ _).alloc (Nat.le_refl _) _))).mono ?_
  rintro e w1 ⟨⟨i, rfl, hi⟩, hb⟩
  have HI := Lib.hid hi
  have HB := Lib.hid (((Below.refl _ w).alloc (Nat.le_refl _) _).trans (hb.mono (by simp)) : Below w.heap.size w w1)
  clear hi hb
  go_wp2
  go_ret
  exact ⟨ret_b HI.out, HB.out⟩

set_option maxRecDepth 100000 in
set_option maxHeartbeats 2000000 in
theorem ref5_Has (va : Value) (l : List Rl) (s : Rl) (w : World) (ha : SlA w 2 va l.length (l.flatMap Rl.cells)) :
    Calls Try.prog 20 #[va, rv s] w fun e w' => e = .returned (.bool (hasR l s)) ∧ Below w.heap.size w w' := by
  have hmax := ha.max
  have hEq := role_eql
  by_cases h0 : 0 < l.length
  · obtain ⟨b1, o1, c1, rfl, hc1, hm1, hb1, hx1⟩ := ha.pos h0
    have HX1 := Lib.hid hx1
    have HS := Lib.hid (fun k (hl : k < l.length) (e : l[k] = s) => hasR_yes hl e)
    have HE := Lib.hid (fun k (hk : ¬ k < l.length) h => hasR_end (l := l) (s := s) (k := k) hk h)
    have HD := Lib.hid (fun k (hl : k < l.length) => show (eqRl l[k] s = true ↔ l[k] = s) from decide_eq_true_iff)
    generalize hasR l s = res at HS HE ⊢
    clear ha hx1
    obtain ⟨h1, h2⟩ := s
    go_enter Try.func20, Try.ntmps20
    go_wp2
    go_loopw [9] (fun i wr => ∃ k : Nat, k ≤ l.length ∧ i = .int .i64 k ∧ Below w.heap.size w wr ∧ Blk wr w.heap.size #[.string h1, .string h2] ∧ Hid (∀ j (hj : j < l.length), j < k → ¬ l[j] = ⟨h1, h2⟩)) (fun i _ => l.length - (intOf i).toNat)
    case atStart => exact ⟨0, by omega, rfl, (Below.refl _ _).alloc (Nat.le_refl _) _, Blk.new _ _ _, Lib.hid (fun _ _ h => absurd h (by omega))⟩
    case round =>
      obtain ⟨k, hk, rfl, hbw, hblk, HT⟩ := hrel
      have HBW := Lib.hid hbw
      have HBK := Lib.hid hblk
      have hz := hbw.size
      obtain ⟨cs, fs, zs⟩ := hblk
      by_cases hlt : k < l.length
      · obtain ⟨p0, p1⟩ := rl_cell (w := wr) (fun j u hu => (hbw.cell (p := ⟨b1, o1 + j, none⟩) hb1).trans (HX1.out j u hu)) k hlt
        have hb1' : b1 < wr.heap.size := Nat.lt_of_lt_of_le hb1 hz
        have hD := HD.out k hlt
        clear hbw
        cases he : eqRl l[k] ⟨h1, h2⟩ with
        | true =>
          have R := Lib.hid (HS.out k hlt (hD.1 he))
          change eqRl ⟨l[k].o, l[k].n⟩ _ = true at he
          clear hD
          go_wp2
          go_ret
          exact ⟨ret_b R.out.symm, HBW.out.alloc HBW.out.size _⟩
        | false =>
          have HN : Hid (∀ j (hj : j < l.length), j < k + 1 → ¬ l[j] = ⟨h1, h2⟩) := Lib.hid (fun j hj hjk => by
            by_cases hjk' : j < k
            · exact HT.out j hj hjk'
            · obtain rfl : j = k := by omega
              intro e; rw [hD.2 e] at he; cases he)
          change eqRl ⟨l[k].o, l[k].n⟩ _ = false at he
          clear hD
          go_wp2
          exact ⟨⟨k + 1, by omega, by go_num, HBW.out.alloc HBW.out.size _, HBK.out.alloc _, HN⟩, by simp [intOf]; omega⟩
      · have R := Lib.hid (HE.out k hlt HT.out)
        clear hbw
        go_wp2
        go_ret
        exact ⟨ret_b R.out.symm, HBW.out⟩
  · obtain ⟨a1, c1, rfl⟩ := ha.form
    obtain rfl : l = [] := List.eq_nil_of_length_eq_zero (by omega)
    clear ha h0 hmax
    obtain ⟨h1, h2⟩ := s
    go_enter Try.func20, Try.ntmps20
    go_wp2
    go_loopw [9] (fun i wr => i = .int .i64 0 ∧ Below w.heap.size w wr) (fun _ _ => 0)
    case atStart => exact ⟨rfl, (Below.refl _ _).alloc (Nat.le_refl _) _⟩
    case round =>
      obtain ⟨rfl, hbw⟩ := hrel
      go_wp2
      go_ret
      exact ⟨rfl, hbw⟩

set_option maxHeartbeats 1000000 in
theorem policy_Has (va : Value) (l : List Rl) (s : Rl) (w : World) (ha : SlA w 2 va l.length (l.flatMap Rl.cells)) :
    Calls Try.prog 36 #[va, rv s] w fun e w' => e = .returned (.bool (hasR l s)) ∧ Below w.heap.size w w' := by
  have I := Lib.hid (fun W h => rl_Contains va l s W h)
  have HA := Lib.hid ha
  generalize hasR l s = res at I ⊢
  obtain ⟨h1, h2⟩ := s
  clear ha
  go_enter Try.func36, Try.ntmps36
  go_wp2_with fail
  refine (I.out _ (HA.out.below ((Below.refl _ _).alloc (Nat.le_refl _) _))).mono ?_
  rintro e w1 ⟨rfl, hb⟩
  have HB := Lib.hid (((Below.refl _ w).alloc (Nat.le_refl _) _).trans (hb.mono (by simp)) : Below w.heap.size w w1)
  clear hb
  go_wp2
  go_ret
  exact ⟨rfl, HB.out⟩
end Go.Proofs.Ytmpanikeeeoikaa
