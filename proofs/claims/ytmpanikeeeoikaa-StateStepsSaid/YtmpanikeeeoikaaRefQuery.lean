/- crupperref04.Right: some bool comes back. -/
import Derived.Test.YtmpanikeeeoikaaRefFits
namespace Go.Proofs.Ytmpanikeeeoikaa
open Go.RowKit Go.Shelf

set_option maxHeartbeats 400000 in
theorem ref3_IsRoleM (r : Rl) (w : World) (hs : r.le 9223372036854775807) :
    Calls Try.prog 44 #[rv r] w fun e w' => e = .returned (.bool (isRole r)) ∧ Below w.heap.size w w' := by
  obtain ⟨o, n⟩ := r
  obtain ⟨h1, h2⟩ := hs
  have H1 := Lib.hid (fun W => ref1_IsPrin o W h1)
  have H2 := Lib.hid (fun W => ref1_IsName n W h2)
  clear h1 h2
  have E := Lib.hid (show isRole ⟨o, n⟩ = (isP 65 90 (bl o) && isP 97 122 (bl n)) from rfl)
  cases hp : isP 65 90 (bl o)
  all_goals
    rw [hp] at E
    go_enter Try.func44, Try.ntmps44
    go_wp2_with (first | (go_at_call 45; refine (H1.out _).mono ?_; rintro e w' ⟨rfl, rfl⟩) | (go_at_call 46; refine (H2.out _).mono ?_; rintro e w' ⟨rfl, rfl⟩))
    go_ret
    exact ⟨ret_b (by rw [E.out]; rfl), (Below.refl _ _).alloc (Nat.le_refl _) _⟩

set_option maxRecDepth 100000 in
set_option maxHeartbeats 8000000 in
theorem ref4_Right (q : Qv) (w : World) (hq : q.ok w) : Calls Try.prog 50 #[qv q] w fun e w' => AnyB e ∧ Below w.heap.size w w' := by
  obtain ⟨hla, hlb, us, hu1, hu3⟩ := hq
  obtain ⟨xk, ⟨x1, x2⟩, ⟨x3, x4⟩, wv⟩ := q
  have HU := Lib.hid hu1
  have HUZ := Lib.hid hu3
  have hmax := hu1.max
  have IA := Lib.hid (fun W => ref3_IsRoleM ⟨x1, x2⟩ W hla)
  have IB := Lib.hid (fun W => ref3_IsRoleM ⟨x3, x4⟩ W hlb)
  generalize isRole ⟨x1, x2⟩ = ra at IA
  generalize isRole ⟨x3, x4⟩ = rb at IB
  obtain ⟨wo, wc, rfl⟩ := hu1.form
  have HT := Lib.hid (show OneAt w #[.int .i64 xk, .string x1, .string x2, .string x3, .string x4, .slice wo us.length wc] (w.alloc (.cells #[.int .i64 xk, .string x1, .string x2, .string x3, .string x4, .slice wo us.length wc] 51)) from ⟨Blk.new w _ _, (Below.refl _ _).alloc (Nat.le_refl _) _⟩)
  clear hla hlb hu1 hu3
  go_enter Try.func50, Try.ntmps50
  by_cases k1 : xk < 1
  · have d1 : decide (xk < 1) = true := decide_eq_true k1
    clear k1
    go_wp2
    go_ret
    exact ⟨⟨false, rfl⟩, HT.out.low⟩
  have d1 : decide (xk < 1) = false := decide_eq_false k1
  by_cases k6 : 6 < xk
  · have d6 : decide (6 < xk) = true := decide_eq_true k6
    clear k1 k6
    go_wp2
    go_ret
    exact ⟨⟨false, rfl⟩, HT.out.low⟩
  have d6 : decide (6 < xk) = false := decide_eq_false k6
  clear k1 k6
  go_wp2_with fail
  refine (IA.out _).mono ?_
  rintro e w1 ⟨rfl, hb1⟩
  have HT := Lib.hid (HT.out.later hb1)
  clear hb1
  cases ra with
  | false =>
    go_wp2
    go_ret
    exact ⟨⟨false, rfl⟩, HT.out.low⟩
  | true =>
  obtain ⟨ca, fa, za⟩ := HT.out.a
  go_wp2_with fail
  clear ca fa za
  go_loopw [22] (fun i wr => ∃ k : Nat, k ≤ us.length ∧ i = .int .i64 k ∧ Hid (OneAt w #[.int .i64 xk, .string x1, .string x2, .string x3, .string x4, .slice wo us.length wc] wr)) (fun i _ => us.length - (intOf i).toNat)
  case atStart => exact ⟨0, by omega, rfl, HT⟩
  case round =>
    clear HT
    obtain ⟨k, hk, rfl, HT⟩ := hrel
    obtain ⟨ca, fa, za⟩ := HT.out.a
    by_cases hlt : k < us.length
    · obtain ⟨b1, o1, c1, he1, hc1, hm1, hb1, hx1⟩ := HU.out.pos (by omega)
      simp only [Value.slice.injEq, true_and] at he1
      obtain ⟨rfl, rfl⟩ := he1
      have p0 := (HT.out.low.cell (p := ⟨b1, o1 + k, none⟩) hb1).trans (hx1 k _ (strs_get hlt))
      have hbr : b1 < wr.heap.size := Nat.lt_of_lt_of_le hb1 HT.out.low.size
      have IP := Lib.hid (fun W => ref1_IsPrin us[k] W (HUZ.out _ (List.getElem_mem hlt)))
      generalize isP 65 90 (bl us[k]) = rp at IP
      cases rp with
      | false =>
        clear hx1
        go_wp2_with fail
        refine (IP.out _).mono ?_
        rintro e w2 ⟨rfl, rfl⟩
        go_wp2
        go_ret
        exact ⟨⟨false, rfl⟩, HT.out.low⟩
      | true =>
        by_cases hk0 : k = 0
        · have dk : decide (0 < k) = false := by (rw [decide_eq_false_iff_not]; omega)
          clear hx1 hk0
          go_wp2_with fail
          refine (IP.out _).mono ?_
          rintro e w2 ⟨rfl, rfl⟩
          go_wp2
          exact ⟨⟨k + 1, by omega, by go_num, HT⟩, by simp [intOf]; omega⟩
        · obtain ⟨m, hm⟩ : ∃ m, k = m + 1 := ⟨k - 1, by omega⟩
          have dk : decide (0 < k) = true := by (rw [decide_eq_true_iff]; omega)
          have hw1 : IntKind.i64.wrap ((k : Int) - 1) = (m : Int) := by rw [show (k : Int) - 1 = (m : Int) by omega]; exact Go.IntWalk.i64_in _ (by omega)
          have hml : m < us.length := by omega
          have hmi : (0 : Int) ≤ (m : Int) := by omega
          have q0 := (HT.out.low.cell (p := ⟨b1, o1 + m, none⟩) hb1).trans (hx1 m _ (strs_get hml))
          clear hx1 hk0 hm
          go_wp2_with fail
          refine (IP.out _).mono ?_
          rintro e w2 ⟨rfl, rfl⟩
          generalize us[k] = sk at *
          generalize us[m] = sm at *
          go_wp2_with fail
          · go_ret
            exact ⟨⟨false, rfl⟩, HT.out.low⟩
          · exact ⟨⟨k + 1, by omega, by go_num, HT⟩, by simp [intOf]; omega⟩
    · by_cases k5 : 5 ≤ xk
      · have d5 : decide (5 ≤ xk) = true := decide_eq_true k5
        clear k5
        go_wp2_with fail
        refine (IB.out _).mono ?_
        rintro e w2 ⟨rfl, hb2⟩
        have HT2 := Lib.hid (HT.out.later hb2)
        obtain ⟨ca, fa, za⟩ := HT2.out.a
        clear hb2
        cases rb with
        | false =>
          go_wp2
          go_ret
          exact ⟨⟨_, rfl⟩, HT2.out.low⟩
        | true =>
          go_wp2
          go_ret
          exact ⟨⟨_, rfl⟩, HT2.out.low⟩
      · have d5 : decide (5 ≤ xk) = false := decide_eq_false k5
        have hNe := role_neq
        clear k5
        go_wp2
        all_goals go_ret
        all_goals exact ⟨⟨_, rfl⟩, HT.out.low⟩
end Go.Proofs.Ytmpanikeeeoikaa
