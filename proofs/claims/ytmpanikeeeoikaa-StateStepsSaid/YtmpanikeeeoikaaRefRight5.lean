/- crupperref05.Right: some bool comes back; if it is true, all statements may be. -/
import Derived.Test.YtmpanikeeeoikaaRefQuery
import Derived.Test.YtmpanikeeeoikaaRlSort
import Derived.Test.YtmpanikeeeoikaaRlSame
import Derived.Test.YtmpanikeeeoikaaLaw10R
import Derived.Test.YtmpanikeeeoikaaRegSkip
namespace Go.Proofs.Ytmpanikeeeoikaa
open Go.RowKit Go.Shelf

/-- Some bool comes back; if it is true, all statements may be. -/
def RightB (l : List St) (e : Ending) : Prop := ∃ b, e = .returned (.bool b) ∧ (b = true → ∀ x ∈ l, rightS x = true)
theorem rightB_no {l : List St} : RightB l (.returned (.bool false)) := ⟨false, rfl, fun h => by cases h⟩
theorem sortR_row (va : Value) (l : List Rl) (w : World) (ha : SlA w 2 va l.length (l.flatMap Rl.cells)) (hl : l.length ≤ 1000) :
    Calls Try.prog 52 #[va] w fun e w' => ∃ v, e = .returned v ∧ Sl w' 2 v (insAllR [] l).length ((insAllR [] l).flatMap Rl.cells) ∧ Below w.heap.size w w' := ref5_Sort va l w ha hl

set_option maxRecDepth 100000 in
set_option maxHeartbeats 8000000 in
theorem ref5_Right (v0 v1 v2 v3 : Value) (l : List St) (g h : List Rl) (qs : List Qv) (w : World) (hp : PolAt w v0 v1 v2 v3 l g h qs) (hl : l.length ≤ 30) (hg : g.length ≤ 30) (hh : h.length ≤ 30) (hq : qs.length ≤ 30) (hl4 : allLe l 40) (hq40 : ∀ q ∈ qs, q.okN 40 w) :
    Calls Try.prog 30 #[pv v0 v1 v2 v3] w fun e w' => RightB l e ∧ Below w.heap.size w w' := by
  have HP := Lib.hid hp
  have FI := Lib.hid (fun W (hb : Below w.heap.size w W) => ref5_Fits v0 v1 v2 v3 l g h qs W (hp.below hb) (by omega) (by omega) (by omega) (by omega) (fun q hq => (hq40 q hq).below hb))
  have S3 := Lib.hid (fun W (hb : Below w.heap.size w W) => ref3_Sort v0 l W (hp.rs.below hb) (by omega))
  have SG := Lib.hid (fun W (hb : Below w.heap.size w W) => sortR_row v1 g W (hp.rg.below hb) (by omega))
  have SH := Lib.hid (fun W (hb : Below w.heap.size w W) => sortR_row v2 h W (hp.rh.below hb) (by omega))
  have RI := Lib.hid (fun k (hk : k < l.length) W => ref3_Right l[k] W ((hl4 _ (List.getElem_mem hk)).mono (by decide)))
  have RQ := Lib.hid (fun k (hk : k < qs.length) W (hb : Below w.heap.size w W) => ref4_Right qs[k] W ((hp.lq _ (List.getElem_mem hk)).below hb))
  obtain ⟨a0, c0, rfl⟩ := hp.rs.form
  obtain ⟨a1, c1, rfl⟩ := hp.rg.form
  obtain ⟨a2, c2, rfl⟩ := hp.rh.form
  obtain ⟨a3, c3, rfl⟩ := hp.rq.form
  have HT := Lib.hid (show OneAt w #[.slice a0 l.length c0, .slice a1 g.length c1, .slice a2 h.length c2, .slice a3 qs.length c3] (w.alloc (.cells #[.slice a0 l.length c0, .slice a1 g.length c1, .slice a2 h.length c2, .slice a3 qs.length c3] 26)) from ⟨Blk.new w _ _, (Below.refl _ _).alloc (Nat.le_refl _) _⟩)
  clear hp hq40 hl4
  go_enter Try.func30, Try.ntmps30
  go_wp2_with fail
  go_loopw [12] (fun i wr => ∃ k : Nat, k ≤ l.length ∧ i = .int .i64 k ∧ Hid (OneAt w #[.slice a0 l.length c0, .slice a1 g.length c1, .slice a2 h.length c2, .slice a3 qs.length c3] wr) ∧ Hid (∀ j (hj : j < l.length), j < k → rightS l[j] = true)) (fun i _ => l.length - (intOf i).toNat)
  case atStart => exact ⟨0, by omega, rfl, HT, Lib.hid (fun _ _ h => absurd h (by omega))⟩
  case round =>
    clear HT
    obtain ⟨k, hk, rfl, HT, HJ⟩ := hrel
    by_cases hlt : k < l.length
    · obtain ⟨b1, o1, e1, he1, hc1, hm1', hb1, hx1⟩ := HP.out.rs.pos (by omega)
      simp only [Value.slice.injEq, true_and] at he1
      obtain ⟨rfl, rfl⟩ := he1
      obtain ⟨p0, p1, p2, p3, p4, p5, p6, p7, p8⟩ := st_cell (w := wr) (fun j u hu => (HT.out.low.cell (p := ⟨b1, o1 + j, none⟩) hb1).trans (hx1 j u hu)) k hlt
      have hbr : b1 < wr.heap.size := Nat.lt_of_lt_of_le hb1 HT.out.low.size
      have RK := Lib.hid (fun W => RI.out k hlt W)
      have HJ2 : Hid (rightS l[k] = true → ∀ j (hj : j < l.length), j < k + 1 → rightS l[j] = true) := Lib.hid (fun hpk j hj hjk => by
        by_cases h : j < k
        · exact HJ.out j hj h
        · obtain rfl : j = k := by omega
          exact hpk)
      have hek : l[k] = ⟨l[k].k, ⟨l[k].h.o, l[k].h.n⟩, l[k].who, ⟨l[k].a.o, l[k].a.n⟩, ⟨l[k].b.o, l[k].b.n⟩, l[k].via⟩ := rfl
      clear hx1
      generalize rightS l[k] = rr at RK HJ2
      generalize l[k] = x at *
      obtain ⟨xk, ⟨x1, x2⟩, xw, ⟨x3, x4⟩, ⟨x5, x6⟩, xv⟩ := x
      clear hek
      have HT1 := Lib.hid (HT.out.alloc (.cells #[.int .i64 xk, .string x1, .string x2, .string xw, .string x3, .string x4, .string x5, .string x6, .string xv] 30))
      go_wp2_with fail
      refine (RK.out _).mono ?_
      rintro e w2 ⟨rfl, hb2⟩
      have HT2 := Lib.hid (HT1.out.later hb2)
      clear hb2
      cases rr with
      | false =>
        go_wp2
        go_ret
        exact ⟨rightB_no, HT2.out.low⟩
      | true =>
        have HJ3 := Lib.hid (HJ2.out rfl)
        go_wp2
        exact ⟨⟨k + 1, by omega, by go_num, HT2, HJ3⟩, by simp [intOf]; omega⟩
    · have HALL := Lib.hid (show ∀ x ∈ l, rightS x = true from fun x hx => by
        obtain ⟨j, hj, rfl⟩ := List.getElem_of_mem hx
        exact HJ.out j hj (by omega))
      clear HJ
      obtain ⟨inf, hi, hz0, hz1, hz2⟩ := info_parts rl_info'
      have HINF := Lib.hid hi
      have T2 := HT.out.drew
      have hown : (wr.drew.alloc (.cells #[] 28)).ownsRow wr.heap.size 28 2 (.slice (some ⟨wr.heap.size, 0, none⟩) 0 0) 0 [] := World.ownsRow_made wr.drew #[] 0 (Nat.le_refl _) (Nat.zero_le _) (by simp)
      have hlow : Below wr.heap.size wr (wr.drew.alloc (.cells #[] 28)) := (below_drew (Below.refl _ _)).alloc (Nat.le_refl _) _
      have T4 := HT.out.later hlow
      obtain ⟨ca, fa, za⟩ := HT.out.a
      have hza : w.heap.size < wr.heap.size := za
      clear hi fa za
      go_wp2_with fail
      go_region_held3 (fun W => ∀ o, W.cell? ⟨w.heap.size, o, none⟩ = (#[.slice a0 l.length c0, .slice a1 g.length c1, .slice a2 h.length c2, .slice a3 qs.length c3] : Array Value)[o]?)
        (first | exact T2.a.1 | exact T4.a.1 | exact T5.a.1 | exact T6.a.1 | go_keep)
        (first
          | (refine step_row rfl _ _ 23 rfl wr.heap.size 28 inf _ 2 32 Try.underlying23 HINF.out hz0 hz1 hz2 (Nat.le_of_ble_eq_true rfl) rfl (Nat.le_of_ble_eq_true rfl) _ 0 [] rfl hown _ g.length _ rfl (HP.out.rg.below T4.low) (rls_one _) ?_ hlow.size ?_; omega; intro a5 c5 w5 hown5 hg5; have hb5 := below_own hlow hown hg5 hlow.size (Nat.le_refl _); have T5 := HT.out.later hb5; obtain ⟨n5, hn5⟩ : ∃ n5, n5 = 0 + g.length := ⟨_, rfl⟩; rw [← hn5] at hown5 ⊢; have hn5m : n5 ≤ 30 := (by omega); have HN5 := Lib.hid hn5; clear hn5)
          | (refine step_row rfl _ _ 23 rfl wr.heap.size 28 inf _ 2 32 Try.underlying23 HINF.out hz0 hz1 hz2 (Nat.le_of_ble_eq_true rfl) rfl (Nat.le_of_ble_eq_true rfl) _ n5 _ rfl hown5 _ h.length _ rfl (HP.out.rh.below T5.low) (rls_one _) ?_ hb5.size ?_; omega; intro a6 c6 w6 hown6 hg6; have hb6 := below_own hb5 hown5 hg6 hb5.size (Nat.le_refl _); have T6 := HT.out.later hb6; obtain ⟨n6, hn6⟩ : ∃ n6, n6 = n5 + h.length := ⟨_, rfl⟩; rw [← hn6] at hown6 ⊢; have HN6 := Lib.hid hn6; clear hn6))
      have HS6 := Lib.hid (show Sl w6 2 (.slice a6 n6 c6) n6 ((g ++ h).flatMap Rl.cells) by have := Sl.of_own hown6; rw [rl_flat]; simpa using this)
      have HLe := Lib.hid (show ∀ x ∈ g ++ h, x.le 9223372036854775807 from fun x hx => by
        rcases List.mem_append.1 hx with hx | hx
        · exact HP.out.lg x hx
        · exact HP.out.lh x hx)
      have HN := Lib.hid (show n6 = (g ++ h).length by rw [HN6.out, HN5.out, List.length_append]; omega)
      have HT6 := Lib.hid T6
      have hn6m : n6 ≤ 1000 := by have := HN6.out; omega
      clear hn5m
      generalize g ++ h = gh at HS6 HLe HN
      clear hown5 hown6 hg5 hg6 hb5 hb6 T2 T4 T5 T6 hlow hown ca hza HT HN6 HN5 hlt hk
      go_wp2_with fail
      go_loopw [28] (fun i wr => ∃ k : Nat, k ≤ n6 ∧ i = .int .i64 k ∧ Hid (OneAt w #[.slice a0 l.length c0, .slice a1 g.length c1, .slice a2 h.length c2, .slice a3 qs.length c3] wr) ∧ Hid (Below w6.heap.size w6 wr)) (fun i _ => n6 - (intOf i).toNat)
      case atStart => exact ⟨0, by omega, rfl, HT6, Lib.hid (Below.refl _ _)⟩
      case round =>
        clear HT6
        obtain ⟨k, hk, rfl, HT, HB⟩ := hrel
        by_cases hlt : k < n6
        · obtain ⟨b1, o1, e1, he1, hc1, hm1', hb1, hx1⟩ := HS6.out.pos (by omega)
          simp only [Value.slice.injEq, true_and] at he1
          obtain ⟨rfl, rfl⟩ := he1
          have hlt2 : k < gh.length := by have := HN.out; omega
          obtain ⟨p0, p1⟩ := rl_cell (w := wr) (fun j u hu => (HB.out.cell (p := ⟨b1, o1 + j, none⟩) hb1).trans (hx1 j u hu)) k hlt2
          have hbr : b1 < wr.heap.size := Nat.lt_of_lt_of_le hb1 HB.out.size
          have IR := Lib.hid (fun W => ref3_IsRoleM gh[k] W (HLe.out _ (List.getElem_mem hlt2)))
          clear hx1
          generalize isRole gh[k] = ri at IR
          generalize gh[k] = x at *
          obtain ⟨x1, x2⟩ := x
          have HT2 := Lib.hid (HT.out.alloc (.cells #[.string x1, .string x2] 28))
          have HB2 := Lib.hid (HB.out.alloc HB.out.size (.cells #[.string x1, .string x2] 28))
          go_wp2_with fail
          refine (IR.out _).mono ?_
          rintro e w7 ⟨rfl, hb7⟩
          have HT3 := Lib.hid (HT2.out.later hb7)
          have HB3 := Lib.hid (HB2.out.trans (hb7.mono HB2.out.size))
          clear hb7
          cases ri with
          | false =>
            go_wp2
            go_ret
            exact ⟨rightB_no, HT3.out.low⟩
          | true =>
            go_wp2
            exact ⟨⟨k + 1, by omega, by go_num, HT3, HB3⟩, by simp [intOf]; omega⟩
        · obtain ⟨ca, fa, za⟩ := HT.out.a
          clear HS6 HLe HN HB
          go_wp2_with fail
          clear ca fa za
          go_loopw [39] (fun i wr => ∃ k : Nat, k ≤ qs.length ∧ i = .int .i64 k ∧ Hid (OneAt w #[.slice a0 l.length c0, .slice a1 g.length c1, .slice a2 h.length c2, .slice a3 qs.length c3] wr)) (fun i _ => qs.length - (intOf i).toNat)
          case atStart => exact ⟨0, by omega, rfl, HT⟩
          case round =>
            clear HT
            obtain ⟨k, hk, rfl, HT⟩ := hrel
            by_cases hlt : k < qs.length
            · obtain ⟨b1, o1, e1, he1, hc1, hm1', hb1, hx1⟩ := HP.out.rq.pos (by omega)
              simp only [Value.slice.injEq, true_and] at he1
              obtain ⟨rfl, rfl⟩ := he1
              obtain ⟨p0, p1, p2, p3, p4, p5⟩ := q_cell (w := wr) (fun j u hu => (HT.out.low.cell (p := ⟨b1, o1 + j, none⟩) hb1).trans (hx1 j u hu)) k hlt
              have hbr : b1 < wr.heap.size := Nat.lt_of_lt_of_le hb1 HT.out.low.size
              have hqo := HP.out.lq _ (List.getElem_mem hlt)
              have QR := Lib.hid (fun W hb => RQ.out k hlt W hb)
              obtain ⟨wo, wc, hw5⟩ : ∃ a c, qs[k].w = .slice a ((hqo.2.2).choose).length c := ((hqo.2.2).choose_spec.1).form
              generalize (hqo.2.2).choose.length = nw at hw5
              clear hx1 hqo
              generalize qs[k] = x at *
              obtain ⟨xk, ⟨x1, x2⟩, ⟨x3, x4⟩, xw⟩ := x
              dsimp only at hw5
              subst hw5
              have HT1 := Lib.hid (HT.out.alloc (.cells #[.int .i64 xk, .string x1, .string x2, .string x3, .string x4, .slice wo nw wc] 51))
              go_wp2_with fail
              refine (QR.out _ HT1.out.low).mono ?_
              rintro e w7 ⟨⟨rq, rfl⟩, hb7⟩
              have HT3 := Lib.hid (HT1.out.later hb7)
              clear hb7
              cases rq with
              | false =>
                go_wp2
                go_ret
                exact ⟨rightB_no, HT3.out.low⟩
              | true =>
                go_wp2
                exact ⟨⟨k + 1, by omega, by go_num, HT3⟩, by simp [intOf]; omega⟩
            · have M1 := Lib.hid (fun v W (hb : Below w.heap.size w W) (hv : Sl W 9 v (insAll [] l).length ((insAll [] l).flatMap St.cells)) => ref3_SameB (.slice a0 l.length c0) v l (insAll [] l) W (HP.out.rs.below hb) hv.a)
              have M2 := Lib.hid (fun v W (hb : Below w.heap.size w W) (hv : Sl W 2 v (insAllR [] g).length ((insAllR [] g).flatMap Rl.cells)) => ref3_SameRolesE (.slice a1 g.length c1) v g (insAllR [] g) W (HP.out.rg.below hb) hv.a)
              have M3 := Lib.hid (fun v W (hb : Below w.heap.size w W) (hv : Sl W 2 v (insAllR [] h).length ((insAllR [] h).flatMap Rl.cells)) => ref3_SameRolesE (.slice a2 h.length c2) v h (insAllR [] h) W (HP.out.rh.below hb) hv.a)
              generalize decide (l = insAll [] l) = r1 at M1
              generalize decide (g = insAllR [] g) = r2 at M2
              generalize decide (h = insAllR [] h) = r3 at M3
              have HT := HT.out
              go_wp2_with fail
              refine wp_region_held_drew (S := (fun W => ∀ o, W.cell? ⟨w.heap.size, o, none⟩ = (#[.slice a0 l.length c0, .slice a1 g.length c1, .slice a2 h.length c2, .slice a3 qs.length c3] : Array Value)[o]?)) (by kernel_rfl) HT.drew.a.1 (fun hHeld => ?_)
              have HT := HT.drew
              (refine held_yes (v := ?_) 0 rfl (by kernel_rfl) (by kernel_rfl) (by kernel_rfl) (fun _ _ _ h => h) (by rfl) (by assumption) ?_ ?_; rotate_left; focus ((intro w hSw); (try dsimp only at hSw); go_simp; (try with_reducible rfl)); (try simp only [Act.put, List.setIfInBounds_toArray, List.set_cons_zero, List.set_cons_succ])); (refine held_yes (v := ?_) 1 rfl (by kernel_rfl) (by kernel_rfl) (by kernel_rfl) (fun _ _ _ h => h) (by rfl) (by assumption) ?_ ?_; rotate_left; focus ((intro w hSw); (try dsimp only at hSw); go_simp; (try with_reducible rfl)); (try simp only [Act.put, List.setIfInBounds_toArray, List.set_cons_zero, List.set_cons_succ])); (refine held_yes (v := ?_) 2 rfl (by kernel_rfl) (by kernel_rfl) (by kernel_rfl) (fun _ _ _ h => h) (by rfl) (by assumption) ?_ ?_; rotate_left; focus ((intro w hSw); (try dsimp only at hSw); go_simp; (try with_reducible rfl)); (try simp only [Act.put, List.setIfInBounds_toArray, List.set_cons_zero, List.set_cons_succ])); (refine held_yes (v := ?_) 3 rfl (by kernel_rfl) (by kernel_rfl) (by kernel_rfl) (fun _ _ _ h => h) (by rfl) (by assumption) ?_ ?_; rotate_left; focus ((intro w hSw); (try dsimp only at hSw); go_simp; (try with_reducible rfl)); (try simp only [Act.put, List.setIfInBounds_toArray, List.set_cons_zero, List.set_cons_succ]))
              (refine held_call 4 rfl (by kernel_rfl) (fun K hK => ?_); go_simp)
              go_at_call 25; refine (S3.out _ HT.low).mono ?_; rintro e wq ⟨y1, rfl, hy1, hbq⟩; have HT := HT.later hbq; have cq := HT.a.1; have HY1 := Lib.hid hy1
              (refine hK.out _ _ (HT.a.1) (fun hHeld => ?_); clear hK K; (try simp only [Act.put, List.setIfInBounds_toArray, List.set_cons_zero, List.set_cons_succ]))
              (refine held_call 5 rfl (by kernel_rfl) (fun K hK => ?_); go_simp)
              go_at_call 13; refine (M1.out _ _ HT.low HY1.out).mono ?_; rintro e wq ⟨rfl, hbq⟩; have HT := HT.later hbq; have cq := HT.a.1
              (refine hK.out _ _ (HT.a.1) (fun hHeld => ?_); clear hK K; (try simp only [Act.put, List.setIfInBounds_toArray, List.set_cons_zero, List.set_cons_succ]))
              (refine held_yes (v := ?_) 6 rfl (by kernel_rfl) (by kernel_rfl) (by kernel_rfl) (fun _ _ _ h => h) (by rfl) (by assumption) ?_ ?_; rotate_left; focus ((intro w hSw); (try dsimp only at hSw); go_simp; (try with_reducible rfl)); (try simp only [Act.put, List.setIfInBounds_toArray, List.set_cons_zero, List.set_cons_succ]))
              cases r1 with
              | false =>
                (refine held_no 7 rfl (by kernel_rfl) (by kernel_rfl) (by kernel_rfl) (fun _ _ _ h => h) (by rfl) (by assumption) ?_; (try simp only [Act.put, List.setIfInBounds_toArray, List.set_cons_zero, List.set_cons_succ])); (refine held_no 8 rfl (by kernel_rfl) (by kernel_rfl) (by kernel_rfl) (fun _ _ _ h => h) (by rfl) (by assumption) ?_; (try simp only [Act.put, List.setIfInBounds_toArray, List.set_cons_zero, List.set_cons_succ])); (refine held_no 9 rfl (by kernel_rfl) (by kernel_rfl) (by kernel_rfl) (fun _ _ _ h => h) (by rfl) (by assumption) ?_; (try simp only [Act.put, List.setIfInBounds_toArray, List.set_cons_zero, List.set_cons_succ])); (refine held_no 10 rfl (by kernel_rfl) (by kernel_rfl) (by kernel_rfl) (fun _ _ _ h => h) (by rfl) (by assumption) ?_; (try simp only [Act.put, List.setIfInBounds_toArray, List.set_cons_zero, List.set_cons_succ])); (refine held_no 11 rfl (by kernel_rfl) (by kernel_rfl) (by kernel_rfl) (fun _ _ _ h => h) (by rfl) (by assumption) ?_; (try simp only [Act.put, List.setIfInBounds_toArray, List.set_cons_zero, List.set_cons_succ])); (refine held_no 12 rfl (by kernel_rfl) (by kernel_rfl) (by kernel_rfl) (fun _ _ _ h => h) (by rfl) (by assumption) ?_; (try simp only [Act.put, List.setIfInBounds_toArray, List.set_cons_zero, List.set_cons_succ]))
                (refine held_yes (v := ?_) 13 rfl (by kernel_rfl) (by kernel_rfl) (by kernel_rfl) (fun _ _ _ h => h) (by rfl) (by assumption) ?_ ?_; rotate_left; focus ((intro w hSw); (try dsimp only at hSw); go_simp; (try with_reducible rfl)); (try simp only [Act.put, List.setIfInBounds_toArray, List.set_cons_zero, List.set_cons_succ])); (refine held_yes (v := ?_) 14 rfl (by kernel_rfl) (by kernel_rfl) (by kernel_rfl) (fun _ _ _ h => h) (by rfl) (by assumption) ?_ ?_; rotate_left; focus ((intro w hSw); (try dsimp only at hSw); go_simp; (try with_reducible rfl)); (try simp only [Act.put, List.setIfInBounds_toArray, List.set_cons_zero, List.set_cons_succ]))
                (refine held_no 15 rfl (by kernel_rfl) (by kernel_rfl) (by kernel_rfl) (fun _ _ _ h => h) (by rfl) (by assumption) ?_; (try simp only [Act.put, List.setIfInBounds_toArray, List.set_cons_zero, List.set_cons_succ])); (refine held_no 16 rfl (by kernel_rfl) (by kernel_rfl) (by kernel_rfl) (fun _ _ _ h => h) (by rfl) (by assumption) ?_; (try simp only [Act.put, List.setIfInBounds_toArray, List.set_cons_zero, List.set_cons_succ])); (refine held_no 17 rfl (by kernel_rfl) (by kernel_rfl) (by kernel_rfl) (fun _ _ _ h => h) (by rfl) (by assumption) ?_; (try simp only [Act.put, List.setIfInBounds_toArray, List.set_cons_zero, List.set_cons_succ])); (refine held_no 18 rfl (by kernel_rfl) (by kernel_rfl) (by kernel_rfl) (fun _ _ _ h => h) (by rfl) (by assumption) ?_; (try simp only [Act.put, List.setIfInBounds_toArray, List.set_cons_zero, List.set_cons_succ])); (refine held_no 19 rfl (by kernel_rfl) (by kernel_rfl) (by kernel_rfl) (fun _ _ _ h => h) (by rfl) (by assumption) ?_; (try simp only [Act.put, List.setIfInBounds_toArray, List.set_cons_zero, List.set_cons_succ])); (refine held_no 20 rfl (by kernel_rfl) (by kernel_rfl) (by kernel_rfl) (fun _ _ _ h => h) (by rfl) (by assumption) ?_; (try simp only [Act.put, List.setIfInBounds_toArray, List.set_cons_zero, List.set_cons_succ]))
                (refine held_yes (v := ?_) 21 rfl (by kernel_rfl) (by kernel_rfl) (by kernel_rfl) (fun _ _ _ h => h) (by rfl) (by assumption) ?_ ?_; rotate_left; focus ((intro w hSw); (try dsimp only at hSw); go_simp; (try with_reducible rfl)); (try simp only [Act.put, List.setIfInBounds_toArray, List.set_cons_zero, List.set_cons_succ])); (refine held_yes (v := ?_) 22 rfl (by kernel_rfl) (by kernel_rfl) (by kernel_rfl) (fun _ _ _ h => h) (by rfl) (by assumption) ?_ ?_; rotate_left; focus ((intro w hSw); (try dsimp only at hSw); go_simp; (try with_reducible rfl)); (try simp only [Act.put, List.setIfInBounds_toArray, List.set_cons_zero, List.set_cons_succ]))
                (refine held_no 23 rfl (by kernel_rfl) (by kernel_rfl) (by kernel_rfl) (fun _ _ _ h => h) (by rfl) (by assumption) ?_; (try simp only [Act.put, List.setIfInBounds_toArray, List.set_cons_zero, List.set_cons_succ])); (refine held_no 24 rfl (by kernel_rfl) (by kernel_rfl) (by kernel_rfl) (fun _ _ _ h => h) (by rfl) (by assumption) ?_; (try simp only [Act.put, List.setIfInBounds_toArray, List.set_cons_zero, List.set_cons_succ]))
                (refine held_yes (v := ?_) 25 rfl (by kernel_rfl) (by kernel_rfl) (by kernel_rfl) (fun _ _ _ h => h) (by rfl) (by assumption) ?_ ?_; rotate_left; focus ((intro w hSw); (try dsimp only at hSw); go_simp; (try with_reducible rfl)); (try simp only [Act.put, List.setIfInBounds_toArray, List.set_cons_zero, List.set_cons_succ])); (refine held_yes (v := ?_) 26 rfl (by kernel_rfl) (by kernel_rfl) (by kernel_rfl) (fun _ _ _ h => h) (by rfl) (by assumption) ?_ ?_; rotate_left; focus ((intro w hSw); (try dsimp only at hSw); go_simp; (try with_reducible rfl)); (try simp only [Act.put, List.setIfInBounds_toArray, List.set_cons_zero, List.set_cons_succ]))
                refine wpAnyH_done (by kernel_rfl) ?_ _
                go_wp2
                go_ret
                exact ⟨⟨_, rfl, fun _ => HALL.out⟩, HT.low⟩
              | true =>
                (refine held_yes (v := ?_) 7 rfl (by kernel_rfl) (by kernel_rfl) (by kernel_rfl) (fun _ _ _ h => h) (by rfl) (by assumption) ?_ ?_; rotate_left; focus ((intro w hSw); (try dsimp only at hSw); go_simp; (try with_reducible rfl)); (try simp only [Act.put, List.setIfInBounds_toArray, List.set_cons_zero, List.set_cons_succ])); (refine held_yes (v := ?_) 8 rfl (by kernel_rfl) (by kernel_rfl) (by kernel_rfl) (fun _ _ _ h => h) (by rfl) (by assumption) ?_ ?_; rotate_left; focus ((intro w hSw); (try dsimp only at hSw); go_simp; (try with_reducible rfl)); (try simp only [Act.put, List.setIfInBounds_toArray, List.set_cons_zero, List.set_cons_succ])); (refine held_yes (v := ?_) 9 rfl (by kernel_rfl) (by kernel_rfl) (by kernel_rfl) (fun _ _ _ h => h) (by rfl) (by assumption) ?_ ?_; rotate_left; focus ((intro w hSw); (try dsimp only at hSw); go_simp; (try with_reducible rfl)); (try simp only [Act.put, List.setIfInBounds_toArray, List.set_cons_zero, List.set_cons_succ])); (refine held_yes (v := ?_) 10 rfl (by kernel_rfl) (by kernel_rfl) (by kernel_rfl) (fun _ _ _ h => h) (by rfl) (by assumption) ?_ ?_; rotate_left; focus ((intro w hSw); (try dsimp only at hSw); go_simp; (try with_reducible rfl)); (try simp only [Act.put, List.setIfInBounds_toArray, List.set_cons_zero, List.set_cons_succ]))
                (refine held_call 11 rfl (by kernel_rfl) (fun K hK => ?_); go_simp)
                go_at_call 52; refine (SG.out _ HT.low).mono ?_; rintro e wq ⟨y2, rfl, hy2, hbq⟩; have HT := HT.later hbq; have cq := HT.a.1; have HY2 := Lib.hid hy2
                (refine hK.out _ _ (HT.a.1) (fun hHeld => ?_); clear hK K; (try simp only [Act.put, List.setIfInBounds_toArray, List.set_cons_zero, List.set_cons_succ]))
                (refine held_call 12 rfl (by kernel_rfl) (fun K hK => ?_); go_simp)
                go_at_call 51; refine (M2.out _ _ HT.low HY2.out).mono ?_; rintro e wq ⟨rfl, hbq⟩; have HT := HT.later hbq; have cq := HT.a.1
                (refine hK.out _ _ (HT.a.1) (fun hHeld => ?_); clear hK K; (try simp only [Act.put, List.setIfInBounds_toArray, List.set_cons_zero, List.set_cons_succ]))
                (refine held_yes (v := ?_) 13 rfl (by kernel_rfl) (by kernel_rfl) (by kernel_rfl) (fun _ _ _ h => h) (by rfl) (by assumption) ?_ ?_; rotate_left; focus ((intro w hSw); (try dsimp only at hSw); go_simp; (try with_reducible rfl)); (try simp only [Act.put, List.setIfInBounds_toArray, List.set_cons_zero, List.set_cons_succ])); (refine held_yes (v := ?_) 14 rfl (by kernel_rfl) (by kernel_rfl) (by kernel_rfl) (fun _ _ _ h => h) (by rfl) (by assumption) ?_ ?_; rotate_left; focus ((intro w hSw); (try dsimp only at hSw); go_simp; (try with_reducible rfl)); (try simp only [Act.put, List.setIfInBounds_toArray, List.set_cons_zero, List.set_cons_succ]))
                cases r2 with
                | false =>
                  (refine held_no 15 rfl (by kernel_rfl) (by kernel_rfl) (by kernel_rfl) (fun _ _ _ h => h) (by rfl) (by assumption) ?_; (try simp only [Act.put, List.setIfInBounds_toArray, List.set_cons_zero, List.set_cons_succ])); (refine held_no 16 rfl (by kernel_rfl) (by kernel_rfl) (by kernel_rfl) (fun _ _ _ h => h) (by rfl) (by assumption) ?_; (try simp only [Act.put, List.setIfInBounds_toArray, List.set_cons_zero, List.set_cons_succ])); (refine held_no 17 rfl (by kernel_rfl) (by kernel_rfl) (by kernel_rfl) (fun _ _ _ h => h) (by rfl) (by assumption) ?_; (try simp only [Act.put, List.setIfInBounds_toArray, List.set_cons_zero, List.set_cons_succ])); (refine held_no 18 rfl (by kernel_rfl) (by kernel_rfl) (by kernel_rfl) (fun _ _ _ h => h) (by rfl) (by assumption) ?_; (try simp only [Act.put, List.setIfInBounds_toArray, List.set_cons_zero, List.set_cons_succ])); (refine held_no 19 rfl (by kernel_rfl) (by kernel_rfl) (by kernel_rfl) (fun _ _ _ h => h) (by rfl) (by assumption) ?_; (try simp only [Act.put, List.setIfInBounds_toArray, List.set_cons_zero, List.set_cons_succ])); (refine held_no 20 rfl (by kernel_rfl) (by kernel_rfl) (by kernel_rfl) (fun _ _ _ h => h) (by rfl) (by assumption) ?_; (try simp only [Act.put, List.setIfInBounds_toArray, List.set_cons_zero, List.set_cons_succ]))
                  (refine held_yes (v := ?_) 21 rfl (by kernel_rfl) (by kernel_rfl) (by kernel_rfl) (fun _ _ _ h => h) (by rfl) (by assumption) ?_ ?_; rotate_left; focus ((intro w hSw); (try dsimp only at hSw); go_simp; (try with_reducible rfl)); (try simp only [Act.put, List.setIfInBounds_toArray, List.set_cons_zero, List.set_cons_succ])); (refine held_yes (v := ?_) 22 rfl (by kernel_rfl) (by kernel_rfl) (by kernel_rfl) (fun _ _ _ h => h) (by rfl) (by assumption) ?_ ?_; rotate_left; focus ((intro w hSw); (try dsimp only at hSw); go_simp; (try with_reducible rfl)); (try simp only [Act.put, List.setIfInBounds_toArray, List.set_cons_zero, List.set_cons_succ]))
                  (refine held_no 23 rfl (by kernel_rfl) (by kernel_rfl) (by kernel_rfl) (fun _ _ _ h => h) (by rfl) (by assumption) ?_; (try simp only [Act.put, List.setIfInBounds_toArray, List.set_cons_zero, List.set_cons_succ])); (refine held_no 24 rfl (by kernel_rfl) (by kernel_rfl) (by kernel_rfl) (fun _ _ _ h => h) (by rfl) (by assumption) ?_; (try simp only [Act.put, List.setIfInBounds_toArray, List.set_cons_zero, List.set_cons_succ]))
                  (refine held_yes (v := ?_) 25 rfl (by kernel_rfl) (by kernel_rfl) (by kernel_rfl) (fun _ _ _ h => h) (by rfl) (by assumption) ?_ ?_; rotate_left; focus ((intro w hSw); (try dsimp only at hSw); go_simp; (try with_reducible rfl)); (try simp only [Act.put, List.setIfInBounds_toArray, List.set_cons_zero, List.set_cons_succ])); (refine held_yes (v := ?_) 26 rfl (by kernel_rfl) (by kernel_rfl) (by kernel_rfl) (fun _ _ _ h => h) (by rfl) (by assumption) ?_ ?_; rotate_left; focus ((intro w hSw); (try dsimp only at hSw); go_simp; (try with_reducible rfl)); (try simp only [Act.put, List.setIfInBounds_toArray, List.set_cons_zero, List.set_cons_succ]))
                  refine wpAnyH_done (by kernel_rfl) ?_ _
                  go_wp2
                  go_ret
                  exact ⟨⟨_, rfl, fun _ => HALL.out⟩, HT.low⟩
                | true =>
                  (refine held_yes (v := ?_) 15 rfl (by kernel_rfl) (by kernel_rfl) (by kernel_rfl) (fun _ _ _ h => h) (by rfl) (by assumption) ?_ ?_; rotate_left; focus ((intro w hSw); (try dsimp only at hSw); go_simp; (try with_reducible rfl)); (try simp only [Act.put, List.setIfInBounds_toArray, List.set_cons_zero, List.set_cons_succ])); (refine held_yes (v := ?_) 16 rfl (by kernel_rfl) (by kernel_rfl) (by kernel_rfl) (fun _ _ _ h => h) (by rfl) (by assumption) ?_ ?_; rotate_left; focus ((intro w hSw); (try dsimp only at hSw); go_simp; (try with_reducible rfl)); (try simp only [Act.put, List.setIfInBounds_toArray, List.set_cons_zero, List.set_cons_succ])); (refine held_yes (v := ?_) 17 rfl (by kernel_rfl) (by kernel_rfl) (by kernel_rfl) (fun _ _ _ h => h) (by rfl) (by assumption) ?_ ?_; rotate_left; focus ((intro w hSw); (try dsimp only at hSw); go_simp; (try with_reducible rfl)); (try simp only [Act.put, List.setIfInBounds_toArray, List.set_cons_zero, List.set_cons_succ])); (refine held_yes (v := ?_) 18 rfl (by kernel_rfl) (by kernel_rfl) (by kernel_rfl) (fun _ _ _ h => h) (by rfl) (by assumption) ?_ ?_; rotate_left; focus ((intro w hSw); (try dsimp only at hSw); go_simp; (try with_reducible rfl)); (try simp only [Act.put, List.setIfInBounds_toArray, List.set_cons_zero, List.set_cons_succ]))
                  (refine held_call 19 rfl (by kernel_rfl) (fun K hK => ?_); go_simp)
                  go_at_call 52; refine (SH.out _ HT.low).mono ?_; rintro e wq ⟨y3, rfl, hy3, hbq⟩; have HT := HT.later hbq; have cq := HT.a.1; have HY3 := Lib.hid hy3
                  (refine hK.out _ _ (HT.a.1) (fun hHeld => ?_); clear hK K; (try simp only [Act.put, List.setIfInBounds_toArray, List.set_cons_zero, List.set_cons_succ]))
                  (refine held_call 20 rfl (by kernel_rfl) (fun K hK => ?_); go_simp)
                  go_at_call 51; refine (M3.out _ _ HT.low HY3.out).mono ?_; rintro e wq ⟨rfl, hbq⟩; have HT := HT.later hbq; have cq := HT.a.1
                  (refine hK.out _ _ (HT.a.1) (fun hHeld => ?_); clear hK K; (try simp only [Act.put, List.setIfInBounds_toArray, List.set_cons_zero, List.set_cons_succ]))
                  (refine held_yes (v := ?_) 21 rfl (by kernel_rfl) (by kernel_rfl) (by kernel_rfl) (fun _ _ _ h => h) (by rfl) (by assumption) ?_ ?_; rotate_left; focus ((intro w hSw); (try dsimp only at hSw); go_simp; (try with_reducible rfl)); (try simp only [Act.put, List.setIfInBounds_toArray, List.set_cons_zero, List.set_cons_succ])); (refine held_yes (v := ?_) 22 rfl (by kernel_rfl) (by kernel_rfl) (by kernel_rfl) (fun _ _ _ h => h) (by rfl) (by assumption) ?_ ?_; rotate_left; focus ((intro w hSw); (try dsimp only at hSw); go_simp; (try with_reducible rfl)); (try simp only [Act.put, List.setIfInBounds_toArray, List.set_cons_zero, List.set_cons_succ]))
                  cases r3 with
                  | false =>
                    (refine held_no 23 rfl (by kernel_rfl) (by kernel_rfl) (by kernel_rfl) (fun _ _ _ h => h) (by rfl) (by assumption) ?_; (try simp only [Act.put, List.setIfInBounds_toArray, List.set_cons_zero, List.set_cons_succ])); (refine held_no 24 rfl (by kernel_rfl) (by kernel_rfl) (by kernel_rfl) (fun _ _ _ h => h) (by rfl) (by assumption) ?_; (try simp only [Act.put, List.setIfInBounds_toArray, List.set_cons_zero, List.set_cons_succ]))
                    (refine held_yes (v := ?_) 25 rfl (by kernel_rfl) (by kernel_rfl) (by kernel_rfl) (fun _ _ _ h => h) (by rfl) (by assumption) ?_ ?_; rotate_left; focus ((intro w hSw); (try dsimp only at hSw); go_simp; (try with_reducible rfl)); (try simp only [Act.put, List.setIfInBounds_toArray, List.set_cons_zero, List.set_cons_succ])); (refine held_yes (v := ?_) 26 rfl (by kernel_rfl) (by kernel_rfl) (by kernel_rfl) (fun _ _ _ h => h) (by rfl) (by assumption) ?_ ?_; rotate_left; focus ((intro w hSw); (try dsimp only at hSw); go_simp; (try with_reducible rfl)); (try simp only [Act.put, List.setIfInBounds_toArray, List.set_cons_zero, List.set_cons_succ]))
                    refine wpAnyH_done (by kernel_rfl) ?_ _
                    go_wp2
                    go_ret
                    exact ⟨⟨_, rfl, fun _ => HALL.out⟩, HT.low⟩
                  | true =>
                    (refine held_yes (v := ?_) 23 rfl (by kernel_rfl) (by kernel_rfl) (by kernel_rfl) (fun _ _ _ h => h) (by rfl) (by assumption) ?_ ?_; rotate_left; focus ((intro w hSw); (try dsimp only at hSw); go_simp; (try with_reducible rfl)); (try simp only [Act.put, List.setIfInBounds_toArray, List.set_cons_zero, List.set_cons_succ]))
                    (refine held_call 24 rfl (by kernel_rfl) (fun K hK => ?_); go_simp)
                    go_at_call 53; refine (FI.out _ HT.low).mono ?_; rintro e wq ⟨⟨bf, rfl⟩, hbq⟩; have HT := HT.later hbq; have cq := HT.a.1
                    (refine hK.out _ _ (HT.a.1) (fun hHeld => ?_); clear hK K; (try simp only [Act.put, List.setIfInBounds_toArray, List.set_cons_zero, List.set_cons_succ]))
                    (refine held_yes (v := ?_) 25 rfl (by kernel_rfl) (by kernel_rfl) (by kernel_rfl) (fun _ _ _ h => h) (by rfl) (by assumption) ?_ ?_; rotate_left; focus ((intro w hSw); (try dsimp only at hSw); go_simp; (try with_reducible rfl)); (try simp only [Act.put, List.setIfInBounds_toArray, List.set_cons_zero, List.set_cons_succ])); (refine held_yes (v := ?_) 26 rfl (by kernel_rfl) (by kernel_rfl) (by kernel_rfl) (fun _ _ _ h => h) (by rfl) (by assumption) ?_ ?_; rotate_left; focus ((intro w hSw); (try dsimp only at hSw); go_simp; (try with_reducible rfl)); (try simp only [Act.put, List.setIfInBounds_toArray, List.set_cons_zero, List.set_cons_succ]))
                    refine wpAnyH_done (by kernel_rfl) ?_ _
                    go_wp2
                    go_ret
                    exact ⟨⟨_, rfl, fun _ => HALL.out⟩, HT.low⟩
end Go.Proofs.Ytmpanikeeeoikaa
