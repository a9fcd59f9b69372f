/- crupperref05.Roles: some row of roles comes back (printed by gen_roles.py). -/
import Derived.Test.YtmpanikeeeoikaaPolLight2
namespace Go.Proofs.Ytmpanikeeeoikaa
open Go.RowKit Go.Shelf

/-- A value is a row of at most n roles. -/
def RowR (w : World) (v : Value) (n : Nat) : Prop := ∃ rs : List Rl, SlA w 2 v rs.length (rs.flatMap Rl.cells) ∧ rs.length ≤ n ∧ ∀ x ∈ rs, x.le 9223372036854775807
theorem rl1 (x y : ByteArray) : ∀ u ∈ [Value.string x, Value.string y], u.oneCell' = true := by
  intro u hu; simp at hu; rcases hu with rfl | rfl <;> rfl
theorem heap_old {w : World} {g : Nat} {o : Obj} (o' : Obj) (h : w.heap[g]? = some o) : (w.alloc o').heap[g]? = some o :=
  (Below.heap_alloc _ _ _ (Array.getElem?_eq_some_iff.1 h).1).trans h
theorem own_tag {w : World} {base size n g : Nat} {e t : TypeId} {v : Value} {xs : List Value} {cs : Array Value} {fz : Nat × Nat} (h : w.ownsRow base e size v n xs) (hg : w.heap[g]? = some (.cells cs t fz)) (ht : t ≠ e) : some g ≠ v.ownBlock := by
  rcases h.2 with ⟨rfl, rfl⟩ | ⟨g', cap, cur, rfl, _, hg', _⟩
  · simp [Value.ownBlock]
  · simp only [Value.ownBlock]
    intro e'
    cases e'
    rw [hg] at hg'
    simp only [Option.some.injEq, Obj.cells.injEq] at hg'
    exact ht hg'.2.1
theorem push_role {w wr w3 : World} {A : Array Value} {vo : Value} {rs : List Rl} {x : Rl} {o : Obj} {a' : Option Addr} {cap' : Nat} (ht : OneAt w A wr) (hown : wr.ownsRow (w.heap.size + 1) 28 2 vo rs.length (rs.flatMap Rl.cells))
    (h : w3.ownsRow (w.heap.size + 1) 28 2 (.slice a' (rs.length + 1) cap') (rs.length + 1) (rs.flatMap Rl.cells ++ [.string x.o, .string x.n])) (hg : (wr.alloc o).grownBy w3 vo.ownBlock) :
    w3.ownsRow (w.heap.size + 1) 28 2 (.slice a' (rs.length + 1) cap') (rs ++ [x]).length ((rs ++ [x]).flatMap Rl.cells) ∧ OneAt w A w3 := by
  refine ⟨by rw [List.length_append, rl_flat]; exact h, (ht.a.alloc o).grown hg (own_gt_ne hown (Nat.lt_succ_self _)), ?_⟩
  exact below_own (ht.low.alloc ht.low.size o) (hown.alloc _) hg (by have := ht.low.size; simp; omega) (Nat.le_succ _)
theorem le_snoc {rs : List Rl} {x : Rl} (h : ∀ y ∈ rs, y.le 9223372036854775807) (hx : x.le 9223372036854775807) : ∀ y ∈ rs ++ [x], y.le 9223372036854775807 := by
  intro y hy
  rcases List.mem_append.1 hy with h' | h'
  · exact h y h'
  · rw [List.mem_singleton.1 h']; exact hx
theorem own_len {w : World} {base : Nat} {a : Option Addr} {n n' m cap : Nat} {xs : List Value} (h : w.ownsRow base 28 2 (.slice a n cap) m xs) (e : n = n') : w.ownsRow base 28 2 (.slice a n' cap) m xs := by subst e; exact h

set_option maxRecDepth 100000 in
set_option maxHeartbeats 8000000 in
theorem ref5_Roles (v0 v1 v2 v3 : Value) (l : List St) (g h : List Rl) (qs : List Qv) (w : World) (hp : PolAt w v0 v1 v2 v3 l g h qs) (hl : l.length ≤ 100) (hg : g.length ≤ 100) (hh : h.length ≤ 100) (hq : qs.length ≤ 100) :
    Calls Try.prog 83 #[pv v0 v1 v2 v3] w fun e w' => ∃ v, e = .returned v ∧ RowR w' v 1000 ∧ Below w.heap.size w w' := by
  have HP := Lib.hid hp
  obtain ⟨a0, c0, rfl⟩ := hp.rs.form
  obtain ⟨a1, c1, rfl⟩ := hp.rg.form
  obtain ⟨a2, c2, rfl⟩ := hp.rh.form
  obtain ⟨a3, c3, rfl⟩ := hp.rq.form
  have HT := Lib.hid (show OneAt w #[.slice a0 l.length c0, .slice a1 g.length c1, .slice a2 h.length c2, .slice a3 qs.length c3] (w.alloc (.cells #[.slice a0 l.length c0, .slice a1 g.length c1, .slice a2 h.length c2, .slice a3 qs.length c3] 26)) from ⟨Blk.new w _ _, (Below.refl _ _).alloc (Nat.le_refl _) _⟩)
  clear hp
  go_enter Try.func83, Try.ntmps83
  go_wp2_with fail
  go_loopw [3, 15] (fun vo i wr => ∃ (k : Nat) (rs : List Rl), k ≤ l.length ∧ i = .int .i64 k ∧ Hid (rs.length ≤ 3 * k) ∧ Hid (∀ x ∈ rs, x.le 9223372036854775807) ∧ Hid (OneAt w #[.slice a0 l.length c0, .slice a1 g.length c1, .slice a2 h.length c2, .slice a3 qs.length c3] wr) ∧ Hid (wr.ownsRow (w.heap.size + 1) 28 2 vo rs.length (rs.flatMap Rl.cells))) (fun _ i _ => l.length - (intOf i).toNat)
  case atStart => exact ⟨0, [], by omega, rfl, Lib.hid (by simp), Lib.hid (fun x hx => by cases hx), HT, Lib.hid (World.ownsRow_nil _ _ _ _)⟩
  case round =>
    clear HT
    obtain ⟨k, rs, hk, rfl, HC, HZ, HT, HO⟩ := hrel
    obtain ⟨oo, oc, rfl⟩ := own_form HO.out
    have hrs := HC.out
    by_cases hlt : k < l.length
    · obtain ⟨b1, o1, e1, he1, hc1, hm1', hb1, hx1⟩ := HP.out.rs.pos (by omega)
      simp only [Value.slice.injEq, true_and] at he1
      obtain ⟨rfl, rfl⟩ := he1
      obtain ⟨p0, p1, p2, p3, p4, p5, p6, p7, p8⟩ := st_cell (w := wr) (fun j u hu => (HT.out.low.cell (p := ⟨b1, o1 + j, none⟩) hb1).trans (hx1 j u hu)) k hlt
      have hbr : b1 < wr.heap.size := Nat.lt_of_lt_of_le hb1 HT.out.low.size
      have hxl := HP.out.ls _ (List.getElem_mem hlt)
      clear hx1
      generalize l[k] = x at *
      obtain ⟨xk, ⟨x1, x2⟩, xw, ⟨x3, x4⟩, ⟨x5, x6⟩, xv⟩ := x
      have l1 : (⟨x1, x2⟩ : Rl).le 9223372036854775807 := hxl.1
      have l2 : (⟨x3, x4⟩ : Rl).le 9223372036854775807 := hxl.2.2.1
      have l3 : (⟨x5, x6⟩ : Rl).le 9223372036854775807 := hxl.2.2.2.1
      clear hxl
      have hown := HO.out
      go_wp2_with (at_builtin; refine halt_ ?_)
      unfold Halt_
      refine app_own Try.underlying23 rl_info' rfl (by decide) (by decide) rfl _ _ rfl (w.heap.size + 1) rfl ((hown.alloc _).alloc _) [.string x1, .string x2] rfl (heap_new2 _ _ _) rfl (rl1 _ _) ?_ ?_ ?_
      · first | omega | (simp only [List.length_append, List.length_cons, List.length_nil]; omega)
      · have := HT.out.a.2.2; simp; omega
      intro a' cap' w3 hown' hgrow
      have HTb := HT.out.alloc (.cells #[.int .i64 xk, .string x1, .string x2, .string xw, .string x3, .string x4, .string x5, .string x6, .string xv] 30)
      obtain ⟨q1, q2⟩ := push_role (x := ⟨x1, x2⟩) HTb (hown.alloc _) hown' hgrow
      have hbx : w3.heap[wr.heap.size]? = some (.cells #[.int .i64 xk, .string x1, .string x2, .string xw, .string x3, .string x4, .string x5, .string x6, .string xv] 30 (0, 0)) := (hgrow.block _ (by simp; omega) (own_ne hown (Nat.le_refl _))).trans (heap_old _ (heap_new1 wr _))
      have HO1 := Lib.hid (own_len (n' := rs.length + 1) q1 (by simp))
      have HT1 := Lib.hid q2
      have HBX1 := Lib.hid hbx
      obtain ⟨cx, fx, zx⟩ := blk_of hbx
      clear hown hown' hgrow q1 q2 hbx HTb
      by_cases k2 : 2 ≤ xk
      case neg =>
        have d2 : decide (2 ≤ xk) = false := decide_eq_false k2
        have d4 : (xk == 4) = false := by (rw [beq_eq_false_iff_ne]; omega)
        clear k2
        go_wp2_with fail
        exact ⟨⟨k + 1, rs ++ [⟨x1, x2⟩], by omega, by go_num, Lib.hid (by simp only [List.length_append, List.length_cons, List.length_nil]; omega), Lib.hid (le_snoc HZ.out (x := ⟨x1, x2⟩) l1), HT1, HO1⟩, by simp [intOf]; omega⟩
      have d2 : decide (2 ≤ xk) = true := decide_eq_true k2
      by_cases k4 : xk ≤ 4
      case neg =>
        have d3 : decide (xk ≤ 4) = false := decide_eq_false k4
        have d4 : (xk == 4) = false := by (rw [beq_eq_false_iff_ne]; omega)
        clear k2 k4
        go_wp2_with fail
        exact ⟨⟨k + 1, rs ++ [⟨x1, x2⟩], by omega, by go_num, Lib.hid (by simp only [List.length_append, List.length_cons, List.length_nil]; omega), Lib.hid (le_snoc HZ.out (x := ⟨x1, x2⟩) l1), HT1, HO1⟩, by simp [intOf]; omega⟩
      have d3 : decide (xk ≤ 4) = true := decide_eq_true k4
      have hown := HO1.out
      go_wp2_with (at_builtin; refine halt_ ?_)
      unfold Halt_
      refine app_own Try.underlying23 rl_info' rfl (by decide) (by decide) rfl _ _ rfl (w.heap.size + 1) rfl (hown.alloc _) [.string x3, .string x4] rfl (heap_new1 _ _) rfl (rl1 _ _) ?_ ?_ ?_
      · first | omega | (simp only [List.length_append, List.length_cons, List.length_nil]; omega)
      · have := HT1.out.a.2.2; simp; omega
      intro a' cap' w3 hown' hgrow
      obtain ⟨q1, q2⟩ := push_role (x := ⟨x3, x4⟩) HT1.out hown hown' hgrow
      have hbx : w3.heap[wr.heap.size]? = some (.cells #[.int .i64 xk, .string x1, .string x2, .string xw, .string x3, .string x4, .string x5, .string x6, .string xv] 30 (0, 0)) := (hgrow.block _ (Nat.lt_of_lt_of_le (Array.getElem?_eq_some_iff.1 HBX1.out).1 (by simp)) (own_tag hown HBX1.out (by decide))).trans (heap_old _ HBX1.out)
      have HO2 := Lib.hid (own_len (n' := rs.length + 1 + 1) q1 (by simp))
      have HT2 := Lib.hid q2
      have HBX2 := Lib.hid hbx
      obtain ⟨cx, fx, zx⟩ := blk_of hbx
      clear hown hown' hgrow q1 q2 hbx
      by_cases k44 : xk = 4
      case neg =>
        have d4 : (xk == 4) = false := by (rw [beq_eq_false_iff_ne]; omega)
        clear k2 k4 k44
        go_wp2_with fail
        exact ⟨⟨k + 1, rs ++ [⟨x1, x2⟩] ++ [⟨x3, x4⟩], by omega, by go_num, Lib.hid (by simp only [List.length_append, List.length_cons, List.length_nil]; omega), Lib.hid (le_snoc (le_snoc HZ.out (x := ⟨x1, x2⟩) l1) (x := ⟨x3, x4⟩) l2), HT2, HO2⟩, by simp [intOf]; omega⟩
      have d4 : (xk == 4) = true := by simp [k44]
      clear k2 k4 k44
      have hown := HO2.out
      go_wp2_with (at_builtin; refine halt_ ?_)
      unfold Halt_
      refine app_own Try.underlying23 rl_info' rfl (by decide) (by decide) rfl _ _ rfl (w.heap.size + 1) rfl (hown.alloc _) [.string x5, .string x6] rfl (heap_new1 _ _) rfl (rl1 _ _) ?_ ?_ ?_
      · first | omega | (simp only [List.length_append, List.length_cons, List.length_nil]; omega)
      · have := HT2.out.a.2.2; simp; omega
      intro a' cap' w3 hown' hgrow
      obtain ⟨q1, q2⟩ := push_role (x := ⟨x5, x6⟩) HT2.out hown hown' hgrow
      have HO3 := Lib.hid (own_len (n' := rs.length + 1 + 1 + 1) q1 (by simp))
      have HT3 := Lib.hid q2
      clear hown hown' hgrow q1 q2
      go_wp2_with fail
      exact ⟨⟨k + 1, rs ++ [⟨x1, x2⟩] ++ [⟨x3, x4⟩] ++ [⟨x5, x6⟩], by omega, by go_num, Lib.hid (by simp only [List.length_append, List.length_cons, List.length_nil]; omega), Lib.hid (le_snoc (le_snoc (le_snoc HZ.out (x := ⟨x1, x2⟩) l1) (x := ⟨x3, x4⟩) l2) (x := ⟨x5, x6⟩) l3), HT3, HO3⟩, by simp [intOf]; omega⟩
    · obtain ⟨ca, fa, za⟩ := HT.out.a
      have hn0 : rs.length ≤ 300 := by omega
      clear hrs HC hk
      go_wp2_with fail
      clear ca fa za
      go_loopw [3, 49] (fun vo i wr => ∃ (k : Nat) (rs : List Rl), k ≤ g.length ∧ i = .int .i64 k ∧ Hid (rs.length ≤ 300 + k) ∧ Hid (∀ x ∈ rs, x.le 9223372036854775807) ∧ Hid (OneAt w #[.slice a0 l.length c0, .slice a1 g.length c1, .slice a2 h.length c2, .slice a3 qs.length c3] wr) ∧ Hid (wr.ownsRow (w.heap.size + 1) 28 2 vo rs.length (rs.flatMap Rl.cells))) (fun _ i _ => g.length - (intOf i).toNat)
      case atStart => exact ⟨0, rs, by omega, rfl, Lib.hid hn0, HZ, HT, HO⟩
      case round =>
        clear HT HZ HO hn0
        obtain ⟨k, rs, hk, rfl, HC, HZ, HT, HO⟩ := hrel
        obtain ⟨oo, oc, rfl⟩ := own_form HO.out
        have hrs := HC.out
        by_cases hlt : k < g.length
        · obtain ⟨b1, o1, e1, he1, hc1, hm1', hb1, hx1⟩ := HP.out.rg.pos (by omega)
          simp only [Value.slice.injEq, true_and] at he1
          obtain ⟨rfl, rfl⟩ := he1
          obtain ⟨p0, p1⟩ := rl_cell (w := wr) (fun j u hu => (HT.out.low.cell (p := ⟨b1, o1 + j, none⟩) hb1).trans (hx1 j u hu)) k hlt
          have hbr : b1 < wr.heap.size := Nat.lt_of_lt_of_le hb1 HT.out.low.size
          have l1 := HP.out.lg _ (List.getElem_mem hlt)
          clear hx1
          generalize g[k] = x at *
          obtain ⟨x1, x2⟩ := x
          have hown := HO.out
          go_wp2_with (at_builtin; refine halt_ ?_)
          unfold Halt_
          refine app_own Try.underlying23 rl_info' rfl (by decide) (by decide) rfl _ _ rfl (w.heap.size + 1) rfl ((hown.alloc _).alloc _) [.string x1, .string x2] rfl (heap_new2 _ _ _) rfl (rl1 _ _) ?_ ?_ ?_
          · first | omega | (simp only [List.length_append, List.length_cons, List.length_nil]; omega)
          · have := HT.out.a.2.2; simp; omega
          intro a' cap' w3 hown' hgrow
          have HTb := HT.out.alloc (.cells #[.string x1, .string x2] 28)
          obtain ⟨q1, q2⟩ := push_role (x := ⟨x1, x2⟩) HTb (hown.alloc _) hown' hgrow
          have HO1 := Lib.hid (own_len (n' := rs.length + 1) q1 (by simp))
          have HT1 := Lib.hid q2
          clear hown hown' hgrow q1 q2 HTb
          go_wp2_with fail
          exact ⟨⟨k + 1, rs ++ [⟨x1, x2⟩], by omega, by go_num, Lib.hid (by simp only [List.length_append, List.length_cons, List.length_nil]; omega), Lib.hid (le_snoc HZ.out (x := ⟨x1, x2⟩) l1), HT1, HO1⟩, by simp [intOf]; omega⟩
        · obtain ⟨ca, fa, za⟩ := HT.out.a
          have hn0 : rs.length ≤ 400 := by omega
          clear hrs HC hk
          go_wp2_with fail
          clear ca fa za
          go_loopw [3, 61] (fun vo i wr => ∃ (k : Nat) (rs : List Rl), k ≤ h.length ∧ i = .int .i64 k ∧ Hid (rs.length ≤ 400 + k) ∧ Hid (∀ x ∈ rs, x.le 9223372036854775807) ∧ Hid (OneAt w #[.slice a0 l.length c0, .slice a1 g.length c1, .slice a2 h.length c2, .slice a3 qs.length c3] wr) ∧ Hid (wr.ownsRow (w.heap.size + 1) 28 2 vo rs.length (rs.flatMap Rl.cells))) (fun _ i _ => h.length - (intOf i).toNat)
          case atStart => exact ⟨0, rs, by omega, rfl, Lib.hid hn0, HZ, HT, HO⟩
          case round =>
            clear HT HZ HO hn0
            obtain ⟨k, rs, hk, rfl, HC, HZ, HT, HO⟩ := hrel
            obtain ⟨oo, oc, rfl⟩ := own_form HO.out
            have hrs := HC.out
            by_cases hlt : k < h.length
            · obtain ⟨b1, o1, e1, he1, hc1, hm1', hb1, hx1⟩ := HP.out.rh.pos (by omega)
              simp only [Value.slice.injEq, true_and] at he1
              obtain ⟨rfl, rfl⟩ := he1
              obtain ⟨p0, p1⟩ := rl_cell (w := wr) (fun j u hu => (HT.out.low.cell (p := ⟨b1, o1 + j, none⟩) hb1).trans (hx1 j u hu)) k hlt
              have hbr : b1 < wr.heap.size := Nat.lt_of_lt_of_le hb1 HT.out.low.size
              have l1 := HP.out.lh _ (List.getElem_mem hlt)
              clear hx1
              generalize h[k] = x at *
              obtain ⟨x1, x2⟩ := x
              have hown := HO.out
              go_wp2_with (at_builtin; refine halt_ ?_)
              unfold Halt_
              refine app_own Try.underlying23 rl_info' rfl (by decide) (by decide) rfl _ _ rfl (w.heap.size + 1) rfl ((hown.alloc _).alloc _) [.string x1, .string x2] rfl (heap_new2 _ _ _) rfl (rl1 _ _) ?_ ?_ ?_
              · first | omega | (simp only [List.length_append, List.length_cons, List.length_nil]; omega)
              · have := HT.out.a.2.2; simp; omega
              intro a' cap' w3 hown' hgrow
              have HTb := HT.out.alloc (.cells #[.string x1, .string x2] 28)
              obtain ⟨q1, q2⟩ := push_role (x := ⟨x1, x2⟩) HTb (hown.alloc _) hown' hgrow
              have HO1 := Lib.hid (own_len (n' := rs.length + 1) q1 (by simp))
              have HT1 := Lib.hid q2
              clear hown hown' hgrow q1 q2 HTb
              go_wp2_with fail
              exact ⟨⟨k + 1, rs ++ [⟨x1, x2⟩], by omega, by go_num, Lib.hid (by simp only [List.length_append, List.length_cons, List.length_nil]; omega), Lib.hid (le_snoc HZ.out (x := ⟨x1, x2⟩) l1), HT1, HO1⟩, by simp [intOf]; omega⟩
            · obtain ⟨ca, fa, za⟩ := HT.out.a
              have hn0 : rs.length ≤ 500 := by omega
              clear hrs HC hk
              go_wp2_with fail
              clear ca fa za
              go_loopw [3, 73] (fun vo i wr => ∃ (k : Nat) (rs : List Rl), k ≤ qs.length ∧ i = .int .i64 k ∧ Hid (rs.length ≤ 500 + 2 * k) ∧ Hid (∀ x ∈ rs, x.le 9223372036854775807) ∧ Hid (OneAt w #[.slice a0 l.length c0, .slice a1 g.length c1, .slice a2 h.length c2, .slice a3 qs.length c3] wr) ∧ Hid (wr.ownsRow (w.heap.size + 1) 28 2 vo rs.length (rs.flatMap Rl.cells))) (fun _ i _ => qs.length - (intOf i).toNat)
              case atStart => exact ⟨0, rs, by omega, rfl, Lib.hid hn0, HZ, HT, HO⟩
              case round =>
                clear HT HZ HO hn0
                obtain ⟨k, rs, hk, rfl, HC, HZ, HT, HO⟩ := hrel
                obtain ⟨oo, oc, rfl⟩ := own_form HO.out
                have hrs := HC.out
                by_cases hlt : k < qs.length
                · obtain ⟨b1, o1, e1, he1, hc1, hm1', hb1, hx1⟩ := HP.out.rq.pos (by omega)
                  simp only [Value.slice.injEq, true_and] at he1
                  obtain ⟨rfl, rfl⟩ := he1
                  obtain ⟨p0, p1, p2, p3, p4, p5⟩ := q_cell (w := wr) (fun j u hu => (HT.out.low.cell (p := ⟨b1, o1 + j, none⟩) hb1).trans (hx1 j u hu)) k hlt
                  have hbr : b1 < wr.heap.size := Nat.lt_of_lt_of_le hb1 HT.out.low.size
                  have hqo := HP.out.lq _ (List.getElem_mem hlt)
                  have l1 := hqo.1
                  have l2 := hqo.2.1
                  obtain ⟨wo, wc, hw5⟩ : ∃ a c, qs[k].w = .slice a ((hqo.2.2).choose).length c := ((hqo.2.2).choose_spec.1).form
                  generalize (hqo.2.2).choose.length = nw at hw5
                  clear hx1 hqo
                  generalize qs[k] = x at *
                  obtain ⟨xk, ⟨x1, x2⟩, ⟨x3, x4⟩, xw⟩ := x
                  dsimp only at hw5
                  subst hw5
                  have hown := HO.out
                  go_wp2_with (at_builtin; refine halt_ ?_)
                  unfold Halt_
                  refine app_own Try.underlying23 rl_info' rfl (by decide) (by decide) rfl _ _ rfl (w.heap.size + 1) rfl ((hown.alloc _).alloc _) [.string x1, .string x2] rfl (heap_new2 _ _ _) rfl (rl1 _ _) ?_ ?_ ?_
                  · first | omega | (simp only [List.length_append, List.length_cons, List.length_nil]; omega)
                  · have := HT.out.a.2.2; simp; omega
                  intro a' cap' w3 hown' hgrow
                  have HTb := HT.out.alloc (.cells #[.int .i64 xk, .string x1, .string x2, .string x3, .string x4, .slice wo nw wc] 51)
                  obtain ⟨q1, q2⟩ := push_role (x := ⟨x1, x2⟩) HTb (hown.alloc _) hown' hgrow
                  have hbx : w3.heap[wr.heap.size]? = some (.cells #[.int .i64 xk, .string x1, .string x2, .string x3, .string x4, .slice wo nw wc] 51 (0, 0)) := (hgrow.block _ (by simp; omega) (own_ne hown (Nat.le_refl _))).trans (heap_old _ (heap_new1 wr _))
                  have HO1 := Lib.hid (own_len (n' := rs.length + 1) q1 (by simp))
                  have HT1 := Lib.hid q2
                  have HBX1 := Lib.hid hbx
                  obtain ⟨cx, fx, zx⟩ := blk_of hbx
                  clear hown hown' hgrow q1 q2 hbx HTb
                  by_cases k5 : xk = 5 ∨ xk = 6
                  case neg =>
                    have d5 : (xk == 5) = false := by (rw [beq_eq_false_iff_ne]; omega)
                    have d6 : (xk == 6) = false := by (rw [beq_eq_false_iff_ne]; omega)
                    clear k5
                    go_wp2_with fail
                    exact ⟨⟨k + 1, rs ++ [⟨x1, x2⟩], by omega, by go_num, Lib.hid (by simp only [List.length_append, List.length_cons, List.length_nil]; omega), Lib.hid (le_snoc HZ.out (x := ⟨x1, x2⟩) l1), HT1, HO1⟩, by simp [intOf]; omega⟩
                  by_cases k6 : xk = 5
                  case pos =>
                    have d5 : (xk == 5) = true := by simp [k6]
                    clear k5 k6
                    have hown := HO1.out
                    go_wp2_with (at_builtin; refine halt_ ?_)
                    unfold Halt_
                    refine app_own Try.underlying23 rl_info' rfl (by decide) (by decide) rfl _ _ rfl (w.heap.size + 1) rfl (hown.alloc _) [.string x3, .string x4] rfl (heap_new1 _ _) rfl (rl1 _ _) ?_ ?_ ?_
                    · first | omega | (simp only [List.length_append, List.length_cons, List.length_nil]; omega)
                    · have := HT1.out.a.2.2; simp; omega
                    intro a' cap' w3 hown' hgrow
                    obtain ⟨q1, q2⟩ := push_role (x := ⟨x3, x4⟩) HT1.out hown hown' hgrow
                    have HO2 := Lib.hid (own_len (n' := rs.length + 1 + 1) q1 (by simp))
                    have HT2 := Lib.hid q2
                    clear hown hown' hgrow q1 q2
                    go_wp2_with fail
                    exact ⟨⟨k + 1, rs ++ [⟨x1, x2⟩] ++ [⟨x3, x4⟩], by omega, by go_num, Lib.hid (by simp only [List.length_append, List.length_cons, List.length_nil]; omega), Lib.hid (le_snoc (le_snoc HZ.out (x := ⟨x1, x2⟩) l1) (x := ⟨x3, x4⟩) l2), HT2, HO2⟩, by simp [intOf]; omega⟩
                  have d5 : (xk == 5) = false := by (rw [beq_eq_false_iff_ne]; omega)
                  have d6 : (xk == 6) = true := by (rw [beq_iff_eq]; omega)
                  clear k5 k6
                  have hown := HO1.out
                  go_wp2_with (at_builtin; refine halt_ ?_)
                  unfold Halt_
                  refine app_own Try.underlying23 rl_info' rfl (by decide) (by decide) rfl _ _ rfl (w.heap.size + 1) rfl (hown.alloc _) [.string x3, .string x4] rfl (heap_new1 _ _) rfl (rl1 _ _) ?_ ?_ ?_
                  · first | omega | (simp only [List.length_append, List.length_cons, List.length_nil]; omega)
                  · have := HT1.out.a.2.2; simp; omega
                  intro a' cap' w3 hown' hgrow
                  obtain ⟨q1, q2⟩ := push_role (x := ⟨x3, x4⟩) HT1.out hown hown' hgrow
                  have HO2 := Lib.hid (own_len (n' := rs.length + 1 + 1) q1 (by simp))
                  have HT2 := Lib.hid q2
                  clear hown hown' hgrow q1 q2
                  go_wp2_with fail
                  exact ⟨⟨k + 1, rs ++ [⟨x1, x2⟩] ++ [⟨x3, x4⟩], by omega, by go_num, Lib.hid (by simp only [List.length_append, List.length_cons, List.length_nil]; omega), Lib.hid (le_snoc (le_snoc HZ.out (x := ⟨x1, x2⟩) l1) (x := ⟨x3, x4⟩) l2), HT2, HO2⟩, by simp [intOf]; omega⟩
                · have HSL := Lib.hid (Sl.of_own HO.out).a
                  go_wp2
                  go_ret
                  exact ⟨_, rfl, ⟨rs, HSL.out, by omega, HZ.out⟩, HT.out.low⟩
end Go.Proofs.Ytmpanikeeeoikaa
