/- crupperref05.Roles: some row of roles comes back (printed by gen_roles.py). crupperref05.Prins, Names, to the letter (printed by gen_prinsl.py). crupperref11: In, Inside, Members of a row of pairs. slices.IndexFunc and slices.DeleteFunc at rows of statements. low.Minimal; crupperref11.Minimal. crupperref11.follows. Two rows of the call's own, side by side, while one of them grows. -/
import Derived.Test.YtnnieegddbcfcaaGreatDoorPart6
import Derived.Test.YtnnieegddbcfcaaGreatDoorPart7
import Derived.Test.YtnnieegddbcfcaaGreatDoorPart5
import Derived.Test.YtnnieegddbcfcaaGreatDoorPart3
namespace Go.Proofs.YtnnieegddbcfcaaGreatDoor
open Go.RowKit Go.Shelf

theorem rl1 (x y : ByteArray) : ∀ u ∈ [Value.string x, Value.string y], u.oneCell' = true := by
  intro u hu; simp at hu; rcases hu with rfl | rfl <;> rfl
theorem heap_old {w : World} {g : Nat} {o : Obj} (o' : Obj) (h : w.heap[g]? = some o) : (w.alloc o').heap[g]? = some o :=
  (Below.heap_alloc _ _ _ (Array.getElem?_eq_some_iff.1 h).1).trans h
theorem own_tag {w : World} {base size n g : Nat} {e t : TypeId} {v : Value} {xs : List Value} {cs : Array Value} {fz : Nat × Nat} (h : w.ownsRow base e size v n xs) (hg : w.heap[g]? = some (.cells cs t fz)) (ht : t ≠ e) : some g ≠ v.ownBlock := by
  rcases h.2 with ⟨rfl, rfl⟩ | ⟨g', cap, cur, rfl, _, hg', _⟩
  · simp [Value.ownBlock]
  · simp only [Value.ownBlock]
    intro e'
    cases e'
    rw [hg] at hg'
    simp only [Option.some.injEq, Obj.cells.injEq] at hg'
    exact ht hg'.2.1
theorem push_role {w wr w3 : World} {A : Array Value} {vo : Value} {rs : List Rl} {x : Rl} {o : Obj} {a' : Option Addr} {cap' : Nat} (ht : OneAt w A wr) (hown : wr.ownsRow (w.heap.size + 1) 28 2 vo rs.length (rs.flatMap Rl.cells))
    (h : w3.ownsRow (w.heap.size + 1) 28 2 (.slice a' (rs.length + 1) cap') (rs.length + 1) (rs.flatMap Rl.cells ++ [.string x.o, .string x.n])) (hg : (wr.alloc o).grownBy w3 vo.ownBlock) :
    w3.ownsRow (w.heap.size + 1) 28 2 (.slice a' (rs.length + 1) cap') (rs ++ [x]).length ((rs ++ [x]).flatMap Rl.cells) ∧ OneAt w A w3 := by
  refine ⟨by rw [List.length_append, rl_flat]; exact h, (ht.a.alloc o).grown hg (own_gt_ne hown (Nat.lt_succ_self _)), ?_⟩
  exact below_own (ht.low.alloc ht.low.size o) (hown.alloc _) hg (by have := ht.low.size; simp; omega) (Nat.le_succ _)
theorem le_snoc {rs : List Rl} {x : Rl} (h : ∀ y ∈ rs, y.le 9223372036854775807) (hx : x.le 9223372036854775807) : ∀ y ∈ rs ++ [x], y.le 9223372036854775807 := by
  intro y hy
  rcases List.mem_append.1 hy with h' | h'
  · exact h y h'
  · rw [List.mem_singleton.1 h']; exact hx
theorem own_len {w : World} {base : Nat} {a : Option Addr} {n n' m cap : Nat} {xs : List Value} (h : w.ownsRow base 28 2 (.slice a n cap) m xs) (e : n = n') : w.ownsRow base 28 2 (.slice a n' cap) m xs := by subst e; exact h

def rolesQ (q : Qv) : List Rl := if q.k = 5 ∨ q.k = 6 then [q.a, q.b] else [q.a]
theorem flat_snocF {α β : Type} {l : List α} {k : Nat} (f : α → List β) (hk : k < l.length) : (l.take (k + 1)).flatMap f = (l.take k).flatMap f ++ f l[k] := by
  rw [List.take_succ_eq_append_getElem hk, List.flatMap_append]; simp
theorem take_snoc {α : Type} {l : List α} {k : Nat} (hk : k < l.length) : l.take (k + 1) = l.take k ++ [l[k]] := List.take_succ_eq_append_getElem hk
/-- All roles that a policy has, as the document counts them. -/
def allRoles (l : List St) (g h : List Rl) (qs : List Qv) : List Rl := l.flatMap rolesS ++ g ++ h ++ qs.flatMap rolesQ
set_option maxRecDepth 100000 in
set_option maxHeartbeats 8000000 in
theorem ref5_RolesL (v0 v1 v2 v3 : Value) (l : List St) (g h : List Rl) (qs : List Qv) (w : World) (hp : PolAt w v0 v1 v2 v3 l g h qs) (hl : l.length ≤ 100) (hg : g.length ≤ 100) (hh : h.length ≤ 100) (hq : qs.length ≤ 100) :
    Calls Tryz.prog 97 #[pv v0 v1 v2 v3] w fun e w' => ∃ v, e = .returned v ∧ SlA w' 2 v (allRoles l g h qs).length ((allRoles l g h qs).flatMap Rl.cells) ∧ (allRoles l g h qs).length ≤ 1000 ∧ (∀ x ∈ allRoles l g h qs, x.le 9223372036854775807) ∧ Below w.heap.size w w' := by
  have HP := Lib.hid hp
  obtain ⟨a0, c0, rfl⟩ := hp.rs.form
  obtain ⟨a1, c1, rfl⟩ := hp.rg.form
  obtain ⟨a2, c2, rfl⟩ := hp.rh.form
  obtain ⟨a3, c3, rfl⟩ := hp.rq.form
  have HT := Lib.hid (show OneAt w #[.slice a0 l.length c0, .slice a1 g.length c1, .slice a2 h.length c2, .slice a3 qs.length c3] (w.alloc (.cells #[.slice a0 l.length c0, .slice a1 g.length c1, .slice a2 h.length c2, .slice a3 qs.length c3] 26)) from ⟨Blk.new w _ _, (Below.refl _ _).alloc (Nat.le_refl _) _⟩)
  clear hp
  go_enter Tryz.func97, Tryz.ntmps97
  go_wp2_with fail
  go_loopw [3, 15] (fun vo i wr => ∃ (k : Nat) (rs : List Rl), k ≤ l.length ∧ i = .int .i64 k ∧ Hid (rs.length ≤ 3 * k) ∧ Hid (∀ x ∈ rs, x.le 9223372036854775807) ∧ Hid (OneAt w #[.slice a0 l.length c0, .slice a1 g.length c1, .slice a2 h.length c2, .slice a3 qs.length c3] wr) ∧ Hid (wr.ownsRow (w.heap.size + 1) 28 2 vo rs.length (rs.flatMap Rl.cells)) ∧ Hid (rs = (l.take k).flatMap rolesS)) (fun _ i _ => l.length - (intOf i).toNat)
  case atStart => exact ⟨0, [], by omega, rfl, Lib.hid (by simp), Lib.hid (fun x hx => by cases hx), HT, Lib.hid (World.ownsRow_nil _ _ _ _), Lib.hid (by simp)⟩
  case round =>
    clear HT
    obtain ⟨k, rs, hk, rfl, HC, HZ, HT, HO, HE⟩ := hrel
    obtain ⟨oo, oc, rfl⟩ := own_form HO.out
    have hrs := HC.out
    by_cases hlt : k < l.length
    · obtain ⟨b1, o1, e1, he1, hc1, hm1', hb1, hx1⟩ := HP.out.rs.pos (by omega)
      simp only [Value.slice.injEq, true_and] at he1
      obtain ⟨rfl, rfl⟩ := he1
      obtain ⟨p0, p1, p2, p3, p4, p5, p6, p7, p8⟩ := st_cell (w := wr) (fun j u hu => (HT.out.low.cell (p := ⟨b1, o1 + j, none⟩) hb1).trans (hx1 j u hu)) k hlt
      have hbr : b1 < wr.heap.size := Nat.lt_of_lt_of_le hb1 HT.out.low.size
      have hxl := HP.out.ls _ (List.getElem_mem hlt)
      have HF := Lib.hid (flat_snocF rolesS hlt)
      clear hx1
      generalize l[k] = x at *
      obtain ⟨xk, ⟨x1, x2⟩, xw, ⟨x3, x4⟩, ⟨x5, x6⟩, xv⟩ := x
      have l1 : (⟨x1, x2⟩ : Rl).le 9223372036854775807 := hxl.1
      have l2 : (⟨x3, x4⟩ : Rl).le 9223372036854775807 := hxl.2.2.1
      have l3 : (⟨x5, x6⟩ : Rl).le 9223372036854775807 := hxl.2.2.2.1
      clear hxl
      have hown := HO.out
      go_wp2_with (at_builtin; refine halt_ ?_)
      unfold Halt_
      refine app_own Tryz.underlying23 rl_info' rfl (by decide) (by decide) rfl _ _ rfl (w.heap.size + 1) rfl ((hown.alloc _).alloc _) [.string x1, .string x2] rfl (heap_new2 _ _ _) rfl (rl1 _ _) ?_ ?_ ?_
      · first | omega | (simp only [List.length_append, List.length_cons, List.length_nil]; omega)
      · have := HT.out.a.2.2; simp; omega
      intro a' cap' w3 hown' hgrow
      have HTb := HT.out.alloc (.cells #[.int .i64 xk, .string x1, .string x2, .string xw, .string x3, .string x4, .string x5, .string x6, .string xv] 35)
      obtain ⟨q1, q2⟩ := push_role (x := ⟨x1, x2⟩) HTb (hown.alloc _) hown' hgrow
      have hbx : w3.heap[wr.heap.size]? = some (.cells #[.int .i64 xk, .string x1, .string x2, .string xw, .string x3, .string x4, .string x5, .string x6, .string xv] 35 (0, 0)) := (hgrow.block _ (by simp; omega) (own_ne hown (Nat.le_refl _))).trans (heap_old _ (heap_new1 wr _))
      have HO1 := Lib.hid (own_len (n' := rs.length + 1) q1 (by simp))
      have HT1 := Lib.hid q2
      have HBX1 := Lib.hid hbx
      obtain ⟨cx, fx, zx⟩ := blk_of hbx
      clear hown hown' hgrow q1 q2 hbx HTb
      by_cases k2 : 2 ≤ xk
      case neg =>
        have d2 : decide (2 ≤ xk) = false := decide_eq_false k2
        have d4 : (xk == 4) = false := by (rw [beq_eq_false_iff_ne]; omega)
        have HR := Lib.hid (show rolesS ⟨xk, ⟨x1, x2⟩, xw, ⟨x3, x4⟩, ⟨x5, x6⟩, xv⟩ = [⟨x1, x2⟩] by simp only [rolesS]; rw [if_neg (show ¬ (xk = 2 ∨ xk = 3) by omega), if_neg (show ¬ xk = 4 by omega)])
        clear k2
        go_wp2_with fail
        exact ⟨⟨k + 1, rs ++ [⟨x1, x2⟩], by omega, by go_num, Lib.hid (by simp only [List.length_append, List.length_cons, List.length_nil]; omega), Lib.hid (le_snoc HZ.out (x := ⟨x1, x2⟩) l1), HT1, HO1, Lib.hid (by rw [HF.out, HR.out, HE.out] <;> simp)⟩, by simp [intOf]; omega⟩
      have d2 : decide (2 ≤ xk) = true := decide_eq_true k2
      by_cases k4 : xk ≤ 4
      case neg =>
        have d3 : decide (xk ≤ 4) = false := decide_eq_false k4
        have d4 : (xk == 4) = false := by (rw [beq_eq_false_iff_ne]; omega)
        have HR := Lib.hid (show rolesS ⟨xk, ⟨x1, x2⟩, xw, ⟨x3, x4⟩, ⟨x5, x6⟩, xv⟩ = [⟨x1, x2⟩] by simp only [rolesS]; rw [if_neg (show ¬ (xk = 2 ∨ xk = 3) by omega), if_neg (show ¬ xk = 4 by omega)])
        clear k2 k4
        go_wp2_with fail
        exact ⟨⟨k + 1, rs ++ [⟨x1, x2⟩], by omega, by go_num, Lib.hid (by simp only [List.length_append, List.length_cons, List.length_nil]; omega), Lib.hid (le_snoc HZ.out (x := ⟨x1, x2⟩) l1), HT1, HO1, Lib.hid (by rw [HF.out, HR.out, HE.out] <;> simp)⟩, by simp [intOf]; omega⟩
      have d3 : decide (xk ≤ 4) = true := decide_eq_true k4
      have hown := HO1.out
      go_wp2_with (at_builtin; refine halt_ ?_)
      unfold Halt_
      refine app_own Tryz.underlying23 rl_info' rfl (by decide) (by decide) rfl _ _ rfl (w.heap.size + 1) rfl (hown.alloc _) [.string x3, .string x4] rfl (heap_new1 _ _) rfl (rl1 _ _) ?_ ?_ ?_
      · first | omega | (simp only [List.length_append, List.length_cons, List.length_nil]; omega)
      · have := HT1.out.a.2.2; simp; omega
      intro a' cap' w3 hown' hgrow
      obtain ⟨q1, q2⟩ := push_role (x := ⟨x3, x4⟩) HT1.out hown hown' hgrow
      have hbx : w3.heap[wr.heap.size]? = some (.cells #[.int .i64 xk, .string x1, .string x2, .string xw, .string x3, .string x4, .string x5, .string x6, .string xv] 35 (0, 0)) := (hgrow.block _ (Nat.lt_of_lt_of_le (Array.getElem?_eq_some_iff.1 HBX1.out).1 (by simp)) (own_tag hown HBX1.out (by decide))).trans (heap_old _ HBX1.out)
      have HO2 := Lib.hid (own_len (n' := rs.length + 1 + 1) q1 (by simp))
      have HT2 := Lib.hid q2
      have HBX2 := Lib.hid hbx
      obtain ⟨cx, fx, zx⟩ := blk_of hbx
      clear hown hown' hgrow q1 q2 hbx
      by_cases k44 : xk = 4
      case neg =>
        have d4 : (xk == 4) = false := by (rw [beq_eq_false_iff_ne]; omega)
        have HR := Lib.hid (show rolesS ⟨xk, ⟨x1, x2⟩, xw, ⟨x3, x4⟩, ⟨x5, x6⟩, xv⟩ = [⟨x1, x2⟩, ⟨x3, x4⟩] by simp only [rolesS]; rw [if_pos (show xk = 2 ∨ xk = 3 by omega)])
        clear k2 k4 k44
        go_wp2_with fail
        exact ⟨⟨k + 1, rs ++ [⟨x1, x2⟩] ++ [⟨x3, x4⟩], by omega, by go_num, Lib.hid (by simp only [List.length_append, List.length_cons, List.length_nil]; omega), Lib.hid (le_snoc (le_snoc HZ.out (x := ⟨x1, x2⟩) l1) (x := ⟨x3, x4⟩) l2), HT2, HO2, Lib.hid (by rw [HF.out, HR.out, HE.out] <;> simp)⟩, by simp [intOf]; omega⟩
      have d4 : (xk == 4) = true := by simp [k44]
      have HR := Lib.hid (show rolesS ⟨xk, ⟨x1, x2⟩, xw, ⟨x3, x4⟩, ⟨x5, x6⟩, xv⟩ = [⟨x1, x2⟩, ⟨x3, x4⟩, ⟨x5, x6⟩] by simp only [rolesS]; rw [if_neg (show ¬ (xk = 2 ∨ xk = 3) by omega), if_pos k44])
      clear k2 k4 k44
      have hown := HO2.out
      go_wp2_with (at_builtin; refine halt_ ?_)
      unfold Halt_
      refine app_own Tryz.underlying23 rl_info' rfl (by decide) (by decide) rfl _ _ rfl (w.heap.size + 1) rfl (hown.alloc _) [.string x5, .string x6] rfl (heap_new1 _ _) rfl (rl1 _ _) ?_ ?_ ?_
      · first | omega | (simp only [List.length_append, List.length_cons, List.length_nil]; omega)
      · have := HT2.out.a.2.2; simp; omega
      intro a' cap' w3 hown' hgrow
      obtain ⟨q1, q2⟩ := push_role (x := ⟨x5, x6⟩) HT2.out hown hown' hgrow
      have HO3 := Lib.hid (own_len (n' := rs.length + 1 + 1 + 1) q1 (by simp))
      have HT3 := Lib.hid q2
      clear hown hown' hgrow q1 q2
      go_wp2_with fail
      exact ⟨⟨k + 1, rs ++ [⟨x1, x2⟩] ++ [⟨x3, x4⟩] ++ [⟨x5, x6⟩], by omega, by go_num, Lib.hid (by simp only [List.length_append, List.length_cons, List.length_nil]; omega), Lib.hid (le_snoc (le_snoc (le_snoc HZ.out (x := ⟨x1, x2⟩) l1) (x := ⟨x3, x4⟩) l2) (x := ⟨x5, x6⟩) l3), HT3, HO3, Lib.hid (by rw [HF.out, HR.out, HE.out] <;> simp)⟩, by simp [intOf]; omega⟩
    · obtain ⟨ca, fa, za⟩ := HT.out.a
      have hn0 : rs.length ≤ 300 := by omega
      have HE0 := Lib.hid (show rs = l.flatMap rolesS by rw [HE.out, List.take_of_length_le (show l.length ≤ k by omega)])
      clear hrs HC hk HE
      go_wp2_with fail
      clear ca fa za
      go_loopw [3, 49] (fun vo i wr => ∃ (k : Nat) (rs : List Rl), k ≤ g.length ∧ i = .int .i64 k ∧ Hid (rs.length ≤ 300 + k) ∧ Hid (∀ x ∈ rs, x.le 9223372036854775807) ∧ Hid (OneAt w #[.slice a0 l.length c0, .slice a1 g.length c1, .slice a2 h.length c2, .slice a3 qs.length c3] wr) ∧ Hid (wr.ownsRow (w.heap.size + 1) 28 2 vo rs.length (rs.flatMap Rl.cells)) ∧ Hid (rs = l.flatMap rolesS ++ g.take k)) (fun _ i _ => g.length - (intOf i).toNat)
      case atStart => exact ⟨0, rs, by omega, rfl, Lib.hid hn0, HZ, HT, HO, Lib.hid (by rw [HE0.out]; simp)⟩
      case round =>
        clear HT HZ HO hn0 HE0
        obtain ⟨k, rs, hk, rfl, HC, HZ, HT, HO, HE⟩ := hrel
        obtain ⟨oo, oc, rfl⟩ := own_form HO.out
        have hrs := HC.out
        by_cases hlt : k < g.length
        · obtain ⟨b1, o1, e1, he1, hc1, hm1', hb1, hx1⟩ := HP.out.rg.pos (by omega)
          simp only [Value.slice.injEq, true_and] at he1
          obtain ⟨rfl, rfl⟩ := he1
          obtain ⟨p0, p1⟩ := rl_cell (w := wr) (fun j u hu => (HT.out.low.cell (p := ⟨b1, o1 + j, none⟩) hb1).trans (hx1 j u hu)) k hlt
          have hbr : b1 < wr.heap.size := Nat.lt_of_lt_of_le hb1 HT.out.low.size
          have l1 := HP.out.lg _ (List.getElem_mem hlt)
          have HF := Lib.hid (take_snoc hlt)
          clear hx1
          generalize g[k] = x at *
          obtain ⟨x1, x2⟩ := x
          have hown := HO.out
          go_wp2_with (at_builtin; refine halt_ ?_)
          unfold Halt_
          refine app_own Tryz.underlying23 rl_info' rfl (by decide) (by decide) rfl _ _ rfl (w.heap.size + 1) rfl ((hown.alloc _).alloc _) [.string x1, .string x2] rfl (heap_new2 _ _ _) rfl (rl1 _ _) ?_ ?_ ?_
          · first | omega | (simp only [List.length_append, List.length_cons, List.length_nil]; omega)
          · have := HT.out.a.2.2; simp; omega
          intro a' cap' w3 hown' hgrow
          have HTb := HT.out.alloc (.cells #[.string x1, .string x2] 28)
          obtain ⟨q1, q2⟩ := push_role (x := ⟨x1, x2⟩) HTb (hown.alloc _) hown' hgrow
          have HO1 := Lib.hid (own_len (n' := rs.length + 1) q1 (by simp))
          have HT1 := Lib.hid q2
          clear hown hown' hgrow q1 q2 HTb
          go_wp2_with fail
          exact ⟨⟨k + 1, rs ++ [⟨x1, x2⟩], by omega, by go_num, Lib.hid (by simp only [List.length_append, List.length_cons, List.length_nil]; omega), Lib.hid (le_snoc HZ.out (x := ⟨x1, x2⟩) l1), HT1, HO1, Lib.hid (by rw [HF.out, HE.out] <;> simp)⟩, by simp [intOf]; omega⟩
        · obtain ⟨ca, fa, za⟩ := HT.out.a
          have hn0 : rs.length ≤ 400 := by omega
          have HE0 := Lib.hid (show rs = l.flatMap rolesS ++ g by rw [HE.out, List.take_of_length_le (show g.length ≤ k by omega)])
          clear hrs HC hk HE
          go_wp2_with fail
          clear ca fa za
          go_loopw [3, 61] (fun vo i wr => ∃ (k : Nat) (rs : List Rl), k ≤ h.length ∧ i = .int .i64 k ∧ Hid (rs.length ≤ 400 + k) ∧ Hid (∀ x ∈ rs, x.le 9223372036854775807) ∧ Hid (OneAt w #[.slice a0 l.length c0, .slice a1 g.length c1, .slice a2 h.length c2, .slice a3 qs.length c3] wr) ∧ Hid (wr.ownsRow (w.heap.size + 1) 28 2 vo rs.length (rs.flatMap Rl.cells)) ∧ Hid (rs = l.flatMap rolesS ++ g ++ h.take k)) (fun _ i _ => h.length - (intOf i).toNat)
          case atStart => exact ⟨0, rs, by omega, rfl, Lib.hid hn0, HZ, HT, HO, Lib.hid (by rw [HE0.out]; simp)⟩
          case round =>
            clear HT HZ HO hn0 HE0
            obtain ⟨k, rs, hk, rfl, HC, HZ, HT, HO, HE⟩ := hrel
            obtain ⟨oo, oc, rfl⟩ := own_form HO.out
            have hrs := HC.out
            by_cases hlt : k < h.length
            · obtain ⟨b1, o1, e1, he1, hc1, hm1', hb1, hx1⟩ := HP.out.rh.pos (by omega)
              simp only [Value.slice.injEq, true_and] at he1
              obtain ⟨rfl, rfl⟩ := he1
              obtain ⟨p0, p1⟩ := rl_cell (w := wr) (fun j u hu => (HT.out.low.cell (p := ⟨b1, o1 + j, none⟩) hb1).trans (hx1 j u hu)) k hlt
              have hbr : b1 < wr.heap.size := Nat.lt_of_lt_of_le hb1 HT.out.low.size
              have l1 := HP.out.lh _ (List.getElem_mem hlt)
              have HF := Lib.hid (take_snoc hlt)
              clear hx1
              generalize h[k] = x at *
              obtain ⟨x1, x2⟩ := x
              have hown := HO.out
              go_wp2_with (at_builtin; refine halt_ ?_)
              unfold Halt_
              refine app_own Tryz.underlying23 rl_info' rfl (by decide) (by decide) rfl _ _ rfl (w.heap.size + 1) rfl ((hown.alloc _).alloc _) [.string x1, .string x2] rfl (heap_new2 _ _ _) rfl (rl1 _ _) ?_ ?_ ?_
              · first | omega | (simp only [List.length_append, List.length_cons, List.length_nil]; omega)
              · have := HT.out.a.2.2; simp; omega
              intro a' cap' w3 hown' hgrow
              have HTb := HT.out.alloc (.cells #[.string x1, .string x2] 28)
              obtain ⟨q1, q2⟩ := push_role (x := ⟨x1, x2⟩) HTb (hown.alloc _) hown' hgrow
              have HO1 := Lib.hid (own_len (n' := rs.length + 1) q1 (by simp))
              have HT1 := Lib.hid q2
              clear hown hown' hgrow q1 q2 HTb
              go_wp2_with fail
              exact ⟨⟨k + 1, rs ++ [⟨x1, x2⟩], by omega, by go_num, Lib.hid (by simp only [List.length_append, List.length_cons, List.length_nil]; omega), Lib.hid (le_snoc HZ.out (x := ⟨x1, x2⟩) l1), HT1, HO1, Lib.hid (by rw [HF.out, HE.out] <;> simp)⟩, by simp [intOf]; omega⟩
            · obtain ⟨ca, fa, za⟩ := HT.out.a
              have hn0 : rs.length ≤ 500 := by omega
              have HE0 := Lib.hid (show rs = l.flatMap rolesS ++ g ++ h by rw [HE.out, List.take_of_length_le (show h.length ≤ k by omega)])
              clear hrs HC hk HE
              go_wp2_with fail
              clear ca fa za
              go_loopw [3, 73] (fun vo i wr => ∃ (k : Nat) (rs : List Rl), k ≤ qs.length ∧ i = .int .i64 k ∧ Hid (rs.length ≤ 500 + 2 * k) ∧ Hid (∀ x ∈ rs, x.le 9223372036854775807) ∧ Hid (OneAt w #[.slice a0 l.length c0, .slice a1 g.length c1, .slice a2 h.length c2, .slice a3 qs.length c3] wr) ∧ Hid (wr.ownsRow (w.heap.size + 1) 28 2 vo rs.length (rs.flatMap Rl.cells)) ∧ Hid (rs = l.flatMap rolesS ++ g ++ h ++ (qs.take k).flatMap rolesQ)) (fun _ i _ => qs.length - (intOf i).toNat)
              case atStart => exact ⟨0, rs, by omega, rfl, Lib.hid hn0, HZ, HT, HO, Lib.hid (by rw [HE0.out]; simp)⟩
              case round =>
                clear HT HZ HO hn0 HE0
                obtain ⟨k, rs, hk, rfl, HC, HZ, HT, HO, HE⟩ := hrel
                obtain ⟨oo, oc, rfl⟩ := own_form HO.out
                have hrs := HC.out
                by_cases hlt : k < qs.length
                · obtain ⟨b1, o1, e1, he1, hc1, hm1', hb1, hx1⟩ := HP.out.rq.pos (by omega)
                  simp only [Value.slice.injEq, true_and] at he1
                  obtain ⟨rfl, rfl⟩ := he1
                  obtain ⟨p0, p1, p2, p3, p4, p5⟩ := q_cell (w := wr) (fun j u hu => (HT.out.low.cell (p := ⟨b1, o1 + j, none⟩) hb1).trans (hx1 j u hu)) k hlt
                  have hbr : b1 < wr.heap.size := Nat.lt_of_lt_of_le hb1 HT.out.low.size
                  have hqo := HP.out.lq _ (List.getElem_mem hlt)
                  have l1 := hqo.1
                  have l2 := hqo.2.1
                  obtain ⟨wo, wc, hw5⟩ : ∃ a c, qs[k].w = .slice a ((hqo.2.2).choose).length c := ((hqo.2.2).choose_spec.1).form
                  generalize (hqo.2.2).choose.length = nw at hw5
                  have HF := Lib.hid (flat_snocF rolesQ hlt)
                  clear hx1 hqo
                  generalize qs[k] = x at *
                  obtain ⟨xk, ⟨x1, x2⟩, ⟨x3, x4⟩, xw⟩ := x
                  dsimp only at hw5
                  subst hw5
                  have hown := HO.out
                  go_wp2_with (at_builtin; refine halt_ ?_)
                  unfold Halt_
                  refine app_own Tryz.underlying23 rl_info' rfl (by decide) (by decide) rfl _ _ rfl (w.heap.size + 1) rfl ((hown.alloc _).alloc _) [.string x1, .string x2] rfl (heap_new2 _ _ _) rfl (rl1 _ _) ?_ ?_ ?_
                  · first | omega | (simp only [List.length_append, List.length_cons, List.length_nil]; omega)
                  · have := HT.out.a.2.2; simp; omega
                  intro a' cap' w3 hown' hgrow
                  have HTb := HT.out.alloc (.cells #[.int .i64 xk, .string x1, .string x2, .string x3, .string x4, .slice wo nw wc] 71)
                  obtain ⟨q1, q2⟩ := push_role (x := ⟨x1, x2⟩) HTb (hown.alloc _) hown' hgrow
                  have hbx : w3.heap[wr.heap.size]? = some (.cells #[.int .i64 xk, .string x1, .string x2, .string x3, .string x4, .slice wo nw wc] 71 (0, 0)) := (hgrow.block _ (by simp; omega) (own_ne hown (Nat.le_refl _))).trans (heap_old _ (heap_new1 wr _))
                  have HO1 := Lib.hid (own_len (n' := rs.length + 1) q1 (by simp))
                  have HT1 := Lib.hid q2
                  have HBX1 := Lib.hid hbx
                  obtain ⟨cx, fx, zx⟩ := blk_of hbx
                  clear hown hown' hgrow q1 q2 hbx HTb
                  by_cases k5 : xk = 5 ∨ xk = 6
                  case neg =>
                    have d5 : (xk == 5) = false := by (rw [beq_eq_false_iff_ne]; omega)
                    have d6 : (xk == 6) = false := by (rw [beq_eq_false_iff_ne]; omega)
                    have HR := Lib.hid (show rolesQ ⟨xk, ⟨x1, x2⟩, ⟨x3, x4⟩, .slice wo nw wc⟩ = [⟨x1, x2⟩] from if_neg k5)
                    clear k5
                    go_wp2_with fail
                    exact ⟨⟨k + 1, rs ++ [⟨x1, x2⟩], by omega, by go_num, Lib.hid (by simp only [List.length_append, List.length_cons, List.length_nil]; omega), Lib.hid (le_snoc HZ.out (x := ⟨x1, x2⟩) l1), HT1, HO1, Lib.hid (by rw [HF.out, HR.out, HE.out] <;> simp)⟩, by simp [intOf]; omega⟩
                  have HR := Lib.hid (show rolesQ ⟨xk, ⟨x1, x2⟩, ⟨x3, x4⟩, .slice wo nw wc⟩ = [⟨x1, x2⟩, ⟨x3, x4⟩] from if_pos k5)
                  by_cases k6 : xk = 5
                  case pos =>
                    have d5 : (xk == 5) = true := by simp [k6]
                    clear k5 k6
                    have hown := HO1.out
                    go_wp2_with (at_builtin; refine halt_ ?_)
                    unfold Halt_
                    refine app_own Tryz.underlying23 rl_info' rfl (by decide) (by decide) rfl _ _ rfl (w.heap.size + 1) rfl (hown.alloc _) [.string x3, .string x4] rfl (heap_new1 _ _) rfl (rl1 _ _) ?_ ?_ ?_
                    · first | omega | (simp only [List.length_append, List.length_cons, List.length_nil]; omega)
                    · have := HT1.out.a.2.2; simp; omega
                    intro a' cap' w3 hown' hgrow
                    obtain ⟨q1, q2⟩ := push_role (x := ⟨x3, x4⟩) HT1.out hown hown' hgrow
                    have HO2 := Lib.hid (own_len (n' := rs.length + 1 + 1) q1 (by simp))
                    have HT2 := Lib.hid q2
                    clear hown hown' hgrow q1 q2
                    go_wp2_with fail
                    exact ⟨⟨k + 1, rs ++ [⟨x1, x2⟩] ++ [⟨x3, x4⟩], by omega, by go_num, Lib.hid (by simp only [List.length_append, List.length_cons, List.length_nil]; omega), Lib.hid (le_snoc (le_snoc HZ.out (x := ⟨x1, x2⟩) l1) (x := ⟨x3, x4⟩) l2), HT2, HO2, Lib.hid (by rw [HF.out, HR.out, HE.out] <;> simp)⟩, by simp [intOf]; omega⟩
                  have d5 : (xk == 5) = false := by (rw [beq_eq_false_iff_ne]; omega)
                  have d6 : (xk == 6) = true := by (rw [beq_iff_eq]; omega)
                  clear k5 k6
                  have hown := HO1.out
                  go_wp2_with (at_builtin; refine halt_ ?_)
                  unfold Halt_
                  refine app_own Tryz.underlying23 rl_info' rfl (by decide) (by decide) rfl _ _ rfl (w.heap.size + 1) rfl (hown.alloc _) [.string x3, .string x4] rfl (heap_new1 _ _) rfl (rl1 _ _) ?_ ?_ ?_
                  · first | omega | (simp only [List.length_append, List.length_cons, List.length_nil]; omega)
                  · have := HT1.out.a.2.2; simp; omega
                  intro a' cap' w3 hown' hgrow
                  obtain ⟨q1, q2⟩ := push_role (x := ⟨x3, x4⟩) HT1.out hown hown' hgrow
                  have HO2 := Lib.hid (own_len (n' := rs.length + 1 + 1) q1 (by simp))
                  have HT2 := Lib.hid q2
                  clear hown hown' hgrow q1 q2
                  go_wp2_with fail
                  exact ⟨⟨k + 1, rs ++ [⟨x1, x2⟩] ++ [⟨x3, x4⟩], by omega, by go_num, Lib.hid (by simp only [List.length_append, List.length_cons, List.length_nil]; omega), Lib.hid (le_snoc (le_snoc HZ.out (x := ⟨x1, x2⟩) l1) (x := ⟨x3, x4⟩) l2), HT2, HO2, Lib.hid (by rw [HF.out, HR.out, HE.out] <;> simp)⟩, by simp [intOf]; omega⟩
                · have HSL := Lib.hid (Sl.of_own HO.out).a
                  have HA := Lib.hid (show rs = allRoles l g h qs by rw [HE.out, List.take_of_length_le (show qs.length ≤ k by omega)]; rfl)
                  go_wp2
                  go_ret
                  exact ⟨_, rfl, by rw [← HA.out]; exact HSL.out, by rw [← HA.out]; omega, by rw [← HA.out]; exact HZ.out, HT.out.low⟩
end Go.Proofs.YtnnieegddbcfcaaGreatDoor
namespace Go.Proofs.YtnnieegddbcfcaaGreatDoor
open Go.RowKit Go.Shelf

theorem insAll_snocB : ∀ (acc l : List ByteArray) (x : ByteArray), insAllB acc (l ++ [x]) = insSB (insAllB acc l) x
  | _, [], _ => rfl
  | acc, a :: l, x => insAll_snocB (insSB acc a) l x
theorem new_snoc (l : List ByteArray) (x : ByteArray) : newB (l ++ [x]) = insSB (newB l) x := insAll_snocB [] l x
/-- A value is the row, in order, each once, of these at most n texts. -/
def NewAt (w : World) (v : Value) (xs : List ByteArray) (n : Nat) : Prop := SlA w 1 v (newB xs).length (strs (newB xs)) ∧ xs.length ≤ n
theorem NewAt.below {w w' : World} {v : Value} {xs : List ByteArray} {n : Nat} (h : NewAt w v xs n) (hb : Below w.heap.size w w') : NewAt w' v xs n := ⟨h.1.below hb, h.2⟩
theorem NewAt.mono {w : World} {v : Value} {xs : List ByteArray} {n m : Nat} (h : NewAt w v xs n) (hm : n ≤ m) : NewAt w v xs m := ⟨h.1, Nat.le_trans h.2 hm⟩
theorem NewAt.nil (w : World) : NewAt w (.slice none 0 0) [] 0 := ⟨(Sl.nil _ _).a, Nat.le_refl _⟩
theorem NewAt.eq {w : World} {v : Value} {xs ys : List ByteArray} {n : Nat} (h : NewAt w v xs n) (e : ys = xs) : NewAt w v ys n := by rw [e]; exact h
theorem put_new (v : Value) (n : Nat) (xs : List ByteArray) (s : ByteArray) (w : World) (h : NewAt w v xs n) (hn : n ≤ 100000) :
    Calls Tryz.prog 87 #[v, .string s] w fun e w' => ∃ v', e = .returned v' ∧ NewAt w' v' (xs ++ [s]) (n + 1) ∧ Below w.heap.size w w' := by
  refine (ref1_PutB v (newB xs) s w h.1 (Nat.le_trans (new_len xs) (Nat.le_trans h.2 hn))).mono ?_
  rintro e w' ⟨v', he, hr, hb⟩
  exact ⟨v', he, ⟨by rw [new_snoc]; exact hr, by rw [List.length_append]; exact Nat.succ_le_succ h.2⟩, hb⟩
def whoS (s : St) : List ByteArray := if s.k = 1 then [s.who] else []
def viaS (s : St) : List ByteArray := if s.k = 3 then [s.via] else []
/-- All principals that a policy names, and all names of roles. -/
def allPrins (l : List St) (g h : List Rl) (qs : List Qv) (F : Qv → List ByteArray) : List ByteArray := (allRoles l g h qs).map Rl.o ++ l.flatMap whoS ++ qs.flatMap F
def allNames (l : List St) (g h : List Rl) (qs : List Qv) : List ByteArray := (allRoles l g h qs).map Rl.n ++ l.flatMap viaS
/-- The texts of a policy's queries. -/
def WhoF (w : World) (qs : List Qv) (F : Qv → List ByteArray) : Prop := ∀ q ∈ qs, SlA w 1 q.w (F q).length (strs (F q)) ∧ (F q).length ≤ 40
theorem WhoF.below {w w' : World} {qs : List Qv} {F : Qv → List ByteArray} (h : WhoF w qs F) (hb : Below w.heap.size w w') : WhoF w' qs F := fun q hq => ⟨(h q hq).1.below hb, (h q hq).2⟩

set_option maxRecDepth 100000 in
set_option maxHeartbeats 8000000 in
theorem ref5_PrinsL (v0 v1 v2 v3 : Value) (l : List St) (g h : List Rl) (qs : List Qv) (w : World) (hp : PolAt w v0 v1 v2 v3 l g h qs) (hl : l.length ≤ 100) (hg : g.length ≤ 100) (hh : h.length ≤ 100) (hq : qs.length ≤ 100) (F : Qv → List ByteArray) (hF : WhoF w qs F) :
    Calls Tryz.prog 34 #[pv v0 v1 v2 v3] w fun e w' => ∃ v, e = .returned v ∧ NewAt w' v (allPrins l g h qs F) 10000 ∧ Below w.heap.size w w' := by
  have HP := Lib.hid hp
  have HR := Lib.hid (fun W (hb : Below w.heap.size w W) => ref5_RolesL v0 v1 v2 v3 l g h qs W (hp.below hb) hl hg hh hq)
  have HQ4 := Lib.hid hF
  obtain ⟨a0, c0, rfl⟩ := hp.rs.form
  obtain ⟨a1, c1, rfl⟩ := hp.rg.form
  obtain ⟨a2, c2, rfl⟩ := hp.rh.form
  obtain ⟨a3, c3, rfl⟩ := hp.rq.form
  have HT := Lib.hid (show OneAt w #[.slice a0 l.length c0, .slice a1 g.length c1, .slice a2 h.length c2, .slice a3 qs.length c3] (w.alloc (.cells #[.slice a0 l.length c0, .slice a1 g.length c1, .slice a2 h.length c2, .slice a3 qs.length c3] 26)) from ⟨Blk.new w _ _, (Below.refl _ _).alloc (Nat.le_refl _) _⟩)
  clear hp hF
  go_enter Tryz.func34, Tryz.ntmps34
  go_wp2_with fail
  refine (HR.out _ HT.out.low).mono ?_
  rintro e w1 ⟨vr, rfl, hr1, hr2, hr3, hb1⟩
  have HT := Lib.hid (HT.out.later hb1)
  have HRES := Lib.hid (show allPrins l g h qs F = ((allRoles l g h qs).map Rl.o ++ l.flatMap whoS) ++ qs.flatMap F from rfl)
  generalize allRoles l g h qs = rs at *
  have HRS := Lib.hid hr1
  have HRL := Lib.hid hr3
  obtain ⟨ro, rc, rfl⟩ := hr1.form
  clear hb1 hr1 hr3
  go_wp2_with fail
  go_loopw [3, 15] (fun vo i wr => ∃ (k : Nat) (vx : Value), k ≤ rs.length ∧ vx = vo ∧ i = .int .i64 k ∧ Hid (NewAt wr vx ((rs.take k).map Rl.o) k) ∧ Hid (OneAt w #[.slice a0 l.length c0, .slice a1 g.length c1, .slice a2 h.length c2, .slice a3 qs.length c3] wr) ∧ Hid (Below w1.heap.size w1 wr)) (fun _ i _ => rs.length - (intOf i).toNat)
  case atStart => exact ⟨0, _, by omega, rfl, rfl, Lib.hid (NewAt.nil _), HT, Lib.hid (Below.refl _ _)⟩
  case round =>
    clear HT
    obtain ⟨k, vx, hk, rfl, rfl, HO, HT, HB⟩ := hrel
    by_cases hlt : k < rs.length
    · obtain ⟨b1, o1, e1, he1, hc1, hm1', hb1, hx1⟩ := HRS.out.pos (by omega)
      simp only [Value.slice.injEq, true_and] at he1
      obtain ⟨rfl, rfl⟩ := he1
      obtain ⟨p0, p1⟩ := rl_cell (w := wr) (fun j u hu => (HB.out.cell (p := ⟨b1, o1 + j, none⟩) hb1).trans (hx1 j u hu)) k hlt
      have hbr : b1 < wr.heap.size := Nat.lt_of_lt_of_le hb1 HB.out.size
      have HF := Lib.hid (take_snoc hlt)
      clear hx1
      generalize rs[k] = x at *
      obtain ⟨x1, x2⟩ := x
      have hba : Below wr.heap.size wr (wr.alloc (.cells #[.string x1, .string x2] 28)) := (Below.refl _ _).alloc (Nat.le_refl _) _
      have PC := Lib.hid (put_new vx k _ x1 _ (HO.out.below hba) (by omega))
      have HT2 := Lib.hid (HT.out.later hba)
      have HB2 := Lib.hid (HB.out.trans (hba.mono HB.out.size))
      clear hba
      go_wp2_with fail
      refine PC.out.mono ?_
      rintro e w3 ⟨vz, rfl, hr, hb3⟩
      have HR3 := Lib.hid hr
      have HT3 := Lib.hid (HT2.out.later hb3)
      have HB3 := Lib.hid (HB2.out.trans (hb3.mono HB2.out.size))
      clear hr hb3
      go_wp2
      exact ⟨⟨k + 1, _, by omega, rfl, by go_num, Lib.hid (HR3.out.eq (by rw [HF.out, List.map_append]; rfl)), HT3, HB3⟩, by simp [intOf]; omega⟩
    · obtain ⟨ca, fa, za⟩ := HT.out.a
      have HO := Lib.hid ((HO.out.mono (show k ≤ 1000 by omega)).eq (ys := rs.map Rl.o) (by rw [List.take_of_length_le (show rs.length ≤ k by omega)]))
      clear HB HRS HRL hk
      go_wp2_with fail
      clear ca fa za
      go_loopw [3, 27] (fun vo i wr => ∃ (k : Nat) (vx : Value), k ≤ l.length ∧ vx = vo ∧ i = .int .i64 k ∧ Hid (NewAt wr vx (rs.map Rl.o ++ (l.take k).flatMap whoS) (1000 + k)) ∧ Hid (OneAt w #[.slice a0 l.length c0, .slice a1 g.length c1, .slice a2 h.length c2, .slice a3 qs.length c3] wr)) (fun _ i _ => l.length - (intOf i).toNat)
      case atStart => exact ⟨0, _, by omega, rfl, rfl, Lib.hid (HO.out.eq (by simp)), HT⟩
      case round =>
        clear HT HO
        obtain ⟨k, vx, hk, rfl, rfl, HO, HT⟩ := hrel
        by_cases hlt : k < l.length
        · obtain ⟨b1, o1, e1, he1, hc1, hm1', hb1, hx1⟩ := HP.out.rs.pos (by omega)
          simp only [Value.slice.injEq, true_and] at he1
          obtain ⟨rfl, rfl⟩ := he1
          obtain ⟨p0, p1, p2, p3, p4, p5, p6, p7, p8⟩ := st_cell (w := wr) (fun j u hu => (HT.out.low.cell (p := ⟨b1, o1 + j, none⟩) hb1).trans (hx1 j u hu)) k hlt
          have hbr : b1 < wr.heap.size := Nat.lt_of_lt_of_le hb1 HT.out.low.size
          have HF := Lib.hid (flat_snocF whoS hlt)
          clear hx1
          generalize l[k] = x at *
          obtain ⟨xk, ⟨x1, x2⟩, xw, ⟨x3, x4⟩, ⟨x5, x6⟩, xv⟩ := x
          have hba : Below wr.heap.size wr (wr.alloc (.cells #[.int .i64 xk, .string x1, .string x2, .string xw, .string x3, .string x4, .string x5, .string x6, .string xv] 35)) := (Below.refl _ _).alloc (Nat.le_refl _) _
          have PC := Lib.hid (put_new vx (1000 + k) _ xw _ (HO.out.below hba) (by omega))
          have HT2 := Lib.hid (HT.out.later hba)
          have HO2 := Lib.hid (HO.out.below hba)
          clear hba
          by_cases hkk : xk = 1
          · have d1 : (xk == 1) = true := by simp [hkk]
            have HK := Lib.hid (show whoS ⟨xk, ⟨x1, x2⟩, xw, ⟨x3, x4⟩, ⟨x5, x6⟩, xv⟩ = [xw] from if_pos hkk)
            clear hkk
            go_wp2_with fail
            refine PC.out.mono ?_
            rintro e w3 ⟨vz, rfl, hr, hb3⟩
            have HR3 := Lib.hid hr
            have HT3 := Lib.hid (HT2.out.later hb3)
            clear hr hb3
            go_wp2
            exact ⟨⟨k + 1, _, by omega, rfl, by go_num, Lib.hid (HR3.out.eq (by rw [HF.out, HK.out, List.append_assoc])), HT3⟩, by simp [intOf]; omega⟩
          · have d1 : (xk == 1) = false := by simp [hkk]
            have HK := Lib.hid (show whoS ⟨xk, ⟨x1, x2⟩, xw, ⟨x3, x4⟩, ⟨x5, x6⟩, xv⟩ = [] from if_neg hkk)
            clear hkk
            go_wp2
            exact ⟨⟨k + 1, _, by omega, rfl, by go_num, Lib.hid ((HO2.out.mono (by omega)).eq (by rw [HF.out, HK.out, List.append_nil])), HT2⟩, by simp [intOf]; omega⟩
        · obtain ⟨ca, fa, za⟩ := HT.out.a
          have HO := Lib.hid ((HO.out.mono (show 1000 + k ≤ 1100 by omega)).eq (ys := rs.map Rl.o ++ l.flatMap whoS) (by rw [List.take_of_length_le (show l.length ≤ k by omega)]))
          clear hk
          go_wp2_with fail
          clear ca fa za
          go_loopw [3, 42] (fun vo i wr => ∃ (k : Nat) (vx : Value), k ≤ qs.length ∧ vx = vo ∧ i = .int .i64 k ∧ Hid (NewAt wr vx (rs.map Rl.o ++ l.flatMap whoS ++ (qs.take k).flatMap F) (1100 + 40 * k)) ∧ Hid (OneAt w #[.slice a0 l.length c0, .slice a1 g.length c1, .slice a2 h.length c2, .slice a3 qs.length c3] wr)) (fun _ i _ => qs.length - (intOf i).toNat)
          case atStart => exact ⟨0, _, by omega, rfl, rfl, Lib.hid (HO.out.eq (by simp)), HT⟩
          case round =>
            clear HT HO
            obtain ⟨k, vx, hk, rfl, rfl, HO, HT⟩ := hrel
            by_cases hlt : k < qs.length
            · obtain ⟨b1, o1, e1, he1, hc1, hm1', hb1, hx1⟩ := HP.out.rq.pos (by omega)
              simp only [Value.slice.injEq, true_and] at he1
              obtain ⟨rfl, rfl⟩ := he1
              obtain ⟨p0, p1, p2, p3, p4, p5⟩ := q_cell (w := wr) (fun j u hu => (HT.out.low.cell (p := ⟨b1, o1 + j, none⟩) hb1).trans (hx1 j u hu)) k hlt
              have hbr : b1 < wr.heap.size := Nat.lt_of_lt_of_le hb1 HT.out.low.size
              obtain ⟨hu1, hu2⟩ := HQ4.out _ (List.getElem_mem hlt)
              have HF := Lib.hid (flat_snocF F hlt)
              generalize F qs[k] = us at hu1 hu2 HF
              have HU := Lib.hid hu1
              obtain ⟨wo, wc, hw5⟩ := hu1.form
              clear hx1 hu1
              generalize qs[k] = x at *
              obtain ⟨xk, ⟨x1, x2⟩, ⟨x3, x4⟩, xw⟩ := x
              dsimp only at hw5 HU
              subst hw5
              obtain ⟨nw, hnw⟩ : ∃ nw, nw = us.length := ⟨_, rfl⟩
              have HNW := Lib.hid hnw
              rw [← hnw] at p5 HU hu2
              clear hnw
              have hba : Below wr.heap.size wr (wr.alloc (.cells #[.int .i64 xk, .string x1, .string x2, .string x3, .string x4, .slice wo nw wc] 71)) := (Below.refl _ _).alloc (Nat.le_refl _) _
              have HT2 := Lib.hid (HT.out.later hba)
              have HO2 := Lib.hid (HO.out.below hba)
              clear hba
              go_wp2_with fail
              go_loopw [3, 49] (fun vo i wr => ∃ (j : Nat) (vx : Value), j ≤ nw ∧ vx = vo ∧ i = .int .i64 j ∧ Hid (NewAt wr vx (rs.map Rl.o ++ l.flatMap whoS ++ (qs.take k).flatMap F ++ us.take j) (1100 + 40 * k + j)) ∧ Hid (OneAt w #[.slice a0 l.length c0, .slice a1 g.length c1, .slice a2 h.length c2, .slice (some ⟨b1, o1, none⟩) qs.length c3] wr)) (fun _ i _ => nw - (intOf i).toNat)
              case atStart => exact ⟨0, _, by omega, rfl, rfl, Lib.hid (HO2.out.eq (by simp)), HT2⟩
              case round =>
                clear HT HO HT2 HO2
                obtain ⟨j, vx, hj, rfl, rfl, HO, HT⟩ := hrel
                by_cases hlj : j < nw
                · obtain ⟨b1, o1, e1, he1, hc1, hm1', hb1, hx1⟩ := HU.out.pos (by omega)
                  simp only [Value.slice.injEq, true_and] at he1
                  obtain ⟨rfl, rfl⟩ := he1
                  have hju : j < us.length := by have := HNW.out; omega
                  have p0 := (HT.out.low.cell (p := ⟨b1, o1 + j, none⟩) hb1).trans (hx1 j _ (strs_get hju))
                  have hbr : b1 < wr.heap.size := Nat.lt_of_lt_of_le hb1 HT.out.low.size
                  have PC := Lib.hid (put_new vx (1100 + 40 * k + j) _ us[j] _ HO.out (by omega))
                  have HFJ := Lib.hid (take_snoc hju)
                  clear hx1
                  generalize us[j] = s at *
                  go_wp2_with fail
                  refine PC.out.mono ?_
                  rintro e w3 ⟨vz, rfl, hr, hb3⟩
                  have HR3 := Lib.hid hr
                  have HT3 := Lib.hid (HT.out.later hb3)
                  clear hr hb3
                  go_wp2
                  exact ⟨⟨j + 1, _, by omega, rfl, by go_num, Lib.hid (HR3.out.eq (by rw [HFJ.out]; simp only [List.append_assoc])), HT3⟩, by simp [intOf]; omega⟩
                · have HO3 := Lib.hid ((HO.out.mono (show 1100 + 40 * k + j ≤ 1100 + 40 * (k + 1) by omega)).eq (ys := rs.map Rl.o ++ l.flatMap whoS ++ (qs.take (k + 1)).flatMap F) (by rw [HF.out, List.take_of_length_le (show us.length ≤ j by have := HNW.out; omega)]; simp only [List.append_assoc]))
                  go_wp2
                  exact ⟨⟨k + 1, _, by omega, rfl, by go_num, HO3, HT⟩, by simp [intOf]; omega⟩
            · have HO3 := Lib.hid ((HO.out.mono (show 1100 + 40 * k ≤ 10000 by omega)).eq (ys := allPrins l g h qs F) (by rw [HRES.out, List.take_of_length_le (show qs.length ≤ k by omega)]))
              go_wp2
              go_ret
              exact ⟨_, rfl, HO3.out, HT.out.low⟩

set_option maxRecDepth 100000 in
set_option maxHeartbeats 8000000 in
theorem ref5_NamesL (v0 v1 v2 v3 : Value) (l : List St) (g h : List Rl) (qs : List Qv) (w : World) (hp : PolAt w v0 v1 v2 v3 l g h qs) (hl : l.length ≤ 100) (hg : g.length ≤ 100) (hh : h.length ≤ 100) (hq : qs.length ≤ 100)  :
    Calls Tryz.prog 47 #[pv v0 v1 v2 v3] w fun e w' => ∃ v, e = .returned v ∧ NewAt w' v (allNames l g h qs) 10000 ∧ Below w.heap.size w w' := by
  have HP := Lib.hid hp
  have HR := Lib.hid (fun W (hb : Below w.heap.size w W) => ref5_RolesL v0 v1 v2 v3 l g h qs W (hp.below hb) hl hg hh hq)
  obtain ⟨a0, c0, rfl⟩ := hp.rs.form
  obtain ⟨a1, c1, rfl⟩ := hp.rg.form
  obtain ⟨a2, c2, rfl⟩ := hp.rh.form
  obtain ⟨a3, c3, rfl⟩ := hp.rq.form
  have HT := Lib.hid (show OneAt w #[.slice a0 l.length c0, .slice a1 g.length c1, .slice a2 h.length c2, .slice a3 qs.length c3] (w.alloc (.cells #[.slice a0 l.length c0, .slice a1 g.length c1, .slice a2 h.length c2, .slice a3 qs.length c3] 26)) from ⟨Blk.new w _ _, (Below.refl _ _).alloc (Nat.le_refl _) _⟩)
  clear hp 
  go_enter Tryz.func47, Tryz.ntmps47
  go_wp2_with fail
  refine (HR.out _ HT.out.low).mono ?_
  rintro e w1 ⟨vr, rfl, hr1, hr2, hr3, hb1⟩
  have HT := Lib.hid (HT.out.later hb1)
  have HRES := Lib.hid (show allNames l g h qs = ((allRoles l g h qs).map Rl.n ++ l.flatMap viaS)  from rfl)
  generalize allRoles l g h qs = rs at *
  have HRS := Lib.hid hr1
  have HRL := Lib.hid hr3
  obtain ⟨ro, rc, rfl⟩ := hr1.form
  clear hb1 hr1 hr3
  go_wp2_with fail
  go_loopw [3, 11] (fun vo i wr => ∃ (k : Nat) (vx : Value), k ≤ rs.length ∧ vx = vo ∧ i = .int .i64 k ∧ Hid (NewAt wr vx ((rs.take k).map Rl.n) k) ∧ Hid (OneAt w #[.slice a0 l.length c0, .slice a1 g.length c1, .slice a2 h.length c2, .slice a3 qs.length c3] wr) ∧ Hid (Below w1.heap.size w1 wr)) (fun _ i _ => rs.length - (intOf i).toNat)
  case atStart => exact ⟨0, _, by omega, rfl, rfl, Lib.hid (NewAt.nil _), HT, Lib.hid (Below.refl _ _)⟩
  case round =>
    clear HT
    obtain ⟨k, vx, hk, rfl, rfl, HO, HT, HB⟩ := hrel
    by_cases hlt : k < rs.length
    · obtain ⟨b1, o1, e1, he1, hc1, hm1', hb1, hx1⟩ := HRS.out.pos (by omega)
      simp only [Value.slice.injEq, true_and] at he1
      obtain ⟨rfl, rfl⟩ := he1
      obtain ⟨p0, p1⟩ := rl_cell (w := wr) (fun j u hu => (HB.out.cell (p := ⟨b1, o1 + j, none⟩) hb1).trans (hx1 j u hu)) k hlt
      have hbr : b1 < wr.heap.size := Nat.lt_of_lt_of_le hb1 HB.out.size
      have HF := Lib.hid (take_snoc hlt)
      clear hx1
      generalize rs[k] = x at *
      obtain ⟨x1, x2⟩ := x
      have hba : Below wr.heap.size wr (wr.alloc (.cells #[.string x1, .string x2] 28)) := (Below.refl _ _).alloc (Nat.le_refl _) _
      have PC := Lib.hid (put_new vx k _ x2 _ (HO.out.below hba) (by omega))
      have HT2 := Lib.hid (HT.out.later hba)
      have HB2 := Lib.hid (HB.out.trans (hba.mono HB.out.size))
      clear hba
      go_wp2_with fail
      refine PC.out.mono ?_
      rintro e w3 ⟨vz, rfl, hr, hb3⟩
      have HR3 := Lib.hid hr
      have HT3 := Lib.hid (HT2.out.later hb3)
      have HB3 := Lib.hid (HB2.out.trans (hb3.mono HB2.out.size))
      clear hr hb3
      go_wp2
      exact ⟨⟨k + 1, _, by omega, rfl, by go_num, Lib.hid (HR3.out.eq (by rw [HF.out, List.map_append]; rfl)), HT3, HB3⟩, by simp [intOf]; omega⟩
    · obtain ⟨ca, fa, za⟩ := HT.out.a
      have HO := Lib.hid ((HO.out.mono (show k ≤ 1000 by omega)).eq (ys := rs.map Rl.n) (by rw [List.take_of_length_le (show rs.length ≤ k by omega)]))
      clear HB HRS HRL hk
      go_wp2_with fail
      clear ca fa za
      go_loopw [3, 23] (fun vo i wr => ∃ (k : Nat) (vx : Value), k ≤ l.length ∧ vx = vo ∧ i = .int .i64 k ∧ Hid (NewAt wr vx (rs.map Rl.n ++ (l.take k).flatMap viaS) (1000 + k)) ∧ Hid (OneAt w #[.slice a0 l.length c0, .slice a1 g.length c1, .slice a2 h.length c2, .slice a3 qs.length c3] wr)) (fun _ i _ => l.length - (intOf i).toNat)
      case atStart => exact ⟨0, _, by omega, rfl, rfl, Lib.hid (HO.out.eq (by simp)), HT⟩
      case round =>
        clear HT HO
        obtain ⟨k, vx, hk, rfl, rfl, HO, HT⟩ := hrel
        by_cases hlt : k < l.length
        · obtain ⟨b1, o1, e1, he1, hc1, hm1', hb1, hx1⟩ := HP.out.rs.pos (by omega)
          simp only [Value.slice.injEq, true_and] at he1
          obtain ⟨rfl, rfl⟩ := he1
          obtain ⟨p0, p1, p2, p3, p4, p5, p6, p7, p8⟩ := st_cell (w := wr) (fun j u hu => (HT.out.low.cell (p := ⟨b1, o1 + j, none⟩) hb1).trans (hx1 j u hu)) k hlt
          have hbr : b1 < wr.heap.size := Nat.lt_of_lt_of_le hb1 HT.out.low.size
          have HF := Lib.hid (flat_snocF viaS hlt)
          clear hx1
          generalize l[k] = x at *
          obtain ⟨xk, ⟨x1, x2⟩, xw, ⟨x3, x4⟩, ⟨x5, x6⟩, xv⟩ := x
          have hba : Below wr.heap.size wr (wr.alloc (.cells #[.int .i64 xk, .string x1, .string x2, .string xw, .string x3, .string x4, .string x5, .string x6, .string xv] 35)) := (Below.refl _ _).alloc (Nat.le_refl _) _
          have PC := Lib.hid (put_new vx (1000 + k) _ xv _ (HO.out.below hba) (by omega))
          have HT2 := Lib.hid (HT.out.later hba)
          have HO2 := Lib.hid (HO.out.below hba)
          clear hba
          by_cases hkk : xk = 3
          · have d1 : (xk == 3) = true := by simp [hkk]
            have HK := Lib.hid (show viaS ⟨xk, ⟨x1, x2⟩, xw, ⟨x3, x4⟩, ⟨x5, x6⟩, xv⟩ = [xv] from if_pos hkk)
            clear hkk
            go_wp2_with fail
            refine PC.out.mono ?_
            rintro e w3 ⟨vz, rfl, hr, hb3⟩
            have HR3 := Lib.hid hr
            have HT3 := Lib.hid (HT2.out.later hb3)
            clear hr hb3
            go_wp2
            exact ⟨⟨k + 1, _, by omega, rfl, by go_num, Lib.hid (HR3.out.eq (by rw [HF.out, HK.out, List.append_assoc])), HT3⟩, by simp [intOf]; omega⟩
          · have d1 : (xk == 3) = false := by simp [hkk]
            have HK := Lib.hid (show viaS ⟨xk, ⟨x1, x2⟩, xw, ⟨x3, x4⟩, ⟨x5, x6⟩, xv⟩ = [] from if_neg hkk)
            clear hkk
            go_wp2
            exact ⟨⟨k + 1, _, by omega, rfl, by go_num, Lib.hid ((HO2.out.mono (by omega)).eq (by rw [HF.out, HK.out, List.append_nil])), HT2⟩, by simp [intOf]; omega⟩
        · have HO3 := Lib.hid ((HO.out.mono (show 1000 + k ≤ 10000 by omega)).eq (ys := allNames l g h qs) (by rw [HRES.out, List.take_of_length_le (show l.length ≤ k by omega)]))
          go_wp2
          go_ret
          exact ⟨_, rfl, HO3.out, HT.out.low⟩
end Go.Proofs.YtnnieegddbcfcaaGreatDoor
namespace Go.Proofs.YtnnieegddbcfcaaGreatDoor
open Go.RowKit Go.Shelf

abbrev Pr := Rl × ByteArray
def pcells (p : Pr) : List Value := [.string p.1.o, .string p.1.n, .string p.2]
theorem pcells_len (p : Pr) : (pcells p).length = 3 := rfl
theorem pr_cell {w : World} {b off : Nat} {l : List Pr} (h : ∀ j u, (l.flatMap pcells)[j]? = some u → w.cell? ⟨b, off + j, none⟩ = some u) (k : Nat) (hk : k < l.length) :
    w.cell? ⟨b, off + k * 3, none⟩ = some (.string l[k].1.o) ∧ w.cell? ⟨b, off + k * 3 + 1, none⟩ = some (.string l[k].1.n) ∧ w.cell? ⟨b, off + k * 3 + 2, none⟩ = some (.string l[k].2) := by
  have hx : l[k]? = some l[k] := List.getElem?_eq_getElem hk
  have h0 := h _ _ ((flat_get pcells 3 pcells_len l k 0 (by omega) _ hx).trans rfl)
  have h1 := h _ _ ((flat_get pcells 3 pcells_len l k 1 (by omega) _ hx).trans rfl)
  have h2 := h _ _ ((flat_get pcells 3 pcells_len l k 2 (by omega) _ hx).trans rfl)
  simp only [Nat.add_zero, ← Nat.add_assoc] at h0 h1 h2
  exact ⟨h0, h1, h2⟩
theorem prs_one (l : List Pr) : ∀ u ∈ l.flatMap pcells, u.oneCell' = true := by
  intro u hu
  obtain ⟨x, _, hx⟩ := List.mem_flatMap.1 hu
  simp only [pcells, List.mem_cons, List.not_mem_nil, or_false] at hx
  rcases hx with rfl | rfl | rfl <;> rfl
theorem pr_info : (Tryz.prog.info? 68).map (fun i => (i.zero, i.size, i.bytes)) = some (some (.agg #[.string emp, .string emp, .string emp]), 3, 48) := by kernel_rfl
theorem hasP_yes {l : List Pr} {r : Rl} {x : ByteArray} {k : Nat} (hk : k < l.length) (h1 : l[k].1 = r) (h2 : l[k].2 = x) : hasP l r x = true := by
  rw [hasP_iff, ← h1, ← h2]; exact List.getElem_mem hk
theorem hasP_end {l : List Pr} {r : Rl} {x : ByteArray} {k : Nat} (hk : ¬ k < l.length) (h : ∀ j (hj : j < l.length), j < k → ¬ (l[j].1 = r ∧ l[j].2 = x)) : hasP l r x = false := by
  rw [← Bool.not_eq_true, hasP_iff]
  intro hm
  obtain ⟨j, hj, e⟩ := List.getElem_of_mem hm
  exact h j hj (by omega) ⟨by rw [e], by rw [e]⟩
set_option maxRecDepth 100000 in
set_option maxHeartbeats 2000000 in
theorem ref11_In (va : Value) (l : List Pr) (r : Rl) (x : ByteArray) (w : World) (ha : SlA w 3 va l.length (l.flatMap pcells)) :
    Calls Tryz.prog 56 #[va, rv r, .string x] w fun e w' => e = .returned (.bool (hasP l r x)) ∧ Below w.heap.size w w' := by
  have hmax := ha.max
  have hEq := role_eql
  by_cases h0 : 0 < l.length
  · obtain ⟨b1, o1, c1, rfl, hc1, hm1, hb1, hx1⟩ := ha.pos h0
    have HX1 := Lib.hid hx1
    have HS := Lib.hid (fun k (hl : k < l.length) (e1 : l[k].1 = r) (e2 : l[k].2 = x) => hasP_yes hl e1 e2)
    have HE := Lib.hid (fun k (hk : ¬ k < l.length) h => hasP_end (l := l) (r := r) (x := x) (k := k) hk h)
    have HD := Lib.hid (fun k (hl : k < l.length) => show (eqRl l[k].1 r = true ↔ l[k].1 = r) from decide_eq_true_iff)
    generalize hasP l r x = res at HS HE ⊢
    clear ha hx1
    obtain ⟨h1, h2⟩ := r
    go_enter Tryz.func56, Tryz.ntmps56
    go_wp2
    go_loopw [11] (fun i wr => ∃ k : Nat, k ≤ l.length ∧ i = .int .i64 k ∧ Below w.heap.size w wr ∧ Blk wr w.heap.size #[.string h1, .string h2] ∧ Hid (∀ j (hj : j < l.length), j < k → ¬ (l[j].1 = ⟨h1, h2⟩ ∧ l[j].2 = x))) (fun i _ => l.length - (intOf i).toNat)
    case atStart => exact ⟨0, by omega, rfl, (Below.refl _ _).alloc (Nat.le_refl _) _, Blk.new _ _ _, Lib.hid (fun _ _ h => absurd h (by omega))⟩
    case round =>
      obtain ⟨k, hk, rfl, hbw, hblk, HT⟩ := hrel
      have HBW := Lib.hid hbw
      have HBK := Lib.hid hblk
      have hz := hbw.size
      obtain ⟨cs, fs, zs⟩ := hblk
      by_cases hlt : k < l.length
      · obtain ⟨p0, p1, p2⟩ := pr_cell (w := wr) (fun j u hu => (hbw.cell (p := ⟨b1, o1 + j, none⟩) hb1).trans (HX1.out j u hu)) k hlt
        have hb1' : b1 < wr.heap.size := Nat.lt_of_lt_of_le hb1 hz
        have hD := HD.out k hlt
        have HSk := Lib.hid (HS.out k hlt)
        have HN := Lib.hid (fun (hn : ¬ (l[k].1 = ⟨h1, h2⟩ ∧ l[k].2 = x)) j (hj : j < l.length) (hjk : j < k + 1) => show ¬ (l[j].1 = ⟨h1, h2⟩ ∧ l[j].2 = x) by
          by_cases hjk' : j < k
          · exact HT.out j hj hjk'
          · obtain rfl : j = k := by omega
            exact hn)
        clear hbw
        generalize l[k] = p at *
        obtain ⟨⟨y1, y2⟩, y3⟩ := p
        cases he : eqRl ⟨y1, y2⟩ ⟨h1, h2⟩ with
        | true =>
          have e1 := hD.1 he
          by_cases he3 : y3 = x
          · have R := Lib.hid (HSk.out e1 he3)
            have d3 : (y3.toList == x.toList) = true := by rw [beq_str]; simp [he3]
            clear hD e1
            go_wp2
            go_ret
            exact ⟨ret_b R.out.symm, HBW.out.alloc HBW.out.size _⟩
          · have HN2 := Lib.hid (HN.out (fun h => he3 h.2))
            have d3 : (y3.toList == x.toList) = false := by rw [beq_str]; simp [he3]
            clear hD e1
            go_wp2
            exact ⟨⟨k + 1, by omega, by go_num, HBW.out.alloc HBW.out.size _, HBK.out.alloc _, HN2⟩, by simp [intOf]; omega⟩
        | false =>
          have HN2 := Lib.hid (HN.out (fun h => by rw [hD.2 h.1] at he; cases he))
          clear hD
          go_wp2
          exact ⟨⟨k + 1, by omega, by go_num, HBW.out.alloc HBW.out.size _, HBK.out.alloc _, HN2⟩, by simp [intOf]; omega⟩
      · have R := Lib.hid (HE.out k hlt HT.out)
        clear hbw
        go_wp2
        go_ret
        exact ⟨ret_b R.out.symm, HBW.out⟩
  · obtain ⟨a1, c1, rfl⟩ := ha.form
    obtain rfl : l = [] := List.eq_nil_of_length_eq_zero (by omega)
    clear ha h0 hmax
    obtain ⟨h1, h2⟩ := r
    go_enter Tryz.func56, Tryz.ntmps56
    go_wp2
    go_loopw [11] (fun i wr => i = .int .i64 0 ∧ Below w.heap.size w wr) (fun _ _ => 0)
    case atStart => exact ⟨rfl, (Below.refl _ _).alloc (Nat.le_refl _) _⟩
    case round =>
      obtain ⟨rfl, hbw⟩ := hrel
      go_wp2
      go_ret
      exact ⟨rfl, hbw⟩
/-- Who is in a role, rising. -/
def membersP (l : List Pr) (r : Rl) : List ByteArray := newB ((l.filter (fun p => eqRl p.1 r)).map (fun p => p.2))
theorem membersP_mem {l : List Pr} {r : Rl} {x : ByteArray} : x ∈ membersP l r ↔ (r, x) ∈ l := by
  unfold membersP
  rw [new_mem, List.mem_map]
  constructor
  · rintro ⟨⟨a, b⟩, h, rfl⟩
    have := (List.mem_filter.1 h).2
    rw [show a = r from of_decide_eq_true this] at h
    exact (List.mem_filter.1 h).1
  · intro h
    exact ⟨_, List.mem_filter.2 ⟨h, decide_eq_true rfl⟩, rfl⟩
theorem membersP_asc (l : List Pr) (r : Rl) : AscB (membersP l r) := new_asc _
theorem membersP_snoc {l : List Pr} {r : Rl} {k : Nat} (hk : k < l.length) : membersP (l.take (k + 1)) r = if eqRl l[k].1 r = true then insSB (membersP (l.take k) r) l[k].2 else membersP (l.take k) r := by
  unfold membersP
  rw [List.take_succ_eq_append_getElem hk, List.filter_append, List.map_append]
  by_cases h : eqRl l[k].1 r = true
  · rw [if_pos h, List.filter_cons, if_pos h]
    simp only [List.filter_nil, List.map_cons, List.map_nil]
    exact new_snoc _ _
  · rw [if_neg h, List.filter_cons, if_neg h]
    simp
theorem membersP_len (l : List Pr) (r : Rl) : (membersP l r).length ≤ l.length := by
  unfold membersP
  have h1 := new_len ((l.filter (fun p => eqRl p.1 r)).map (fun p => p.2))
  have h2 := List.length_filter_le (fun p : Pr => eqRl p.1 r) l
  rw [List.length_map] at h1
  omega
set_option maxRecDepth 100000 in
set_option maxHeartbeats 2000000 in
theorem ref11_Members (va : Value) (l : List Pr) (r : Rl) (w : World) (ha : SlA w 3 va l.length (l.flatMap pcells)) (hn : l.length ≤ 10000) :
    Calls Tryz.prog 23 #[va, rv r] w fun e w' => ∃ v, e = .returned v ∧ SlA w' 1 v (membersP l r).length (strs (membersP l r)) ∧ Below w.heap.size w w' := by
  have hEq := role_eql
  have HA := Lib.hid ha
  have hmax := ha.max
  obtain ⟨a0, c0, rfl⟩ := ha.form
  clear ha
  obtain ⟨h1, h2⟩ := r
  go_enter Tryz.func23, Tryz.ntmps23
  go_wp2_with fail
  go_loopw [5, 10] (fun vo i wr => ∃ (k : Nat) (ms : List ByteArray), k ≤ l.length ∧ i = .int .i64 k ∧ Hid (ms = membersP (l.take k) ⟨h1, h2⟩) ∧ Hid (Below w.heap.size w wr) ∧ Blk wr w.heap.size #[.string h1, .string h2] ∧ Hid (SlA wr 1 vo ms.length (strs ms))) (fun _ i _ => l.length - (intOf i).toNat)
  case atStart => exact ⟨0, [], by omega, rfl, Lib.hid rfl, Lib.hid ((Below.refl _ _).alloc (Nat.le_refl _) _), Blk.new _ _ _, Lib.hid (Sl.nil _ _).a⟩
  case round =>
    obtain ⟨k, ms, hk, rfl, HE, HB, hblk, HO⟩ := hrel
    obtain ⟨oo, oc, rfl⟩ := HO.out.form
    have HBK := Lib.hid hblk
    obtain ⟨cs, fs, zs⟩ := hblk
    by_cases hlt : k < l.length
    · obtain ⟨b1, o1, c1, he1, hc1, hm1, hb1, hx1⟩ := HA.out.pos (by omega)
      simp only [Value.slice.injEq, true_and] at he1
      obtain ⟨rfl, rfl⟩ := he1
      obtain ⟨p0, p1, p2⟩ := pr_cell (w := wr) (fun j u hu => (HB.out.cell (p := ⟨b1, o1 + j, none⟩) hb1).trans (hx1 j u hu)) k hlt
      have hbr : b1 < wr.heap.size := Nat.lt_of_lt_of_le hb1 HB.out.size
      have HS := Lib.hid (membersP_snoc (r := ⟨h1, h2⟩) hlt)
      have hml : ms.length ≤ 10000 := by have h3 := membersP_len (l.take k) ⟨h1, h2⟩; rw [← HE.out] at h3; have := List.length_take_le k l; omega
      clear hx1
      generalize l[k] = p at *
      obtain ⟨⟨y1, y2⟩, y3⟩ := p
      obtain ⟨wa, hwa⟩ : ∃ V, V = wr.alloc (.cells #[.string y1, .string y2, .string y3] 68) := ⟨_, rfl⟩
      have hba : Below wr.heap.size wr wa := by rw [hwa]; exact (Below.refl _ _).alloc (Nat.le_refl _) _
      cases he : eqRl ⟨y1, y2⟩ ⟨h1, h2⟩ with
      | true =>
        have HE2 := Lib.hid (show insSB ms y3 = membersP (l.take (k + 1)) ⟨h1, h2⟩ by have := HS.out; rw [if_pos he, ← HE.out] at this; exact this.symm)
        have PU := Lib.hid (ref1_PutB (.slice oo ms.length oc) ms y3 wa (HO.out.below hba) (by omega))
        clear HS
        go_wp2_with fail
        rw [← hwa]
        clear hwa
        refine PU.out.mono ?_
        rintro e w2 ⟨v2, rfl, hs2, hb2⟩
        have hbb : Below wr.heap.size wr w2 := hba.trans (hb2.mono hba.size)
        have HO2 := Lib.hid hs2
        have HBK2 := Lib.hid (HBK.out.below hbb)
        have HB2 := Lib.hid (HB.out.trans (hbb.mono HB.out.size))
        clear hs2 hb2 hbb hba PU cs fs zs p0 p1 p2
        go_wp2_with fail
        exact ⟨⟨k + 1, insSB ms y3, by omega, by go_num, HE2, HB2, HBK2.out, HO2⟩, by simp [intOf]; omega⟩
      | false =>
        have HE2 := Lib.hid (show ms = membersP (l.take (k + 1)) ⟨h1, h2⟩ by have := HS.out; rw [if_neg (by rw [he]; exact Bool.false_ne_true), ← HE.out] at this; exact this.symm)
        clear HS
        have HO2 := Lib.hid (HO.out.below hba)
        have HBK2 := Lib.hid (HBK.out.below hba)
        have HB2 := Lib.hid (HB.out.trans (hba.mono HB.out.size))
        rw [hwa] at HO2 HBK2 HB2
        clear hwa hba
        go_wp2_with fail
        exact ⟨⟨k + 1, ms, by omega, by go_num, HE2, HB2, HBK2.out, HO2⟩, by simp [intOf]; omega⟩
    · have HRS := Lib.hid (show ms = membersP l ⟨h1, h2⟩ by rw [HE.out, List.take_of_length_le (show l.length ≤ k by omega)])
      go_wp2
      go_ret
      exact ⟨_, rfl, by rw [← HRS.out]; exact HO.out, HB.out⟩
end Go.Proofs.YtnnieegddbcfcaaGreatDoor
namespace Go.Proofs.YtnnieegddbcfcaaGreatDoor
open Go.RowKit Go.Shelf

theorem filter_yesS' {l : List St} {p : St → Bool} {k : Nat} (h : k < l.length) (hp : p l[k] = true) : (l.take (k + 1)).filter p = (l.take k).filter p ++ [l[k]] := by
  rw [List.take_succ_eq_append_getElem h, List.filter_append, List.filter_cons, if_pos hp]; rfl
theorem filter_noS' {l : List St} {p : St → Bool} {k : Nat} (h : k < l.length) (hp : p l[k] = false) : (l.take (k + 1)).filter p = (l.take k).filter p := by
  rw [List.take_succ_eq_append_getElem h, List.filter_append, List.filter_cons, if_neg (by rw [hp]; exact Bool.false_ne_true)]; simp
/-- The first i cells of a row that DeleteFunc works on are those of its first j that stay; the rest is as it was. -/
structure HalfD (w : World) (b o : Nat) (l : List St) (np : St → Bool) (j i : Nat) : Prop where
  len : ((l.take j).filter np).length = i
  low : ∀ k (hk : k < ((l.take j).filter np).length), Nine w b (o + k * 9) ((l.take j).filter np)[k]
  high : ∀ k (hk : k < l.length), j ≤ k → Nine w b (o + k * 9) l[k]
  all : ∀ k, k < l.length → ∃ s0, Nine w b (o + k * 9) s0
theorem HalfD.move {w w' : World} {b o j i : Nat} {l : List St} {np : St → Bool} (h : HalfD w b o l np j i) (hw : ∀ i, w'.cell? ⟨b, i, none⟩ = w.cell? ⟨b, i, none⟩) : HalfD w' b o l np j i :=
  ⟨h.len, fun k hk => (h.low k hk).drop1 (fun _ _ _ => hw _), fun k hk hj => (h.high k hk hj).drop1 (fun _ _ _ => hw _), fun k hk => (h.all k hk).elim fun s0 h0 => ⟨s0, h0.drop1 (fun _ _ _ => hw _)⟩⟩
theorem HalfD.skip {w : World} {b o j i : Nat} {l : List St} {np : St → Bool} (h : HalfD w b o l np j i) (hj : j < l.length) (e : np l[j] = false) : HalfD w b o l np (j + 1) i := by
  have hd := filter_noS' hj e
  exact ⟨by rw [hd]; exact h.len, fun k hk => by simp only [hd]; exact h.low k (by rw [← hd]; exact hk), fun k hk hjk => h.high k hk (by omega), h.all⟩
theorem HalfD.put {w : World} {b o j i : Nat} {l : List St} {np : St → Bool} (h : HalfD w b o l np j i) (hj : j < l.length) (hij : i ≤ j) (e : np l[j] = true) : HalfD (W9 w b (o + i * 9) l[j]) b o l np (j + 1) (i + 1) := by
  have hd := filter_yesS' hj e
  refine ⟨by rw [hd, List.length_append, h.len]; rfl, fun k hk => ?_, fun k hk hjk => ?_, fun k hk => ?_⟩
  · rw [hd, List.length_append, h.len] at hk
    simp only [List.length_cons, List.length_nil] at hk
    by_cases hik : k < i
    · have e1 : ((l.take (j + 1)).filter np)[k]'(by rw [hd, List.length_append, h.len]; simp; omega) = ((l.take j).filter np)[k]'(by rw [h.len]; exact hik) := by
        simp only [hd]; rw [List.getElem_append_left]
      rw [e1]
      exact (h.low k (by rw [h.len]; exact hik)).drop1 (fun _ _ _ => w9_far _ _ _ _ _ (by omega))
    · obtain rfl : k = i := by omega
      have e1 : ((l.take (j + 1)).filter np)[k]'(by rw [hd, List.length_append, h.len]; simp) = l[j] := by
        simp only [hd]; rw [List.getElem_append_right (by rw [h.len]; exact Nat.le_refl _)]; simp [h.len]
      rw [e1]
      obtain ⟨s0, h0⟩ := h.all k (by omega)
      exact w9_new _ _ h0
  · exact (h.high k hk (by omega)).drop1 (fun _ _ _ => w9_far _ _ _ _ _ (by omega))
  · obtain ⟨s0, h0⟩ := h.all k hk
    by_cases hik : k = i
    · subst hik; exact ⟨_, w9_new _ _ h0⟩
    · exact ⟨s0, h0.drop1 (fun _ _ _ => w9_far _ _ _ _ _ (by omega))⟩
theorem HalfD.start {w : World} {b o k : Nat} {l : List St} {np : St → Bool} (hx : ∀ j u, (l.flatMap St.cells)[j]? = some u → w.cell? ⟨b, o + j, none⟩ = some u) (hk : k < l.length) (h0 : np l[k] = false) (h1 : ∀ j (hj : j < l.length), j < k → np l[j] = true) : HalfD w b o l np (k + 1) k := by
  have hd : (l.take (k + 1)).filter np = l.take k := by
    rw [filter_noS' hk h0, List.filter_eq_self]
    intro x hx
    obtain ⟨j, hj, rfl⟩ := List.getElem_of_mem hx
    rw [List.getElem_take]
    rw [List.length_take] at hj
    exact h1 j (by omega) (by omega)
  refine ⟨by rw [hd, List.length_take]; omega, fun i hi => ?_, fun i hi _ => st_cell (w := w) hx i hi, fun i hi => ⟨_, st_cell (w := w) hx i hi⟩⟩
  have hi' : i < l.length := by rw [hd, List.length_take] at hi; omega
  have e : ((l.take (k + 1)).filter np)[i] = l[i] := by simp only [hd, List.getElem_take]
  rw [e]
  exact st_cell (w := w) hx i hi'
theorem HalfD.done {w : World} {b o j i : Nat} {l : List St} {np : St → Bool} (h : HalfD w b o l np j i) (hj : j = l.length) : (l.filter np).length = i ∧ ∀ k (hk : k < (l.filter np).length), Nine w b (o + k * 9) (l.filter np)[k] := by
  subst hj
  obtain ⟨h1, h2, _, _⟩ := h
  simp only [List.take_of_length_le (Nat.le_refl _)] at h1 h2
  exact ⟨h1, h2⟩
theorem HalfD.some {w : World} {b o j i : Nat} {l : List St} {np : St → Bool} (h : HalfD w b o l np j i) (hi : i ≤ l.length) : ∀ k, k < (l.length - i) * 9 → (w.cell? ⟨b, o + i * 9 + k, none⟩).isSome = true := by
  intro k hk
  obtain ⟨s0, h0⟩ := h.all (i + k / 9) (by omega)
  have := nine_some h0 (k % 9) (Nat.mod_lt _ (by decide))
  rwa [show o + (i + k / 9) * 9 + k % 9 = o + i * 9 + k by omega] at this
end Go.Proofs.YtnnieegddbcfcaaGreatDoor
namespace Go.Proofs.YtnnieegddbcfcaaGreatDoor
open Go.RowKit Go.Shelf

theorem below_of_grownS {w a b : World} {g : Nat} (h : Below w.heap.size w a) (hg : w.heap.size ≤ g) (hr : a.grownBy b (some g)) : Below w.heap.size w b :=
  h.grown hr h.size (by rintro k ⟨⟩; exact hg)
theorem st1s (k : Int) (a b c d e f g h : ByteArray) : ∀ u ∈ [Value.int .i64 k, .string a, .string b, .string c, .string d, .string e, .string f, .string g, .string h], u.oneCell' = true := by
  intro u hu; simp at hu; rcases hu with rfl | rfl | rfl | rfl | rfl | rfl | rfl | rfl | rfl <;> rfl
theorem push_at {α : Type} {e : TypeId} {size : Nat} (enc : α → List Value) {w wr w3 : World} {A : Array Value} {vo : Value} {rs : List α} {x : α} {o : Obj} {a' : Option Addr} {cap' : Nat} (ht : OneAt w A wr) (hown : wr.ownsRow (w.heap.size + 1) e size vo rs.length (rs.flatMap enc))
    (h : w3.ownsRow (w.heap.size + 1) e size (.slice a' (rs.length + 1) cap') (rs.length + 1) (rs.flatMap enc ++ enc x)) (hg : (wr.alloc o).grownBy w3 vo.ownBlock) :
    w3.ownsRow (w.heap.size + 1) e size (.slice a' (rs.length + 1) cap') (rs ++ [x]).length ((rs ++ [x]).flatMap enc) ∧ OneAt w A w3 := by
  refine ⟨by rw [List.length_append, List.flatMap_append]; simpa using h, (ht.a.alloc o).grown hg (own_gt_ne hown (Nat.lt_succ_self _)), ?_⟩
  exact below_own (ht.low.alloc ht.low.size o) (hown.alloc _) hg (by have := ht.low.size; simp; omega) (Nat.le_succ _)
end Go.Proofs.YtnnieegddbcfcaaGreatDoor
namespace Go.Proofs.YtnnieegddbcfcaaGreatDoor
open Go.RowKit Go.Shelf

def gOne (x : ByteArray) (s : St) (q : Pr) : List ByteArray := if q.1 = ⟨x, s.via⟩ then [q.2] else []
def fOne (ps : List Pr) (s : St) (p : Pr) : List ByteArray := if p.1 = s.a then (if s.k = 2 ∨ s.k = 4 ∧ hasP ps s.b p.2 = true then [p.2] else []) ++ (if s.k = 3 then ps.flatMap (gOne p.2 s) else []) else []
theorem follows_one {ps : List Pr} {s : St} (h : s.k = 1) : followsR ps s = [s.who] := by unfold followsR; rw [if_pos h]
theorem follows_two {ps : List Pr} {s : St} (h : ¬ s.k = 1) : followsR ps s = ps.flatMap (fOne ps s) := by unfold followsR; rw [if_neg h]; rfl
theorem flatMap_le {α β : Type} (f : α → List β) (c : Nat) (h : ∀ x, (f x).length ≤ c) : ∀ l : List α, (l.flatMap f).length ≤ l.length * c
  | [] => by simp
  | a :: l => by
    have h1 := h a
    have h2 := flatMap_le f c h l
    rw [List.flatMap_cons, List.length_append, List.length_cons, Nat.succ_mul]
    omega
theorem gOne_len (x : ByteArray) (s : St) (q : Pr) : (gOne x s q).length ≤ 1 := by unfold gOne; split <;> simp
theorem fOne_len (ps : List Pr) (s : St) (p : Pr) : (fOne ps s p).length ≤ ps.length + 1 := by
  have h := flatMap_le (gOne p.2 s) 1 (gOne_len p.2 s) ps
  unfold fOne
  split
  · rw [List.length_append]
    have h1 : (if s.k = 2 ∨ s.k = 4 ∧ hasP ps s.b p.2 = true then [p.2] else []).length ≤ 1 := by split <;> simp
    have h2 : (if s.k = 3 then ps.flatMap (gOne p.2 s) else []).length ≤ ps.length := by
      split
      · omega
      · exact Nat.zero_le _
    omega
  · simp
theorem fOne_no {ps : List Pr} {s : St} {p : Pr} (h : ¬ p.1 = s.a) : fOne ps s p = [] := by unfold fOne; rw [if_neg h]
theorem fOne_2 {ps : List Pr} {s : St} {p : Pr} (h : p.1 = s.a) (hk : s.k = 2) : fOne ps s p = [p.2] := by unfold fOne; rw [if_pos h, if_pos (.inl hk), if_neg (by omega)]; simp
theorem fOne_3 {ps : List Pr} {s : St} {p : Pr} (h : p.1 = s.a) (hk : s.k = 3) : fOne ps s p = ps.flatMap (gOne p.2 s) := by unfold fOne; rw [if_pos h, if_neg (by omega), if_pos hk]; simp
theorem fOne_4 {ps : List Pr} {s : St} {p : Pr} (h : p.1 = s.a) (hk : s.k = 4) : fOne ps s p = if hasP ps s.b p.2 = true then [p.2] else [] := by
  unfold fOne
  rw [if_pos h, if_neg (show ¬ s.k = 3 by omega), List.append_nil]
  by_cases hh : hasP ps s.b p.2 = true
  · rw [if_pos (.inr ⟨hk, hh⟩), if_pos hh]
  · rw [if_neg (by rintro (h1 | h1); · omega
                   · exact hh h1.2), if_neg hh]
theorem fOne_o {ps : List Pr} {s : St} {p : Pr} (h2 : ¬ s.k = 2) (h3 : ¬ s.k = 3) (h4 : ¬ s.k = 4) : fOne ps s p = [] := by
  unfold fOne
  rw [if_neg (show ¬ (s.k = 2 ∨ s.k = 4 ∧ _) by rintro (h1 | h1); · exact h2 h1
                                                · exact h4 h1.1), if_neg h3]
  split <;> rfl
theorem own_baseF {w : World} {base base' size n : Nat} {e : TypeId} {v : Value} {xs : List Value} (h : w.ownsRow base e size v n xs) (hb : base' ≤ base) : w.ownsRow base' e size v n xs := by
  refine ⟨h.1, ?_⟩
  rcases h.2 with h2 | ⟨g, cap, cur, hv, h1, h3⟩
  · exact .inl h2
  · exact .inr ⟨g, cap, cur, hv, Nat.le_trans hb h1, h3⟩
/-- A pair in a block of its own. -/
def XAt (w : World) (b : Nat) (y1 y2 y3 : ByteArray) : Prop := w.heap[b]? = some (.cells #[.string y1, .string y2, .string y3] 68 (0, 0))
theorem XAt.blk {w : World} {b : Nat} {y1 y2 y3 : ByteArray} (h : XAt w b y1 y2 y3) : Blk w b #[.string y1, .string y2, .string y3] := blk_of h
theorem XAt.lt {w : World} {b : Nat} {y1 y2 y3 : ByteArray} (h : XAt w b y1 y2 y3) : b < w.heap.size := (Array.getElem?_eq_some_iff.1 h).1
theorem XAt.below {w w' : World} {b : Nat} {y1 y2 y3 : ByteArray} (h : XAt w b y1 y2 y3) (hb : Below w.heap.size w w') : XAt w' b y1 y2 y3 := (hb.block b h.lt).trans h
theorem XAt.alloc {w : World} {b : Nat} {y1 y2 y3 : ByteArray} (h : XAt w b y1 y2 y3) (o : Obj) : XAt (w.alloc o) b y1 y2 y3 := h.below ((Below.refl _ _).alloc (Nat.le_refl _) o)
theorem XAt.grown {w w' : World} {b base n : Nat} {y1 y2 y3 : ByteArray} {v : Value} {xs : List Value} (h : XAt w b y1 y2 y3) (ho : w.ownsRow base 9 1 v n xs) (hg : w.grownBy w' v.ownBlock) : XAt w' b y1 y2 y3 :=
  (hg.block b h.lt (own_tag ho h (by decide))).trans h
theorem strs_snoc (ys : List ByteArray) (x : ByteArray) : strs (ys ++ [x]) = strs ys ++ [.string x] := by unfold strs; rw [List.map_append]; rfl
theorem push_strF {w wr w3 : World} {A : Array Value} {vo : Value} {ys : List ByteArray} {x : ByteArray} {o : Obj} {a' : Option Addr} {cap' : Nat} (ht : OneAt w A wr) (hown : wr.ownsRow (w.heap.size + 1) 9 1 vo ys.length (strs ys))
    (h : w3.ownsRow (w.heap.size + 1) 9 1 (.slice a' (ys.length + 1) cap') (ys.length + 1) (strs ys ++ [.string x])) (hg : (wr.alloc o).grownBy w3 vo.ownBlock) :
    w3.ownsRow (w.heap.size + 1) 9 1 (.slice a' (ys.length + 1) cap') (ys ++ [x]).length (strs (ys ++ [x])) ∧ OneAt w A w3 := by
  refine ⟨by rw [List.length_append, strs_snoc]; exact h, (ht.a.alloc o).grown hg (own_gt_ne hown (Nat.lt_succ_self _)), ?_⟩
  exact below_own (ht.low.alloc ht.low.size o) (hown.alloc _) hg (by have := ht.low.size; simp; omega) (Nat.le_succ _)
set_option maxRecDepth 100000 in
set_option maxHeartbeats 8000000 in
theorem ref11_follows (va : Value) (ps : List Pr) (s : St) (w : World) (ha : SlA w 3 va ps.length (ps.flatMap pcells)) (hn : ps.length ≤ 2000) :
    Calls Tryz.prog 88 #[va, sv s] w fun e w' => ∃ v, e = .returned v ∧ w'.ownsRow w.heap.size 9 1 v (followsR ps s).length (strs (followsR ps s)) ∧ Below w.heap.size w w' := by
  have hEq := role_eql
  have hNe := role_neq
  have HA := Lib.hid ha
  have IN := Lib.hid (fun x W (hb : Below w.heap.size w W) => ref11_In va ps s.b x W (ha.below hb))
  have F1 := Lib.hid (fun h => follows_one (ps := ps) (s := s) h)
  have F2 := Lib.hid (fun h => follows_two (ps := ps) (s := s) h)
  have hmax := ha.max
  obtain ⟨a0, c0, rfl⟩ := ha.form
  clear ha
  by_cases k1 : s.k = 1
  · rw [F1.out k1]
    clear F1 F2 IN HA
    obtain ⟨k, ⟨h1, h2⟩, who, ⟨s1, s2⟩, ⟨s3, s4⟩, via⟩ := s
    dsimp only at k1
    subst k1
    go_enter Tryz.func88, Tryz.ntmps88
    go_wp2_with fail
    go_ret
    exact ⟨.slice (some ⟨w.heap.size + 1, 0, none⟩) 1 1, rfl, ⟨rfl, .inr ⟨w.heap.size + 1, 1, #[.string who], rfl, Nat.le_succ _, heap_new2 _ _ _, Nat.le_refl _, by simp [maxLen], rfl, rfl⟩⟩, ((Below.refl _ _).alloc (Nat.le_refl _) _).alloc (by simp) _⟩
  · have F2' := Lib.hid (F2.out k1)
    have N2 := Lib.hid (fun p h => fOne_no (ps := ps) (s := s) (p := p) h)
    have N20 := Lib.hid (fun p h hk => fOne_2 (ps := ps) (s := s) (p := p) h hk)
    have N30 := Lib.hid (fun p h hk => fOne_3 (ps := ps) (s := s) (p := p) h hk)
    have N40 := Lib.hid (fun p h hk => fOne_4 (ps := ps) (s := s) (p := p) h hk)
    have N50 := Lib.hid (fun p h2 h3 h4 => fOne_o (ps := ps) (s := s) (p := p) h2 h3 h4)
    have FLen := Lib.hid (fun k => flatMap_le (fOne ps s) (ps.length + 1) (fOne_len ps s) (ps.take k))
    have GO := Lib.hid (fun x (q : Pr) => show gOne x s q = if eqRl q.1 ⟨x, s.via⟩ = true then [q.2] else [] by
      unfold gOne eqRl; by_cases h : q.1 = ⟨x, s.via⟩
      · rw [if_pos h, if_pos (decide_eq_true h)]
      · rw [if_neg h, if_neg (by rw [decide_eq_false h]; exact Bool.false_ne_true)])
    have GLen := Lib.hid (fun x j => flatMap_le (gOne x s) 1 (gOne_len x s) (ps.take j))
    have FS := Lib.hid (fun k (hk : k < ps.length) => flat_snocF (fOne ps s) hk)
    have GS := Lib.hid (fun x k (hk : k < ps.length) => flat_snocF (gOne x s) hk)
    rw [F2'.out]
    clear F1 F2 F2'
    generalize fOne ps s = ff at *
    generalize hgg : (fun x => gOne x s) = gg at *
    have GO' : Hid (∀ x (q : Pr), gg x q = if eqRl q.1 ⟨x, s.via⟩ = true then [q.2] else []) := Lib.hid (by rw [← hgg]; exact GO.out)
    have GLen' : Hid (∀ x j, ((ps.take j).flatMap (gg x)).length ≤ (ps.take j).length * 1) := Lib.hid (by rw [← hgg]; exact GLen.out)
    have GS' : Hid (∀ x k (hk : k < ps.length), (ps.take (k + 1)).flatMap (gg x) = (ps.take k).flatMap (gg x) ++ gg x ps[k]) := Lib.hid (by rw [← hgg]; exact GS.out)
    have N30' : Hid (∀ (p : Pr), p.1 = s.a → s.k = 3 → ff p = ps.flatMap (gg p.2)) := Lib.hid (by rw [← hgg]; exact N30.out)
    clear hgg GO GLen GS N30
    obtain ⟨k, ⟨h1, h2⟩, who, ⟨s1, s2⟩, ⟨s3, s4⟩, via⟩ := s
    dsimp only at *
    have d1 : (k == 1) = false := by rw [beq_eq_false_iff_ne]; exact k1
    have HT0 := Lib.hid (show OneAt w #[.int .i64 k, .string h1, .string h2, .string who, .string s1, .string s2, .string s3, .string s4, .string via] (w.alloc (.cells #[.int .i64 k, .string h1, .string h2, .string who, .string s1, .string s2, .string s3, .string s4, .string via] 35)) from ⟨Blk.new w _ _, (Below.refl _ _).alloc (Nat.le_refl _) _⟩)
    go_enter Tryz.func88, Tryz.ntmps88
    go_wp2_with fail
    go_loopw [5, 18] (fun vo i wr => ∃ (n : Nat) (ys : List ByteArray), n ≤ ps.length ∧ i = .int .i64 n ∧ Hid (ys = (ps.take n).flatMap ff) ∧ Hid (OneAt w #[.int .i64 k, .string h1, .string h2, .string who, .string s1, .string s2, .string s3, .string s4, .string via] wr) ∧ Hid (wr.ownsRow (w.heap.size + 1) 9 1 vo ys.length (strs ys))) (fun _ i _ => ps.length - (intOf i).toNat)
    case atStart => exact ⟨0, [], by omega, rfl, Lib.hid rfl, HT0, Lib.hid (World.ownsRow_nil _ _ _ _)⟩
    case round =>
      clear HT0
      obtain ⟨n, ys, hnle, rfl, HE, HT, HO⟩ := hrel
      obtain ⟨oo, oc, rfl⟩ := own_form HO.out
      by_cases hlt : n < ps.length
      · obtain ⟨b1, o1, e1, he1, hc1, hm1', hb1, hx1⟩ := HA.out.pos (by omega)
        simp only [Value.slice.injEq, true_and] at he1
        obtain ⟨rfl, rfl⟩ := he1
        obtain ⟨p0, p1, p2⟩ := pr_cell (w := wr) (fun j u hu => (HT.out.low.cell (p := ⟨b1, o1 + j, none⟩) hb1).trans (hx1 j u hu)) n hlt
        have hbr : b1 < wr.heap.size := Nat.lt_of_lt_of_le hb1 HT.out.low.size
        have HS := Lib.hid (FS.out n hlt)
        have hyl : ys.length ≤ 2000 * 2001 := by
          have h3 := FLen.out n
          rw [← HE.out] at h3
          have h4 := List.length_take_le n ps
          have h5 : (ps.take n).length * (ps.length + 1) ≤ 2000 * 2001 := Nat.mul_le_mul (by omega) (by omega)
          omega
        clear hx1
        have hpm := List.getElem_mem hlt
        generalize ps[n] = p at *
        have M2 := Lib.hid (N2.out p)
        have M20 := Lib.hid (N20.out p)
        have M30 := Lib.hid (N30'.out p)
        have M40 := Lib.hid (N40.out p)
        have M50 := Lib.hid (N50.out p)
        clear hpm
        generalize ff p = fp at *
        obtain ⟨⟨y1, y2⟩, y3⟩ := p
        dsimp only at M2 M20 M30 M40
        have HX1 := Lib.hid (show XAt (wr.alloc (.cells #[.string y1, .string y2, .string y3] 68)) wr.heap.size y1 y2 y3 from heap_new1 _ _)
        have HT1 := Lib.hid (HT.out.alloc (.cells #[.string y1, .string y2, .string y3] 68))
        have HO1 := Lib.hid (HO.out.alloc (.cells #[.string y1, .string y2, .string y3] 68))
        obtain ⟨cs, fs, zs⟩ := HT.out.a
        cases he : eqRl ⟨y1, y2⟩ ⟨s1, s2⟩ with
        | false =>
          have HF := Lib.hid (M2.out (of_decide_eq_false he))
          clear M2 M20 M30 M40 M50
          go_wp2_with fail
          exact ⟨⟨n + 1, ys, by omega, by go_num, Lib.hid (by rw [HS.out, HF.out, HE.out]; simp), HT1, HO1⟩, by simp [intOf]; omega⟩
        | true =>
          have he' : (⟨y1, y2⟩ : Rl) = ⟨s1, s2⟩ := of_decide_eq_true he
          have M20 := Lib.hid (M20.out he')
          have M30 := Lib.hid (M30.out he')
          have M40 := Lib.hid (M40.out he')
          clear M2 he'
          by_cases k2 : k = 2
          · subst k2
            have HF := Lib.hid (M20.out rfl)
            clear M20 M30 M40 M50
            go_wp2_with (at_builtin; refine halt_ ?_)
            unfold Halt_
            refine app_own Tryz.underlying38 str_info rfl (by decide) (by decide) rfl _ _ rfl (w.heap.size + 1) rfl (HO1.out.alloc _) [.string y3] rfl (heap_new2 _ _ _) rfl (str1 _) ?_ ?_ ?_
            · omega
            · have := HT.out.low.size; simp; omega
            intro a' cap' w3 hown' hgrow
            obtain ⟨q1, q2⟩ := push_strF (x := y3) HT1.out HO1.out hown' hgrow
            have HO3 := Lib.hid q1
            have HT3 := Lib.hid q2
            obtain ⟨cs3, fs3, zs3⟩ := q2.a
            clear hown' hgrow q1 q2 cs fs zs
            go_wp2_with fail
            exact ⟨⟨n + 1, ys ++ [y3], by omega, by go_num, Lib.hid (by rw [HS.out, HF.out, HE.out]), HT3, HO3⟩, by simp [intOf]; omega⟩
          · have d2 : (k == 2) = false := by rw [beq_eq_false_iff_ne]; exact k2
            by_cases k4 : k = 4
            · subst k4
              have HF := Lib.hid (M40.out rfl)
              have INy := Lib.hid (IN.out y3)
              generalize hasP ps ⟨s3, s4⟩ y3 = t at *
              clear M20 M30 M40 M50
              go_wp2_with fail
              refine (INy.out _ HT1.out.low).mono ?_
              rintro e w2 ⟨rfl, hb⟩
              have HT2 := Lib.hid (HT1.out.later hb)
              have HO2 := Lib.hid (own_below HO1.out hb)
              have HX2 := Lib.hid (HX1.out.below hb)
              clear hb HT1 HO1 HX1 cs fs zs
              obtain ⟨cs, fs, zs⟩ := HT2.out.a
              obtain ⟨cx, fx, zx⟩ := HX2.out.blk
              cases t with
              | true =>
                go_wp2_with (at_builtin; refine halt_ ?_)
                unfold Halt_
                refine app_own Tryz.underlying38 str_info rfl (by decide) (by decide) rfl _ _ rfl (w.heap.size + 1) rfl (HO2.out.alloc _) [.string y3] rfl (heap_new1 _ _) rfl (str1 _) ?_ ?_ ?_
                · omega
                · have := HT2.out.low.size; simp; omega
                intro a' cap' w3 hown' hgrow
                obtain ⟨q1, q2⟩ := push_strF (x := y3) HT2.out HO2.out hown' hgrow
                have HO3 := Lib.hid q1
                have HT3 := Lib.hid q2
                obtain ⟨cs3, fs3, zs3⟩ := q2.a
                clear hown' hgrow q1 q2 cs fs zs cx fx zx
                go_wp2_with fail
                exact ⟨⟨n + 1, ys ++ [y3], by omega, by go_num, Lib.hid (by rw [HS.out, HF.out, HE.out]; simp), HT3, HO3⟩, by simp [intOf]; omega⟩
              | false =>
                go_wp2_with fail
                exact ⟨⟨n + 1, ys, by omega, by go_num, Lib.hid (by rw [HS.out, HF.out, HE.out]; simp), HT2, HO2⟩, by simp [intOf]; omega⟩
            · have d4 : (k == 4) = false := by rw [beq_eq_false_iff_ne]; exact k4
              by_cases k3 : k = 3
              · subst k3
                have HF := Lib.hid (M30.out rfl)
                have HGO := Lib.hid (GO'.out y3)
                have HGL := Lib.hid (GLen'.out y3)
                have HGS := Lib.hid (GS'.out y3)
                clear M20 M30 M40 M50 GO' GLen' GS'
                generalize gg y3 = g at *
                go_wp2_with fail
                have hx0 : wr.heap.size < (wr.alloc (.cells #[.string y1, .string y2, .string y3] 68)).heap.size := by simp
                generalize hxb : wr.heap.size = xb at *
                generalize hwa : wr.alloc (.cells #[.string y1, .string y2, .string y3] 68) = wa at *
                clear hwa hxb cs fs zs p0 p1 p2 HT HO
                go_loopw [5, 53] (fun vo i wr => ∃ (j : Nat) (zs : List ByteArray), j ≤ ps.length ∧ i = .int .i64 j ∧ Hid (zs = ys ++ (ps.take j).flatMap g) ∧ Hid (OneAt w #[.int .i64 3, .string h1, .string h2, .string who, .string s1, .string s2, .string s3, .string s4, .string via] wr) ∧ Hid (XAt wr xb y1 y2 y3) ∧ Hid (wr.ownsRow (w.heap.size + 1) 9 1 vo zs.length (strs zs))) (fun _ i _ => ps.length - (intOf i).toNat)
                case atStart => exact ⟨0, ys, by omega, rfl, Lib.hid (by simp), HT1, HX1, HO1⟩
                case round =>
                  clear HT1 HX1 HO1
                  obtain ⟨j, zs, hjle, rfl, HEj, HT, HX, HO⟩ := hrel
                  obtain ⟨oo, oc, rfl⟩ := own_form HO.out
                  obtain ⟨cs, fs, zs0⟩ := HT.out.a
                  obtain ⟨cx, fx, zx⟩ := HX.out.blk
                  by_cases hlj : j < ps.length
                  · obtain ⟨q0, q1, q2⟩ := pr_cell (w := wr) (fun j u hu => (HT.out.low.cell (p := ⟨b1, o1 + j, none⟩) hb1).trans ((HA.out.pos (by omega)).elim fun b2 h => h.elim fun o2 h => h.elim fun c2 h => by
                      have h0 := h.1
                      simp only [Value.slice.injEq, Option.some.injEq, Addr.mk.injEq, true_and] at h0
                      obtain ⟨⟨e1, e2, _⟩, _⟩ := h0
                      rw [e1, e2]
                      exact h.2.2.2.2 j u hu)) j hlj
                    have hbr2 : b1 < wr.heap.size := Nat.lt_of_lt_of_le hb1 HT.out.low.size
                    have HSj := Lib.hid (HGS.out j hlj)
                    have hzl : zs.length ≤ 2000 * 2001 + 2000 := by
                      have h3 := HGL.out j
                      have h4 := List.length_take_le j ps
                      rw [HEj.out, List.length_append]
                      omega
                    generalize ps[j] = q at *
                    have HGq := Lib.hid (HGO.out q)
                    generalize g q = gq at *
                    obtain ⟨⟨z1, z2⟩, z3⟩ := q
                    dsimp only at HGq
                    have HX1 := Lib.hid (HX.out.alloc (.cells #[.string z1, .string z2, .string z3] 68))
                    have HT1 := Lib.hid (HT.out.alloc (.cells #[.string z1, .string z2, .string z3] 68))
                    have HO1 := Lib.hid (HO.out.alloc (.cells #[.string z1, .string z2, .string z3] 68))
                    cases hz : eqRl ⟨z1, z2⟩ ⟨y3, via⟩ with
                    | true =>
                      have HGr := Lib.hid (HGq.out.trans (if_pos hz))
                      clear HGq
                      go_wp2_with (at_builtin; refine halt_ ?_)
                      unfold Halt_
                      refine app_own Tryz.underlying38 str_info rfl (by decide) (by decide) rfl _ _ rfl (w.heap.size + 1) rfl (HO1.out.alloc _) [.string z3] rfl (heap_new2 _ _ _) rfl (str1 _) ?_ ?_ ?_
                      · omega
                      · have := HT.out.low.size; simp; omega
                      intro a' cap' w3 hown' hgrow
                      have HX3 := Lib.hid ((HX1.out.alloc _).grown (HO1.out.alloc _) hgrow)
                      obtain ⟨r1, r2⟩ := push_strF (x := z3) HT1.out HO1.out hown' hgrow
                      have HO3 := Lib.hid r1
                      have HT3 := Lib.hid r2
                      clear hown' hgrow r1 r2 cs fs zs0 cx fx zx
                      go_wp2_with fail
                      exact ⟨⟨j + 1, zs ++ [z3], by omega, by go_num, Lib.hid (by rw [HSj.out, HGr.out, HEj.out, List.append_assoc]), HT3, HX3, HO3⟩, by simp [intOf]; omega⟩
                    | false =>
                      have HGr := Lib.hid (HGq.out.trans (if_neg (by rw [hz]; exact Bool.false_ne_true)))
                      clear HGq
                      go_wp2_with fail
                      exact ⟨⟨j + 1, zs, by omega, by go_num, Lib.hid (by rw [HSj.out, HGr.out, HEj.out]; simp), HT1, HX1, HO1⟩, by simp [intOf]; omega⟩
                  · have HEE := Lib.hid (show zs = (ps.take (n + 1)).flatMap ff by rw [HS.out, HF.out, ← HE.out, HEj.out, List.take_of_length_le (show ps.length ≤ j by omega)])
                    go_wp2_with fail
                    exact ⟨⟨n + 1, zs, by omega, by go_num, HEE, HT, HO⟩, by simp [intOf]; omega⟩
              · have d3 : (k == 3) = false := by rw [beq_eq_false_iff_ne]; exact k3
                have HF := Lib.hid (M50.out k2 k3 k4)
                clear M20 M30 M40 M50
                go_wp2_with fail
                exact ⟨⟨n + 1, ys, by omega, by go_num, Lib.hid (by rw [HS.out, HF.out, HE.out]; simp), HT1, HO1⟩, by simp [intOf]; omega⟩
      · have HRS := Lib.hid (show ys = ps.flatMap ff by rw [HE.out, List.take_of_length_le (show ps.length ≤ n by omega)])
        go_wp2
        go_ret
        exact ⟨_, rfl, by rw [← HRS.out]; exact own_baseF HO.out (Nat.le_succ _), HT.out.low⟩
end Go.Proofs.YtnnieegddbcfcaaGreatDoor
namespace Go.Proofs.YtnnieegddbcfcaaGreatDoor
open Go.RowKit Go.Shelf

/-- append of a row onto a row of the call's own, within a region that draws its order; the row's block is the one that it was, or new. -/
theorem step_rowE {P : Program} {w : World} {ops : Array Oper} {o : Oper} {a : Act} {K : Act → World → Prop} {Q : Exit → Act → World → Prop} {E : Prop} (hgd : o.guard = none) (s x : Operand) (t : TypeId)
    (ho : o.op = .call { callee := .builtin .append, args := #[s, x], argTypes := #[t, t] })
    (base : Nat) (e : TypeId) (i : TypeInfo) (z : Value) (size bytes : Nat) (ht : P.underlying t = some (.slice e)) (hi : P.info? e = some i) (hz : i.zero = some z)
    (hsize : i.size = size) (hby : i.bytes = bytes) (hb1000 : bytes ≤ 1000) (hzs : z.cells.size = size) (hsz : 0 < size)
    (v : Value) (n : Nat) (xs : List Value) (hs : a.eval s = v) (hown : w.ownsRow base e size v n xs)
    (va : Value) (m : Nat) (ys : List Value) (hx : a.eval x = va) (ha : SlA w size va m ys) (h1 : ∀ u ∈ ys, u.oneCell' = true)
    (hnm : n + m ≤ 100000000000) (hbase : base ≤ w.heap.size)
    (h : ∀ a' cap' w', w'.ownsRow base e size (.slice a' (n + m) cap') (n + m) (xs ++ ys) → w.grownBy w' v.ownBlock → (∀ k, k < w.heap.size → some k ≠ v.ownBlock → some k ≠ (Value.slice a' (n + m) cap').ownBlock) → K (a.put o.dst (.slice a' (n + m) cap')) w') :
    if Region.wanted o (yielded ops a.tmps) = true then Oper.wp P o a w K Q else E := by
  by_cases h0 : 0 < m
  · obtain ⟨b, off, c, rfl, hc, hm, hb, hcell⟩ := ha.pos h0
    have hl : ys.length = m * size := by
      rcases ha with ha | ⟨_, rfl, rfl⟩
      · exact ha.len
      · simp
    have hbb : (n + m) * bytes ≤ 140737488355328 := Nat.le_trans (Nat.mul_le_mul (Nat.le_refl _) hb1000) (by omega)
    refine step_append_lies w hgd s x t ho base e i z size bytes ht hi hz hsize hby hzs hsz v n xs hs hown ⟨b, off, none⟩ m c ys hx hl (fun j u hu => by rw [addr_add]; exact hcell j u hu) h1 h0 (by simp only [maxLen]; omega) hbb hbase _ rfl
      (fun g cap w' h1 h2 h3 _ => h _ cap w' h1 h2 (fun k hk hne he => ?_))
    injection he with he
    dsimp only at he
    subst he
    rcases h3 with h3 | h3
    · exact hne h3.symm
    · omega
  · obtain rfl : m = 0 := by omega
    have hy : ys = [] := by
      rcases ha with ha | ⟨_, _, rfl⟩
      · have := ha.len; exact List.eq_nil_of_length_eq_zero (by omega)
      · rfl
    subst hy
    obtain ⟨ax, cx, rfl⟩ := ha.form
    obtain ⟨ao, cap, rfl, hnc⟩ := own_form2 hown
    refine step_zero w hgd s x t ho e i ht hi ao n cap hnc hs ax cx hx ?_
    refine h ao cap w (by rw [List.append_nil]; exact hown) ⟨rfl, rfl, rfl, Nat.le_refl _, fun _ _ _ => rfl⟩ (fun k _ hne he => hne (by rw [he]; cases ao <;> rfl))
/-- Two rows of the call's own in blocks of their own. -/
structure RowsTwo (w0 : World) (e : TypeId) (size : Nat) (v1 : Value) (n1 : Nat) (x1 : List Value) (v2 : Value) (n2 : Nat) (x2 : List Value) (w : World) : Prop where
  low : Below w0.heap.size w0 w
  o1 : w.ownsRow w0.heap.size e size v1 n1 x1
  o2 : w.ownsRow w0.heap.size e size v2 n2 x2
  ne : ∀ k, some k = v1.ownBlock → some k ≠ v2.ownBlock
theorem own_grown {w w' : World} {base size n : Nat} {e : TypeId} {v : Value} {xs : List Value} {r : Option Nat} (h : w.ownsRow base e size v n xs) (hg : w.grownBy w' r) (hne : ∀ k, some k = v.ownBlock → some k ≠ r) : w'.ownsRow base e size v n xs := by
  obtain ⟨h1, h2⟩ := h
  refine ⟨h1, ?_⟩
  rcases h2 with h2 | ⟨g, cap, cur, rfl, hb, hh, h3⟩
  · exact .inl h2
  · exact .inr ⟨g, cap, cur, rfl, hb, (hg.block g (Array.getElem?_eq_some_iff.1 hh).1 (hne g rfl)).trans hh, h3⟩
/-- A second row begins. -/
theorem RowsTwo.new {w0 w : World} {e : TypeId} {size n1 : Nat} {v1 : Value} {x1 : List Value} (hb : Below w0.heap.size w0 w) (h : w.ownsRow w0.heap.size e size v1 n1 x1) :
    RowsTwo w0 e size v1 n1 x1 (.slice (some ⟨w.heap.size, 0, none⟩) 0 0) 0 [] (w.alloc (.cells #[] e)) :=
  ⟨hb.alloc hb.size _, h.alloc _, World.ownsRow_made w #[] 0 hb.size (Nat.zero_le _) (by simp), fun k hk he => by
    have := (h.lt k hk.symm).2
    injection he with he
    dsimp only at he
    omega⟩
end Go.Proofs.YtnnieegddbcfcaaGreatDoor
