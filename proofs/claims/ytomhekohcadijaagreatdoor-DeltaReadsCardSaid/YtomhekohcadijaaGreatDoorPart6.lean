/- Rows of texts: crupperref01.Has and Put, as far as that some bool, and some row, comes back. crupperref05.Roles: some row of roles comes back (printed by gen_roles.py). crupperref05.Prins, Names, Fits: some row of texts, some bool comes back (printed by gen_prins.py). crupperref05.Fits, crupperref04.Right, crupperref03.SameRoles: some bool comes back. crupperref04.Right: some bool comes back. crupperref05.SortRoles: the rows of roles in order that it makes (printed by gen_rlsort.py out of RefSort). crupperref03.SameRoles: whether two rows of roles are one. Plain laws of rows of roles in order (printed by gen_rlall.py out of OrdLaw, RefSort, StFns). slices.Compact and slices.SortFunc at rows of roles; policy.SortRoles (printed by gen_rlall.py out of Compact, SynSort). -/
import Derived.Test.YtomhekohcadijaaGreatDoorPart5
import Derived.Deep.RegionLawGrows
import Derived.Test.YtomhekohcadijaaGreatDoorPart3
namespace Go.Proofs.YtomhekohcadijaaGreatDoor
open Go.RowKit Go.Shelf

theorem strs_len (l : List ByteArray) : (strs l).length = l.length * 1 := by simp [strs]
theorem strs_app (l m : List ByteArray) : strs (l ++ m) = strs l ++ strs m := by simp [strs]
theorem strs_one (l : List ByteArray) : ∀ u ∈ strs l, u.oneCell' = true := by
  intro u hu
  obtain ⟨s, _, rfl⟩ := List.mem_map.1 hu
  rfl
theorem str1 (s : ByteArray) : ∀ u ∈ [Value.string s], u.oneCell' = true := fun u hu => by rw [List.mem_singleton.1 hu]; rfl
theorem own_push {wA wr w3 : World} {vo : Value} {ss : List ByteArray} {x : ByteArray} {o : Obj} {a' : Option Addr} {cap' : Nat} (hb : Below wA.heap.size wA wr) (hown : wr.ownsRow wA.heap.size 9 1 vo ss.length (strs ss))
    (h : w3.ownsRow wA.heap.size 9 1 (.slice a' (ss.length + 1) cap') (ss.length + 1) (strs ss ++ [.string x])) (hg : (wr.alloc o).grownBy w3 vo.ownBlock) :
    w3.ownsRow wA.heap.size 9 1 (.slice a' (ss.length + 1) cap') (ss ++ [x]).length (strs (ss ++ [x])) ∧ Below wA.heap.size wA w3 := by
  refine ⟨by rw [List.length_append, strs_app]; exact h, ?_⟩
  exact below_own (hb.alloc hb.size o) (hown.alloc _) hg (by have := hb.size; simp; omega) (Nat.le_refl _)
theorem str_info : (Tryz.prog.info? 9).map (fun i => (i.zero, i.size, i.bytes)) = some (some (.string ByteArray.empty), 1, 16) := by kernel_rfl
end Go.Proofs.YtomhekohcadijaaGreatDoor
namespace Go.Proofs.YtomhekohcadijaaGreatDoor
open Go.RowKit Go.Shelf

theorem rl1 (x y : ByteArray) : ∀ u ∈ [Value.string x, Value.string y], u.oneCell' = true := by
  intro u hu; simp at hu; rcases hu with rfl | rfl <;> rfl
theorem heap_old {w : World} {g : Nat} {o : Obj} (o' : Obj) (h : w.heap[g]? = some o) : (w.alloc o').heap[g]? = some o :=
  (Below.heap_alloc _ _ _ (Array.getElem?_eq_some_iff.1 h).1).trans h
theorem own_tag {w : World} {base size n g : Nat} {e t : TypeId} {v : Value} {xs : List Value} {cs : Array Value} {fz : Nat × Nat} (h : w.ownsRow base e size v n xs) (hg : w.heap[g]? = some (.cells cs t fz)) (ht : t ≠ e) : some g ≠ v.ownBlock := by
  rcases h.2 with ⟨rfl, rfl⟩ | ⟨g', cap, cur, rfl, _, hg', _⟩
  · simp [Value.ownBlock]
  · simp only [Value.ownBlock]
    intro e'
    cases e'
    rw [hg] at hg'
    simp only [Option.some.injEq, Obj.cells.injEq] at hg'
    exact ht hg'.2.1
theorem push_role {w wr w3 : World} {A : Array Value} {vo : Value} {rs : List Rl} {x : Rl} {o : Obj} {a' : Option Addr} {cap' : Nat} (ht : OneAt w A wr) (hown : wr.ownsRow (w.heap.size + 1) 78 2 vo rs.length (rs.flatMap Rl.cells))
    (h : w3.ownsRow (w.heap.size + 1) 78 2 (.slice a' (rs.length + 1) cap') (rs.length + 1) (rs.flatMap Rl.cells ++ [.string x.o, .string x.n])) (hg : (wr.alloc o).grownBy w3 vo.ownBlock) :
    w3.ownsRow (w.heap.size + 1) 78 2 (.slice a' (rs.length + 1) cap') (rs ++ [x]).length ((rs ++ [x]).flatMap Rl.cells) ∧ OneAt w A w3 := by
  refine ⟨by rw [List.length_append, rl_flat]; exact h, (ht.a.alloc o).grown hg (own_gt_ne hown (Nat.lt_succ_self _)), ?_⟩
  exact below_own (ht.low.alloc ht.low.size o) (hown.alloc _) hg (by have := ht.low.size; simp; omega) (Nat.le_succ _)
theorem le_snoc {rs : List Rl} {x : Rl} (h : ∀ y ∈ rs, y.le 9223372036854775807) (hx : x.le 9223372036854775807) : ∀ y ∈ rs ++ [x], y.le 9223372036854775807 := by
  intro y hy
  rcases List.mem_append.1 hy with h' | h'
  · exact h y h'
  · rw [List.mem_singleton.1 h']; exact hx
theorem own_len {w : World} {base : Nat} {a : Option Addr} {n n' m cap : Nat} {xs : List Value} (h : w.ownsRow base 78 2 (.slice a n cap) m xs) (e : n = n') : w.ownsRow base 78 2 (.slice a n' cap) m xs := by subst e; exact h

def rolesQ (q : Qv) : List Rl := if q.k = 5 ∨ q.k = 6 then [q.a, q.b] else [q.a]
theorem flat_snocF {α β : Type} {l : List α} {k : Nat} (f : α → List β) (hk : k < l.length) : (l.take (k + 1)).flatMap f = (l.take k).flatMap f ++ f l[k] := by
  rw [List.take_succ_eq_append_getElem hk, List.flatMap_append]; simp
theorem take_snoc {α : Type} {l : List α} {k : Nat} (hk : k < l.length) : l.take (k + 1) = l.take k ++ [l[k]] := List.take_succ_eq_append_getElem hk
def allRoles (l : List St) (g h : List Rl) (qs : List Qv) : List Rl := l.flatMap rolesS ++ g ++ h ++ qs.flatMap rolesQ
set_option maxRecDepth 100000 in
set_option maxHeartbeats 8000000 in
theorem ref5_RolesL (v0 v1 v2 v3 : Value) (l : List St) (g h : List Rl) (qs : List Qv) (w : World) (hp : PolAt w v0 v1 v2 v3 l g h qs) (hl : l.length ≤ 100) (hg : g.length ≤ 100) (hh : h.length ≤ 100) (hq : qs.length ≤ 100) :
    Calls Tryz.prog 167 #[pv v0 v1 v2 v3] w fun e w' => ∃ v, e = .returned v ∧ SlA w' 2 v (allRoles l g h qs).length ((allRoles l g h qs).flatMap Rl.cells) ∧ (allRoles l g h qs).length ≤ 1000 ∧ (∀ x ∈ allRoles l g h qs, x.le 9223372036854775807) ∧ Below w.heap.size w w' := by
  have HP := Lib.hid hp
  obtain ⟨a0, c0, rfl⟩ := hp.rs.form
  obtain ⟨a1, c1, rfl⟩ := hp.rg.form
  obtain ⟨a2, c2, rfl⟩ := hp.rh.form
  obtain ⟨a3, c3, rfl⟩ := hp.rq.form
  have HT := Lib.hid (show OneAt w #[.slice a0 l.length c0, .slice a1 g.length c1, .slice a2 h.length c2, .slice a3 qs.length c3] (w.alloc (.cells #[.slice a0 l.length c0, .slice a1 g.length c1, .slice a2 h.length c2, .slice a3 qs.length c3] 26)) from ⟨Blk.new w _ _, (Below.refl _ _).alloc (Nat.le_refl _) _⟩)
  clear hp
  go_enter Tryz.func167, Tryz.ntmps167
  go_wp2_with fail
  go_loopw [3, 15] (fun vo i wr => ∃ (k : Nat) (rs : List Rl), k ≤ l.length ∧ i = .int .i64 k ∧ Hid (rs.length ≤ 3 * k) ∧ Hid (∀ x ∈ rs, x.le 9223372036854775807) ∧ Hid (OneAt w #[.slice a0 l.length c0, .slice a1 g.length c1, .slice a2 h.length c2, .slice a3 qs.length c3] wr) ∧ Hid (wr.ownsRow (w.heap.size + 1) 78 2 vo rs.length (rs.flatMap Rl.cells)) ∧ Hid (rs = (l.take k).flatMap rolesS)) (fun _ i _ => l.length - (intOf i).toNat)
  case atStart => exact ⟨0, [], by omega, rfl, Lib.hid (by simp), Lib.hid (fun x hx => by cases hx), HT, Lib.hid (World.ownsRow_nil _ _ _ _), Lib.hid (by simp)⟩
  case round =>
    clear HT
    obtain ⟨k, rs, hk, rfl, HC, HZ, HT, HO, HE⟩ := hrel
    obtain ⟨oo, oc, rfl⟩ := own_form HO.out
    have hrs := HC.out
    by_cases hlt : k < l.length
    · obtain ⟨b1, o1, e1, he1, hc1, hm1', hb1, hx1⟩ := HP.out.rs.pos (by omega)
      simp only [Value.slice.injEq, true_and] at he1
      obtain ⟨rfl, rfl⟩ := he1
      obtain ⟨p0, p1, p2, p3, p4, p5, p6, p7, p8⟩ := st_cell (w := wr) (fun j u hu => (HT.out.low.cell (p := ⟨b1, o1 + j, none⟩) hb1).trans (hx1 j u hu)) k hlt
      have hbr : b1 < wr.heap.size := Nat.lt_of_lt_of_le hb1 HT.out.low.size
      have hxl := HP.out.ls _ (List.getElem_mem hlt)
      have HF := Lib.hid (flat_snocF rolesS hlt)
      clear hx1
      generalize l[k] = x at *
      obtain ⟨xk, ⟨x1, x2⟩, xw, ⟨x3, x4⟩, ⟨x5, x6⟩, xv⟩ := x
      have l1 : (⟨x1, x2⟩ : Rl).le 9223372036854775807 := hxl.1
      have l2 : (⟨x3, x4⟩ : Rl).le 9223372036854775807 := hxl.2.2.1
      have l3 : (⟨x5, x6⟩ : Rl).le 9223372036854775807 := hxl.2.2.2.1
      clear hxl
      have hown := HO.out
      go_wp2_with (at_builtin; refine halt_ ?_)
      unfold Halt_
      refine app_own Tryz.underlying23 rl_info' rfl (by decide) (by decide) rfl _ _ rfl (w.heap.size + 1) rfl ((hown.alloc _).alloc _) [.string x1, .string x2] rfl (heap_new2 _ _ _) rfl (rl1 _ _) ?_ ?_ ?_
      · first | omega | (simp only [List.length_append, List.length_cons, List.length_nil]; omega)
      · have := HT.out.a.2.2; simp; omega
      intro a' cap' w3 hown' hgrow
      have HTb := HT.out.alloc (.cells #[.int .i64 xk, .string x1, .string x2, .string xw, .string x3, .string x4, .string x5, .string x6, .string xv] 80)
      obtain ⟨q1, q2⟩ := push_role (x := ⟨x1, x2⟩) HTb (hown.alloc _) hown' hgrow
      have hbx : w3.heap[wr.heap.size]? = some (.cells #[.int .i64 xk, .string x1, .string x2, .string xw, .string x3, .string x4, .string x5, .string x6, .string xv] 80 (0, 0)) := (hgrow.block _ (by simp; omega) (own_ne hown (Nat.le_refl _))).trans (heap_old _ (heap_new1 wr _))
      have HO1 := Lib.hid (own_len (n' := rs.length + 1) q1 (by simp))
      have HT1 := Lib.hid q2
      have HBX1 := Lib.hid hbx
      obtain ⟨cx, fx, zx⟩ := blk_of hbx
      clear hown hown' hgrow q1 q2 hbx HTb
      by_cases k2 : 2 ≤ xk
      case neg =>
        have d2 : decide (2 ≤ xk) = false := decide_eq_false k2
        have d4 : (xk == 4) = false := by (rw [beq_eq_false_iff_ne]; omega)
        have HR := Lib.hid (show rolesS ⟨xk, ⟨x1, x2⟩, xw, ⟨x3, x4⟩, ⟨x5, x6⟩, xv⟩ = [⟨x1, x2⟩] by simp only [rolesS]; rw [if_neg (show ¬ (xk = 2 ∨ xk = 3) by omega), if_neg (show ¬ xk = 4 by omega)])
        clear k2
        go_wp2_with fail
        exact ⟨⟨k + 1, rs ++ [⟨x1, x2⟩], by omega, by go_num, Lib.hid (by simp only [List.length_append, List.length_cons, List.length_nil]; omega), Lib.hid (le_snoc HZ.out (x := ⟨x1, x2⟩) l1), HT1, HO1, Lib.hid (by rw [HF.out, HR.out, HE.out] <;> simp)⟩, by simp [intOf]; omega⟩
      have d2 : decide (2 ≤ xk) = true := decide_eq_true k2
      by_cases k4 : xk ≤ 4
      case neg =>
        have d3 : decide (xk ≤ 4) = false := decide_eq_false k4
        have d4 : (xk == 4) = false := by (rw [beq_eq_false_iff_ne]; omega)
        have HR := Lib.hid (show rolesS ⟨xk, ⟨x1, x2⟩, xw, ⟨x3, x4⟩, ⟨x5, x6⟩, xv⟩ = [⟨x1, x2⟩] by simp only [rolesS]; rw [if_neg (show ¬ (xk = 2 ∨ xk = 3) by omega), if_neg (show ¬ xk = 4 by omega)])
        clear k2 k4
        go_wp2_with fail
        exact ⟨⟨k + 1, rs ++ [⟨x1, x2⟩], by omega, by go_num, Lib.hid (by simp only [List.length_append, List.length_cons, List.length_nil]; omega), Lib.hid (le_snoc HZ.out (x := ⟨x1, x2⟩) l1), HT1, HO1, Lib.hid (by rw [HF.out, HR.out, HE.out] <;> simp)⟩, by simp [intOf]; omega⟩
      have d3 : decide (xk ≤ 4) = true := decide_eq_true k4
      have hown := HO1.out
      go_wp2_with (at_builtin; refine halt_ ?_)
      unfold Halt_
      refine app_own Tryz.underlying23 rl_info' rfl (by decide) (by decide) rfl _ _ rfl (w.heap.size + 1) rfl (hown.alloc _) [.string x3, .string x4] rfl (heap_new1 _ _) rfl (rl1 _ _) ?_ ?_ ?_
      · first | omega | (simp only [List.length_append, List.length_cons, List.length_nil]; omega)
      · have := HT1.out.a.2.2; simp; omega
      intro a' cap' w3 hown' hgrow
      obtain ⟨q1, q2⟩ := push_role (x := ⟨x3, x4⟩) HT1.out hown hown' hgrow
      have hbx : w3.heap[wr.heap.size]? = some (.cells #[.int .i64 xk, .string x1, .string x2, .string xw, .string x3, .string x4, .string x5, .string x6, .string xv] 80 (0, 0)) := (hgrow.block _ (Nat.lt_of_lt_of_le (Array.getElem?_eq_some_iff.1 HBX1.out).1 (by simp)) (own_tag hown HBX1.out (by decide))).trans (heap_old _ HBX1.out)
      have HO2 := Lib.hid (own_len (n' := rs.length + 1 + 1) q1 (by simp))
      have HT2 := Lib.hid q2
      have HBX2 := Lib.hid hbx
      obtain ⟨cx, fx, zx⟩ := blk_of hbx
      clear hown hown' hgrow q1 q2 hbx
      by_cases k44 : xk = 4
      case neg =>
        have d4 : (xk == 4) = false := by (rw [beq_eq_false_iff_ne]; omega)
        have HR := Lib.hid (show rolesS ⟨xk, ⟨x1, x2⟩, xw, ⟨x3, x4⟩, ⟨x5, x6⟩, xv⟩ = [⟨x1, x2⟩, ⟨x3, x4⟩] by simp only [rolesS]; rw [if_pos (show xk = 2 ∨ xk = 3 by omega)])
        clear k2 k4 k44
        go_wp2_with fail
        exact ⟨⟨k + 1, rs ++ [⟨x1, x2⟩] ++ [⟨x3, x4⟩], by omega, by go_num, Lib.hid (by simp only [List.length_append, List.length_cons, List.length_nil]; omega), Lib.hid (le_snoc (le_snoc HZ.out (x := ⟨x1, x2⟩) l1) (x := ⟨x3, x4⟩) l2), HT2, HO2, Lib.hid (by rw [HF.out, HR.out, HE.out] <;> simp)⟩, by simp [intOf]; omega⟩
      have d4 : (xk == 4) = true := by simp [k44]
      have HR := Lib.hid (show rolesS ⟨xk, ⟨x1, x2⟩, xw, ⟨x3, x4⟩, ⟨x5, x6⟩, xv⟩ = [⟨x1, x2⟩, ⟨x3, x4⟩, ⟨x5, x6⟩] by simp only [rolesS]; rw [if_neg (show ¬ (xk = 2 ∨ xk = 3) by omega), if_pos k44])
      clear k2 k4 k44
      have hown := HO2.out
      go_wp2_with (at_builtin; refine halt_ ?_)
      unfold Halt_
      refine app_own Tryz.underlying23 rl_info' rfl (by decide) (by decide) rfl _ _ rfl (w.heap.size + 1) rfl (hown.alloc _) [.string x5, .string x6] rfl (heap_new1 _ _) rfl (rl1 _ _) ?_ ?_ ?_
      · first | omega | (simp only [List.length_append, List.length_cons, List.length_nil]; omega)
      · have := HT2.out.a.2.2; simp; omega
      intro a' cap' w3 hown' hgrow
      obtain ⟨q1, q2⟩ := push_role (x := ⟨x5, x6⟩) HT2.out hown hown' hgrow
      have HO3 := Lib.hid (own_len (n' := rs.length + 1 + 1 + 1) q1 (by simp))
      have HT3 := Lib.hid q2
      clear hown hown' hgrow q1 q2
      go_wp2_with fail
      exact ⟨⟨k + 1, rs ++ [⟨x1, x2⟩] ++ [⟨x3, x4⟩] ++ [⟨x5, x6⟩], by omega, by go_num, Lib.hid (by simp only [List.length_append, List.length_cons, List.length_nil]; omega), Lib.hid (le_snoc (le_snoc (le_snoc HZ.out (x := ⟨x1, x2⟩) l1) (x := ⟨x3, x4⟩) l2) (x := ⟨x5, x6⟩) l3), HT3, HO3, Lib.hid (by rw [HF.out, HR.out, HE.out] <;> simp)⟩, by simp [intOf]; omega⟩
    · obtain ⟨ca, fa, za⟩ := HT.out.a
      have hn0 : rs.length ≤ 300 := by omega
      have HE0 := Lib.hid (show rs = l.flatMap rolesS by rw [HE.out, List.take_of_length_le (show l.length ≤ k by omega)])
      clear hrs HC hk HE
      go_wp2_with fail
      clear ca fa za
      go_loopw [3, 49] (fun vo i wr => ∃ (k : Nat) (rs : List Rl), k ≤ g.length ∧ i = .int .i64 k ∧ Hid (rs.length ≤ 300 + k) ∧ Hid (∀ x ∈ rs, x.le 9223372036854775807) ∧ Hid (OneAt w #[.slice a0 l.length c0, .slice a1 g.length c1, .slice a2 h.length c2, .slice a3 qs.length c3] wr) ∧ Hid (wr.ownsRow (w.heap.size + 1) 78 2 vo rs.length (rs.flatMap Rl.cells)) ∧ Hid (rs = l.flatMap rolesS ++ g.take k)) (fun _ i _ => g.length - (intOf i).toNat)
      case atStart => exact ⟨0, rs, by omega, rfl, Lib.hid hn0, HZ, HT, HO, Lib.hid (by rw [HE0.out]; simp)⟩
      case round =>
        clear HT HZ HO hn0 HE0
        obtain ⟨k, rs, hk, rfl, HC, HZ, HT, HO, HE⟩ := hrel
        obtain ⟨oo, oc, rfl⟩ := own_form HO.out
        have hrs := HC.out
        by_cases hlt : k < g.length
        · obtain ⟨b1, o1, e1, he1, hc1, hm1', hb1, hx1⟩ := HP.out.rg.pos (by omega)
          simp only [Value.slice.injEq, true_and] at he1
          obtain ⟨rfl, rfl⟩ := he1
          obtain ⟨p0, p1⟩ := rl_cell (w := wr) (fun j u hu => (HT.out.low.cell (p := ⟨b1, o1 + j, none⟩) hb1).trans (hx1 j u hu)) k hlt
          have hbr : b1 < wr.heap.size := Nat.lt_of_lt_of_le hb1 HT.out.low.size
          have l1 := HP.out.lg _ (List.getElem_mem hlt)
          have HF := Lib.hid (take_snoc hlt)
          clear hx1
          generalize g[k] = x at *
          obtain ⟨x1, x2⟩ := x
          have hown := HO.out
          go_wp2_with (at_builtin; refine halt_ ?_)
          unfold Halt_
          refine app_own Tryz.underlying23 rl_info' rfl (by decide) (by decide) rfl _ _ rfl (w.heap.size + 1) rfl ((hown.alloc _).alloc _) [.string x1, .string x2] rfl (heap_new2 _ _ _) rfl (rl1 _ _) ?_ ?_ ?_
          · first | omega | (simp only [List.length_append, List.length_cons, List.length_nil]; omega)
          · have := HT.out.a.2.2; simp; omega
          intro a' cap' w3 hown' hgrow
          have HTb := HT.out.alloc (.cells #[.string x1, .string x2] 78)
          obtain ⟨q1, q2⟩ := push_role (x := ⟨x1, x2⟩) HTb (hown.alloc _) hown' hgrow
          have HO1 := Lib.hid (own_len (n' := rs.length + 1) q1 (by simp))
          have HT1 := Lib.hid q2
          clear hown hown' hgrow q1 q2 HTb
          go_wp2_with fail
          exact ⟨⟨k + 1, rs ++ [⟨x1, x2⟩], by omega, by go_num, Lib.hid (by simp only [List.length_append, List.length_cons, List.length_nil]; omega), Lib.hid (le_snoc HZ.out (x := ⟨x1, x2⟩) l1), HT1, HO1, Lib.hid (by rw [HF.out, HE.out] <;> simp)⟩, by simp [intOf]; omega⟩
        · obtain ⟨ca, fa, za⟩ := HT.out.a
          have hn0 : rs.length ≤ 400 := by omega
          have HE0 := Lib.hid (show rs = l.flatMap rolesS ++ g by rw [HE.out, List.take_of_length_le (show g.length ≤ k by omega)])
          clear hrs HC hk HE
          go_wp2_with fail
          clear ca fa za
          go_loopw [3, 61] (fun vo i wr => ∃ (k : Nat) (rs : List Rl), k ≤ h.length ∧ i = .int .i64 k ∧ Hid (rs.length ≤ 400 + k) ∧ Hid (∀ x ∈ rs, x.le 9223372036854775807) ∧ Hid (OneAt w #[.slice a0 l.length c0, .slice a1 g.length c1, .slice a2 h.length c2, .slice a3 qs.length c3] wr) ∧ Hid (wr.ownsRow (w.heap.size + 1) 78 2 vo rs.length (rs.flatMap Rl.cells)) ∧ Hid (rs = l.flatMap rolesS ++ g ++ h.take k)) (fun _ i _ => h.length - (intOf i).toNat)
          case atStart => exact ⟨0, rs, by omega, rfl, Lib.hid hn0, HZ, HT, HO, Lib.hid (by rw [HE0.out]; simp)⟩
          case round =>
            clear HT HZ HO hn0 HE0
            obtain ⟨k, rs, hk, rfl, HC, HZ, HT, HO, HE⟩ := hrel
            obtain ⟨oo, oc, rfl⟩ := own_form HO.out
            have hrs := HC.out
            by_cases hlt : k < h.length
            · obtain ⟨b1, o1, e1, he1, hc1, hm1', hb1, hx1⟩ := HP.out.rh.pos (by omega)
              simp only [Value.slice.injEq, true_and] at he1
              obtain ⟨rfl, rfl⟩ := he1
              obtain ⟨p0, p1⟩ := rl_cell (w := wr) (fun j u hu => (HT.out.low.cell (p := ⟨b1, o1 + j, none⟩) hb1).trans (hx1 j u hu)) k hlt
              have hbr : b1 < wr.heap.size := Nat.lt_of_lt_of_le hb1 HT.out.low.size
              have l1 := HP.out.lh _ (List.getElem_mem hlt)
              have HF := Lib.hid (take_snoc hlt)
              clear hx1
              generalize h[k] = x at *
              obtain ⟨x1, x2⟩ := x
              have hown := HO.out
              go_wp2_with (at_builtin; refine halt_ ?_)
              unfold Halt_
              refine app_own Tryz.underlying23 rl_info' rfl (by decide) (by decide) rfl _ _ rfl (w.heap.size + 1) rfl ((hown.alloc _).alloc _) [.string x1, .string x2] rfl (heap_new2 _ _ _) rfl (rl1 _ _) ?_ ?_ ?_
              · first | omega | (simp only [List.length_append, List.length_cons, List.length_nil]; omega)
              · have := HT.out.a.2.2; simp; omega
              intro a' cap' w3 hown' hgrow
              have HTb := HT.out.alloc (.cells #[.string x1, .string x2] 78)
              obtain ⟨q1, q2⟩ := push_role (x := ⟨x1, x2⟩) HTb (hown.alloc _) hown' hgrow
              have HO1 := Lib.hid (own_len (n' := rs.length + 1) q1 (by simp))
              have HT1 := Lib.hid q2
              clear hown hown' hgrow q1 q2 HTb
              go_wp2_with fail
              exact ⟨⟨k + 1, rs ++ [⟨x1, x2⟩], by omega, by go_num, Lib.hid (by simp only [List.length_append, List.length_cons, List.length_nil]; omega), Lib.hid (le_snoc HZ.out (x := ⟨x1, x2⟩) l1), HT1, HO1, Lib.hid (by rw [HF.out, HE.out] <;> simp)⟩, by simp [intOf]; omega⟩
            · obtain ⟨ca, fa, za⟩ := HT.out.a
              have hn0 : rs.length ≤ 500 := by omega
              have HE0 := Lib.hid (show rs = l.flatMap rolesS ++ g ++ h by rw [HE.out, List.take_of_length_le (show h.length ≤ k by omega)])
              clear hrs HC hk HE
              go_wp2_with fail
              clear ca fa za
              go_loopw [3, 73] (fun vo i wr => ∃ (k : Nat) (rs : List Rl), k ≤ qs.length ∧ i = .int .i64 k ∧ Hid (rs.length ≤ 500 + 2 * k) ∧ Hid (∀ x ∈ rs, x.le 9223372036854775807) ∧ Hid (OneAt w #[.slice a0 l.length c0, .slice a1 g.length c1, .slice a2 h.length c2, .slice a3 qs.length c3] wr) ∧ Hid (wr.ownsRow (w.heap.size + 1) 78 2 vo rs.length (rs.flatMap Rl.cells)) ∧ Hid (rs = l.flatMap rolesS ++ g ++ h ++ (qs.take k).flatMap rolesQ)) (fun _ i _ => qs.length - (intOf i).toNat)
              case atStart => exact ⟨0, rs, by omega, rfl, Lib.hid hn0, HZ, HT, HO, Lib.hid (by rw [HE0.out]; simp)⟩
              case round =>
                clear HT HZ HO hn0 HE0
                obtain ⟨k, rs, hk, rfl, HC, HZ, HT, HO, HE⟩ := hrel
                obtain ⟨oo, oc, rfl⟩ := own_form HO.out
                have hrs := HC.out
                by_cases hlt : k < qs.length
                · obtain ⟨b1, o1, e1, he1, hc1, hm1', hb1, hx1⟩ := HP.out.rq.pos (by omega)
                  simp only [Value.slice.injEq, true_and] at he1
                  obtain ⟨rfl, rfl⟩ := he1
                  obtain ⟨p0, p1, p2, p3, p4, p5⟩ := q_cell (w := wr) (fun j u hu => (HT.out.low.cell (p := ⟨b1, o1 + j, none⟩) hb1).trans (hx1 j u hu)) k hlt
                  have hbr : b1 < wr.heap.size := Nat.lt_of_lt_of_le hb1 HT.out.low.size
                  have hqo := HP.out.lq _ (List.getElem_mem hlt)
                  have l1 := hqo.1
                  have l2 := hqo.2.1
                  obtain ⟨wo, wc, hw5⟩ : ∃ a c, qs[k].w = .slice a ((hqo.2.2).choose).length c := ((hqo.2.2).choose_spec.1).form
                  generalize (hqo.2.2).choose.length = nw at hw5
                  have HF := Lib.hid (flat_snocF rolesQ hlt)
                  clear hx1 hqo
                  generalize qs[k] = x at *
                  obtain ⟨xk, ⟨x1, x2⟩, ⟨x3, x4⟩, xw⟩ := x
                  dsimp only at hw5
                  subst hw5
                  have hown := HO.out
                  go_wp2_with (at_builtin; refine halt_ ?_)
                  unfold Halt_
                  refine app_own Tryz.underlying23 rl_info' rfl (by decide) (by decide) rfl _ _ rfl (w.heap.size + 1) rfl ((hown.alloc _).alloc _) [.string x1, .string x2] rfl (heap_new2 _ _ _) rfl (rl1 _ _) ?_ ?_ ?_
                  · first | omega | (simp only [List.length_append, List.length_cons, List.length_nil]; omega)
                  · have := HT.out.a.2.2; simp; omega
                  intro a' cap' w3 hown' hgrow
                  have HTb := HT.out.alloc (.cells #[.int .i64 xk, .string x1, .string x2, .string x3, .string x4, .slice wo nw wc] 83)
                  obtain ⟨q1, q2⟩ := push_role (x := ⟨x1, x2⟩) HTb (hown.alloc _) hown' hgrow
                  have hbx : w3.heap[wr.heap.size]? = some (.cells #[.int .i64 xk, .string x1, .string x2, .string x3, .string x4, .slice wo nw wc] 83 (0, 0)) := (hgrow.block _ (by simp; omega) (own_ne hown (Nat.le_refl _))).trans (heap_old _ (heap_new1 wr _))
                  have HO1 := Lib.hid (own_len (n' := rs.length + 1) q1 (by simp))
                  have HT1 := Lib.hid q2
                  have HBX1 := Lib.hid hbx
                  obtain ⟨cx, fx, zx⟩ := blk_of hbx
                  clear hown hown' hgrow q1 q2 hbx HTb
                  by_cases k5 : xk = 5 ∨ xk = 6
                  case neg =>
                    have d5 : (xk == 5) = false := by (rw [beq_eq_false_iff_ne]; omega)
                    have d6 : (xk == 6) = false := by (rw [beq_eq_false_iff_ne]; omega)
                    have HR := Lib.hid (show rolesQ ⟨xk, ⟨x1, x2⟩, ⟨x3, x4⟩, .slice wo nw wc⟩ = [⟨x1, x2⟩] from if_neg k5)
                    clear k5
                    go_wp2_with fail
                    exact ⟨⟨k + 1, rs ++ [⟨x1, x2⟩], by omega, by go_num, Lib.hid (by simp only [List.length_append, List.length_cons, List.length_nil]; omega), Lib.hid (le_snoc HZ.out (x := ⟨x1, x2⟩) l1), HT1, HO1, Lib.hid (by rw [HF.out, HR.out, HE.out] <;> simp)⟩, by simp [intOf]; omega⟩
                  have HR := Lib.hid (show rolesQ ⟨xk, ⟨x1, x2⟩, ⟨x3, x4⟩, .slice wo nw wc⟩ = [⟨x1, x2⟩, ⟨x3, x4⟩] from if_pos k5)
                  by_cases k6 : xk = 5
                  case pos =>
                    have d5 : (xk == 5) = true := by simp [k6]
                    clear k5 k6
                    have hown := HO1.out
                    go_wp2_with (at_builtin; refine halt_ ?_)
                    unfold Halt_
                    refine app_own Tryz.underlying23 rl_info' rfl (by decide) (by decide) rfl _ _ rfl (w.heap.size + 1) rfl (hown.alloc _) [.string x3, .string x4] rfl (heap_new1 _ _) rfl (rl1 _ _) ?_ ?_ ?_
                    · first | omega | (simp only [List.length_append, List.length_cons, List.length_nil]; omega)
                    · have := HT1.out.a.2.2; simp; omega
                    intro a' cap' w3 hown' hgrow
                    obtain ⟨q1, q2⟩ := push_role (x := ⟨x3, x4⟩) HT1.out hown hown' hgrow
                    have HO2 := Lib.hid (own_len (n' := rs.length + 1 + 1) q1 (by simp))
                    have HT2 := Lib.hid q2
                    clear hown hown' hgrow q1 q2
                    go_wp2_with fail
                    exact ⟨⟨k + 1, rs ++ [⟨x1, x2⟩] ++ [⟨x3, x4⟩], by omega, by go_num, Lib.hid (by simp only [List.length_append, List.length_cons, List.length_nil]; omega), Lib.hid (le_snoc (le_snoc HZ.out (x := ⟨x1, x2⟩) l1) (x := ⟨x3, x4⟩) l2), HT2, HO2, Lib.hid (by rw [HF.out, HR.out, HE.out] <;> simp)⟩, by simp [intOf]; omega⟩
                  have d5 : (xk == 5) = false := by (rw [beq_eq_false_iff_ne]; omega)
                  have d6 : (xk == 6) = true := by (rw [beq_iff_eq]; omega)
                  clear k5 k6
                  have hown := HO1.out
                  go_wp2_with (at_builtin; refine halt_ ?_)
                  unfold Halt_
                  refine app_own Tryz.underlying23 rl_info' rfl (by decide) (by decide) rfl _ _ rfl (w.heap.size + 1) rfl (hown.alloc _) [.string x3, .string x4] rfl (heap_new1 _ _) rfl (rl1 _ _) ?_ ?_ ?_
                  · first | omega | (simp only [List.length_append, List.length_cons, List.length_nil]; omega)
                  · have := HT1.out.a.2.2; simp; omega
                  intro a' cap' w3 hown' hgrow
                  obtain ⟨q1, q2⟩ := push_role (x := ⟨x3, x4⟩) HT1.out hown hown' hgrow
                  have HO2 := Lib.hid (own_len (n' := rs.length + 1 + 1) q1 (by simp))
                  have HT2 := Lib.hid q2
                  clear hown hown' hgrow q1 q2
                  go_wp2_with fail
                  exact ⟨⟨k + 1, rs ++ [⟨x1, x2⟩] ++ [⟨x3, x4⟩], by omega, by go_num, Lib.hid (by simp only [List.length_append, List.length_cons, List.length_nil]; omega), Lib.hid (le_snoc (le_snoc HZ.out (x := ⟨x1, x2⟩) l1) (x := ⟨x3, x4⟩) l2), HT2, HO2, Lib.hid (by rw [HF.out, HR.out, HE.out] <;> simp)⟩, by simp [intOf]; omega⟩
                · have HSL := Lib.hid (Sl.of_own HO.out).a
                  have HA := Lib.hid (show rs = allRoles l g h qs by rw [HE.out, List.take_of_length_le (show qs.length ≤ k by omega)]; rfl)
                  go_wp2
                  go_ret
                  exact ⟨_, rfl, by rw [← HA.out]; exact HSL.out, by rw [← HA.out]; omega, by rw [← HA.out]; exact HZ.out, HT.out.low⟩
end Go.Proofs.YtomhekohcadijaaGreatDoor
namespace Go.Proofs.YtomhekohcadijaaGreatDoor
open Go.RowKit Go.Shelf

end Go.Proofs.YtomhekohcadijaaGreatDoor
namespace Go.Proofs.YtomhekohcadijaaGreatDoor
open Go.RowKit Go.Shelf

end Go.Proofs.YtomhekohcadijaaGreatDoor
namespace Go.Proofs.YtomhekohcadijaaGreatDoor
open Go.RowKit Go.Shelf

set_option maxHeartbeats 400000 in
theorem ref3_IsRoleM (r : Rl) (w : World) (hs : r.le 9223372036854775807) :
    Calls Tryz.prog 60 #[rv r] w fun e w' => e = .returned (.bool (isRole r)) ∧ Below w.heap.size w w' := by
  obtain ⟨o, n⟩ := r
  obtain ⟨h1, h2⟩ := hs
  have H1 := Lib.hid (fun W => ref1_IsPrin o W h1)
  have H2 := Lib.hid (fun W => ref1_IsName n W h2)
  clear h1 h2
  have E := Lib.hid (show isRole ⟨o, n⟩ = (isP 65 90 (bl o) && isP 97 122 (bl n)) from rfl)
  cases hp : isP 65 90 (bl o)
  all_goals
    rw [hp] at E
    go_enter Tryz.func60, Tryz.ntmps60
    go_wp2_with (first | (go_at_call 110; refine (H1.out _).mono ?_; rintro e w' ⟨rfl, rfl⟩) | (go_at_call 111; refine (H2.out _).mono ?_; rintro e w' ⟨rfl, rfl⟩))
    go_ret
    exact ⟨ret_b (by rw [E.out]; rfl), (Below.refl _ _).alloc (Nat.le_refl _) _⟩

end Go.Proofs.YtomhekohcadijaaGreatDoor
namespace Go.Proofs.YtomhekohcadijaaGreatDoor
open Go.RowKit Go.Shelf
def posSR : List Rl → Rl → Nat
  | [], _ => 0
  | a :: r, x => if cmpR a x < 0 then posSR r x + 1 else 0
def insAtR (l : List Rl) (x : Rl) (k : Nat) : List Rl := l.take k ++ x :: l.drop k
def insSR (l : List Rl) (x : Rl) : List Rl := if hasR l x then l else insAtR l x (posSR l x)
def insAllR : List Rl → List Rl → List Rl
  | acc, [] => acc
  | acc, x :: l => insAllR (insSR acc x) l
theorem pos_leR : ∀ (l : List Rl) (x : Rl), posSR l x ≤ l.length
  | [], _ => Nat.le_refl _
  | a :: r, x => by unfold posSR; have := pos_leR r x; split <;> simp <;> omega
theorem pos_ofR : ∀ (l : List Rl) (x : Rl) (k : Nat), k ≤ l.length → (∀ j (hj : j < l.length), j < k → cmpR l[j] x < 0) → (∀ hk : k < l.length, ¬ cmpR l[k] x < 0) → posSR l x = k
  | [], x, k, hk, _, _ => by simp at hk; subst hk; rfl
  | a :: r, x, 0, _, _, h => by
    have h' : ¬ cmpR a x < 0 := h (by simp)
    unfold posSR; rw [if_neg h']
  | a :: r, x, k + 1, hk, h1, h2 => by
    have h' : cmpR a x < 0 := h1 0 (by simp) (by omega)
    unfold posSR
    rw [if_pos h', pos_ofR r x k (by simpa using hk) (fun j hj hjk => h1 (j + 1) (by simp; omega) (by omega)) (fun hk' => h2 (by simp; omega))]
theorem insS_lenR (l : List Rl) (x : Rl) : (insSR l x).length ≤ l.length + 1 := by
  unfold insSR insAtR; split
  · omega
  · simp [List.length_take, List.length_drop]; have := pos_leR l x; omega
theorem insAll_stepR (acc l : List Rl) (k : Nat) (hk : k < l.length) : insAllR acc (l.drop k) = insAllR (insSR acc l[k]) (l.drop (k + 1)) := by
  rw [List.drop_eq_getElem_cons hk]; rfl
theorem insAll_endR (acc l : List Rl) (k : Nat) (hk : ¬ k < l.length) : insAllR acc (l.drop k) = acc := by
  rw [List.drop_eq_nil_of_le (by omega)]; rfl
theorem insS_hasR {l : List Rl} {x : Rl} (h : hasR l x = true) : insSR l x = l := if_pos h
theorem insS_notR {l : List Rl} {x : Rl} (h : hasR l x = false) : insSR l x = insAtR l x (posSR l x) := if_neg (by rw [h]; exact Bool.false_ne_true)

theorem flat_dropR (l : List Rl) (j : Nat) (hj : j ≤ l.length) (i : Nat) : ((l.drop j).flatMap Rl.cells)[i]? = (l.flatMap Rl.cells)[j * 2 + i]? := by
  have h := List.take_append_drop j l
  have e : (l.flatMap Rl.cells) = (l.take j).flatMap Rl.cells ++ (l.drop j).flatMap Rl.cells := by rw [← List.flatMap_append, h]
  have hl : ((l.take j).flatMap Rl.cells).length = j * 2 := by rw [flat_len _ 2 Rl.cells_len, List.length_take]; congr 1; omega
  rw [e, List.getElem?_append_right (by omega), hl]
  congr 1; omega
theorem flat_takeR (l : List Rl) (j : Nat) (i : Nat) (u : Value) (h : ((l.take j).flatMap Rl.cells)[i]? = some u) : (l.flatMap Rl.cells)[i]? = some u := by
  have e : (l.flatMap Rl.cells) = (l.take j).flatMap Rl.cells ++ (l.drop j).flatMap Rl.cells := by rw [← List.flatMap_append, List.take_append_drop]
  rw [e]
  have hi := (List.getElem?_eq_some_iff.1 h).1
  rw [List.getElem?_append_left hi]; exact h
theorem take_len9R (l : List Rl) (j : Nat) (hj : j ≤ l.length) : ((l.take j).flatMap Rl.cells).length = j * 2 := by
  rw [flat_len _ 2 Rl.cells_len, List.length_take]; congr 1; omega
theorem drop_len9R (l : List Rl) (j : Nat) : ((l.drop j).flatMap Rl.cells).length = (l.length - j) * 2 := by
  rw [flat_len _ 2 Rl.cells_len, List.length_drop]
theorem sl_appR {l : List Rl} {x : Rl} {j : Nat} (_ : j ≤ l.length) : (l.take j).flatMap Rl.cells ++ x.cells ++ (l.drop j).flatMap Rl.cells = (insAtR l x j).flatMap Rl.cells := by
  unfold insAtR; rw [List.flatMap_append, List.flatMap_cons, List.append_assoc]
theorem insAt_lenR {l : List Rl} {x : Rl} {j : Nat} (hj : j ≤ l.length) : (insAtR l x j).length = j + 1 + (l.length - j) := by
  unfold insAtR; rw [List.length_append, List.length_cons, List.length_take, List.length_drop]; omega
theorem app_endR {l : List Rl} {x : Rl} : l.flatMap Rl.cells ++ x.cells = (insAtR l x l.length).flatMap Rl.cells := by
  have h := sl_appR (l := l) (x := x) (j := l.length) (Nat.le_refl _)
  rw [List.take_of_length_le (Nat.le_refl _), List.drop_of_length_le (Nat.le_refl _)] at h
  rw [← h]; simp
theorem insAt_endR {l : List Rl} {x : Rl} : (insAtR l x l.length).length = l.length + 1 := by rw [insAt_lenR (Nat.le_refl _)]; omega
abbrev Two (w : World) (b o : Nat) (s : Rl) : Prop := w.cell? ⟨b, o, none⟩ = some (.string s.o) ∧ w.cell? ⟨b, o + 1, none⟩ = some (.string s.n)
theorem ref3_LessD (x y : Rl) (w : World) : Calls Tryz.prog 58 #[rv x, rv y] w fun e w' => e = .returned (.bool (decide (cmpR x y < 0))) ∧ Below w.heap.size w w' := ref3_Less x y w
theorem Two.below {w w' : World} {b o : Nat} {s : Rl} (h : Two w b o s) (hb : b < w.heap.size) (hw : Below w.heap.size w w') : Two w' b o s := by
  have k : ∀ i, w'.cell? ⟨b, i, none⟩ = w.cell? ⟨b, i, none⟩ := fun i => hw.cell (p := ⟨b, i, none⟩) hb
  obtain ⟨h0, h1⟩ := h
  exact ⟨(k _).trans h0, (k _).trans h1⟩
set_option maxRecDepth 100000 in
set_option maxHeartbeats 8000000 in
theorem ref5_Sort (va : Value) (l : List Rl) (w : World) (ha : SlA w 2 va l.length (l.flatMap Rl.cells)) (hl : l.length ≤ 1000) :
    Calls Tryz.prog 18 #[va] w fun e w' => ∃ v, e = .returned v ∧ Sl w' 2 v (insAllR [] l).length ((insAllR [] l).flatMap Rl.cells) ∧ Below w.heap.size w w' := by
  by_cases h0 : 0 < l.length
  · obtain ⟨b1, o1, c1, rfl, hc1, hm1, hb1, hx1⟩ := ha.pos h0
    have HX1 := Lib.hid hx1
    clear ha hx1
    go_enter Tryz.func18, Tryz.ntmps18
    go_wp2
    go_loopw [3, 10] (fun vo i wr => ∃ (k : Nat) (acc : List Rl), k ≤ l.length ∧ acc.length ≤ k ∧ i = .int .i64 k ∧ Below w.heap.size w wr ∧ Sl wr 2 vo acc.length (acc.flatMap Rl.cells) ∧ Hid (insAllR [] l = insAllR acc (l.drop k))) (fun _ i _ => l.length - (intOf i).toNat)
    case atStart => exact ⟨0, [], by omega, by simp, rfl, Below.refl _ _, Sl.nil _ _, Lib.hid (by simp)⟩
    case round =>
      obtain ⟨k, acc, hk, hak, rfl, hbw, hso, HI⟩ := hrel
      have HBW := Lib.hid hbw
      have HSO := Lib.hid hso
      have hz := hbw.size
      by_cases hlt : k < l.length
      · obtain ⟨p0, p1⟩ := rl_cell (w := wr) (fun j u hu => (hbw.cell (p := ⟨b1, o1 + j, none⟩) hb1).trans (HX1.out j u hu)) k hlt
        have hbr : b1 < wr.heap.size := Nat.lt_of_lt_of_le hb1 hz
        have HST := Lib.hid (HI.out.trans (insAll_stepR acc l k hlt))
        have hx : l[k] = ⟨l[k].o, l[k].n⟩ := rfl
        generalize l[k].o = x1 at *
        generalize l[k].n = x2 at *
        rw [hx] at HST
        clear hx hbw hso HI
        obtain ⟨ao, co, rfl⟩ := HSO.out.form
        go_wp2_with fail
        have HX := Lib.hid (Blk.new wr #[.string x1, .string x2] 78)
        have HS2 := Lib.hid (HSO.out.below ((Below.refl wr.heap.size wr).alloc (Nat.le_refl _) (.cells #[.string x1, .string x2] 78)))
        refine (ref5_Has _ acc ⟨x1, x2⟩ _ HS2.out.a).mono ?_
        rintro e w2 ⟨rfl, hb2⟩
        have HX2 := Lib.hid (HX.out.below hb2)
        have HS3 := Lib.hid (HS2.out.below hb2)
        have HB2 := Lib.hid ((HBW.out.alloc HBW.out.size _).trans (hb2.mono (Nat.le_trans HBW.out.size (by simp))))
        have hz2 := HB2.out.size
        clear hb2 HX HS2 HSO p0 p1
        cases hh : hasR acc ⟨x1, x2⟩ with
        | true =>
          have HE := Lib.hid (HST.out.trans (by rw [insS_hasR hh]))
          clear hh
          go_wp2_with fail
          exact ⟨⟨k + 1, acc, by omega, by omega, by go_num, HB2.out, HS3.out, HE⟩, by simp [intOf]; omega⟩
        | false =>
          have HE := Lib.hid (HST.out.trans (by rw [insS_notR hh]))
          clear hh HST
          obtain ⟨g, hg⟩ : ∃ g, wr.heap.size = g := ⟨_, rfl⟩
          rw [hg] at HX2 ⊢
          clear hg hbr HBW hz
          go_wp2_with fail
          go_loopw [6] (fun i wr => ∃ j : Nat, j ≤ acc.length ∧ i = .int .i64 j ∧ Below w2.heap.size w2 wr ∧ Hid (∀ m (hm : m < acc.length), m < j → cmpR acc[m] ⟨x1, x2⟩ < 0)) (fun i _ => acc.length - (intOf i).toNat)
          case atStart => exact ⟨0, by omega, rfl, Below.refl _ _, Lib.hid (fun _ _ h => absurd h (by omega))⟩
          case round =>
            obtain ⟨j, hj, rfl, hbj, HJ⟩ := hrel
            have HBJ := Lib.hid hbj
            by_cases hjl : j < acc.length
            · obtain ⟨b2, o2, c2, he2, hc2, hm2, hb2, hx2⟩ := HS3.out.pos (by omega)
              simp only [Value.slice.injEq, true_and] at he2
              obtain ⟨rfl, rfl⟩ := he2
              obtain ⟨q0, q1⟩ := rl_cell (w := wr) (fun m u hu => (hbj.cell (p := ⟨b2, o2 + m, none⟩) hb2).trans (hx2 m u hu)) j hjl
              have hbj2 : b2 < wr.heap.size := Nat.lt_of_lt_of_le hb2 hbj.size
              have HX3 := HX2.out.below hbj
              have cx := HX3.1
              have HBF := fun W => ref3_LessD acc[j] ⟨x1, x2⟩ W
              have d : decide ((j : Int) < (acc.length : Int)) = true := by (rw [decide_eq_true_iff]; omega)
              have HX4 : Blk wr.drew g #[.string x1, .string x2] := HX3
              have HQ4 : Two wr.drew b2 (o2 + j * 2) acc[j] := ⟨q0, q1⟩
              have HB4 : Below w2.heap.size w2 wr.drew := below_drew hbj
              clear hx2 hbj
              cases hlt' : decide (cmpR acc[j] ⟨x1, x2⟩ < 0) with
              | true =>
                have HN : Hid (∀ m (hm : m < acc.length), m < j + 1 → cmpR acc[m] ⟨x1, x2⟩ < 0) := Lib.hid (fun m hm hmj => by
                  by_cases hmj' : m < j
                  · exact HJ.out m hm hmj'
                  · obtain rfl : m = j := by omega
                    exact of_decide_eq_true hlt')
                rw [hlt'] at HBF
                clear hlt'
                go_wp2_with fail
                go_region_held3 (fun W => (∀ o, W.cell? ⟨g, o, none⟩ = (#[.string x1, .string x2] : Array Value)[o]?) ∧ Two W b2 (o2 + j * 2) acc[j])
                  (first | exact ⟨HX4.1, HQ4⟩ | go_keep)
                  ((go_at_call 58; refine (HBF _).mono ?_; rintro e wq ⟨rfl, hbq⟩; have HQ4 := HQ4.below hbj2 hbq; have HX4 := HX4.below hbq; have HB4 := HB4.trans (hbq.mono HB4.size)))
                go_wp2
                exact ⟨⟨j + 1, by omega, by go_num, HB4, HN⟩, by simp [intOf]; omega⟩
              | false =>
                have HLT := Lib.hid hlt'
                rw [hlt'] at HBF
                clear hlt'
                go_wp2_with fail
                go_region_held3 (fun W => (∀ o, W.cell? ⟨g, o, none⟩ = (#[.string x1, .string x2] : Array Value)[o]?) ∧ Two W b2 (o2 + j * 2) acc[j])
                  (first | exact ⟨HX4.1, HQ4⟩ | go_keep)
                  ((go_at_call 58; refine (HBF _).mono ?_; rintro e wq ⟨rfl, hbq⟩; have HQ4 := HQ4.below hbj2 hbq; have HX4 := HX4.below hbq; have HB4 := HB4.trans (hbq.mono HB4.size)))
                have hsb := (HS3.out.below HB4).pos (by omega)
                obtain ⟨b3, o3, c3, he3, hc3, hm3, hb3, hx3⟩ := hsb
                simp only [Value.slice.injEq, Option.some.injEq, Addr.mk.injEq, true_and, and_true] at he3
                obtain ⟨⟨rfl, rfl⟩, rfl⟩ := he3
                have HSB := Lib.hid hx3
                clear hx3
                go_wp2_with (at_builtin; refine halt_ ?_)
                unfold Halt_
                refine app_grow Tryz.underlying23 rl_info' rfl (by decide) (by decide) rfl _ _ rfl (ao := some ⟨wq.heap.size, 0, none⟩) (n := 0) (cap := 0) (olds := []) rfl (by simp) (by simp) (by simp) (b := b2) (off := o2 + j * 2) (m := acc.length - j) (c := co - j) (news := (acc.drop j).flatMap Rl.cells) rfl ?_ ?_ (rls_one _) (by omega) (by omega) ?_
                · rw [flat_len _ 2 Rl.cells_len, List.length_drop]
                · intro i u hu
                  rw [flat_dropR acc j hj] at hu
                  have := HSB.out _ _ hu
                  rw [← Nat.add_assoc] at this
                  exact (World.cell?_alloc_past _ _ _ hb3).trans this
                intro v5 w5 hown5 hb5
                have hwq : wq.heap.size < (wq.alloc (.cells #[] 78)).heap.size := by simp
                have HX5 : Blk w5 g #[.string x1, .string x2] := (HX4.alloc _).below hb5
                have hh5 : b2 < w5.heap.size := Nat.lt_of_lt_of_le hb3 (Nat.le_trans (Nat.le_of_lt hwq) hb5.size)
                have HS5 : ∀ i u, (acc.flatMap Rl.cells)[i]? = some u → w5.cell? ⟨b2, o2 + i, none⟩ = some u := fun i u hu => (hb5.cell (p := ⟨b2, o2 + i, none⟩) (Nat.lt_trans hb3 hwq)).trans ((World.cell?_alloc_past _ _ _ hb3).trans (HSB.out i u hu))
                have HB5 : Below w2.heap.size w2 w5 := (HB4.alloc HB4.size _).trans (hb5.mono (Nat.le_trans HB4.size (Nat.le_of_lt hwq)))
                simp only [Nat.zero_add, List.nil_append] at hown5
                obtain ⟨g5, c5, rfl, hg5a, hg5b⟩ := hown5.form (show 0 < acc.length - j by omega)
                have HO5 := Lib.hid hown5
                have HB5' := Lib.hid HB5
                obtain ⟨inf, hi, hz0, hz1, hz2⟩ := info_parts rl_info'
                have HINF := Lib.hid hi
                have HX6 : Blk w5.drew g #[.string x1, .string x2] := HX5
                have HSX := Lib.hid (fun i u (hu : (acc.flatMap Rl.cells)[i]? = some u) => show w5.drew.cell? ⟨b2, o2 + i, none⟩ = some u from HS5 i u hu)
                have HOD := Lib.hid (show w5.drew.ownsRow _ _ 2 _ _ _ from hown5)
                have c5x := HX5.1
                have hgb : g < (w5.drew.alloc (.cells #[.string x1, .string x2] 78)).heap.size := Nat.lt_of_lt_of_le HX6.2.2 (((Below.refl _ w5.drew).alloc (Nat.le_refl _) _).size)
                have hi1 : (0 : Int) ≤ (j : Int) := by omega
                have hi2 : (j : Int) ≤ (acc.length : Int) := by omega
                have hi3 : (j : Int) ≤ (co : Int) := by omega
                clear hown5 hb5 HS5 HB5 HX5 HX4 HB4 HQ4 hi HBF hwq hb3 hbq cx HX3 q0 q1 d
                go_wp2_with fail
                go_region_held3 (fun W => ∀ o, W.cell? ⟨g, o, none⟩ = (#[.string x1, .string x2] : Array Value)[o]?)
                  (first | exact HX6.1 | exact (HX6.alloc _).1 | exact HX7.1 | exact HX9.1 | go_keep)
                  (first
                    | (refine step_append_grows rfl _ _ 23 rfl 78 inf _ 2 32 Tryz.underlying23 HINF.out hz0 hz1 hz2 rfl (Nat.le_of_ble_eq_true rfl) (some ⟨b2, o2, none⟩) j j ((acc.take j).flatMap Rl.cells) rfl ?_ (take_len9R acc j hj) ?_ ⟨w5.heap.size, 0, none⟩ 1 1 (Rl.cells ⟨x1, x2⟩) rfl rfl ?_ (rl1 x1 x2) (Nat.lt_succ_self _) ?_ ?_ ?_; (intro h; cases h); (intro b hb i u hu; cases hb; rw [addr_add]; exact (World.cell?_alloc_past _ _ _ hh5).trans (HSX.out i u (flat_takeR acc j i u hu))); exact cells_new _ _ _ _ rfl; (simp only [maxLen]; omega); omega; intro v7 w7 hown7 hg7; have hb7 := below_of_none hg7; have HX7 := (HX6.alloc _).below hb7; have HO7 := own_below (own_below HOD.out ((Below.refl _ _).alloc (Nat.le_refl _) _)) hb7)
                    | (refine step_append_lies _ rfl _ _ 23 rfl _ 78 inf _ 2 32 Tryz.underlying23 HINF.out hz0 hz1 hz2 rfl (Nat.le_of_ble_eq_true rfl) v7 (j + 1) _ rfl hown7 ⟨g5, 0, none⟩ (acc.length - j) c5 ((acc.drop j).flatMap Rl.cells) rfl (drop_len9R acc j) (HO7.cells (g := g5) rfl) (rls_one _) ?_ ?_ ?_ hb7.size _ rfl ?_; omega; (simp only [maxLen]; omega); omega; intro g9 c9 w9 hown9 hg9 hor9 hlt9; have HX9 := HX7.grown hg9 (own_gt_ne hown7 hgb)))
                have HBw5 := HB2.out.trans (HB5'.out.mono HB2.out.size)
                have HBw6 := (below_drew HBw5).alloc (B := w.heap.size) HBw5.size (.cells #[.string x1, .string x2] 78)
                have HBw7 := HBw6.trans (hb7.mono HBw6.size)
                have HB9 := Lib.hid (below_own HBw7 hown7 hg9 HBw7.size HBw6.size)
                have HSL9 := Lib.hid (Sl.of_own hown9)
                have HPS := Lib.hid (pos_ofR acc ⟨x1, x2⟩ j hj HJ.out (fun _ => of_decide_eq_false HLT.out))
                clear hown9 hg9 hown7 hg7 hb7 HX9 HX7 HO7 HBw5 HBw6 HBw7
                go_wp2
                exact ⟨⟨k + 1, insAtR acc ⟨x1, x2⟩ j, by omega, by rw [insAt_lenR hj]; omega, by go_num, HB9.out, by rw [insAt_lenR hj, ← sl_appR hj]; exact HSL9.out, Lib.hid (by rw [HE.out, HPS.out])⟩, by simp [intOf]; omega⟩
            · obtain rfl : j = acc.length := by omega
              have HPS := Lib.hid (pos_ofR acc ⟨x1, x2⟩ acc.length (Nat.le_refl _) HJ.out (fun h => absurd h hjl))
              obtain ⟨inf, hi, hz0, hz1, hz2'⟩ := info_parts rl_info'
              have HINF := Lib.hid hi
              have HX3 := HX2.out.below hbj
              have cx := HX3.1
              have d : decide ((acc.length : Int) < (acc.length : Int)) = false := by (rw [decide_eq_false_iff_not]; omega)
              clear hi hjl hj
              rcases HS3.out.2.2 with ⟨hv, hn0⟩ | ⟨b2, o2, c2, hv, hc2, hm2, hb2, hx2⟩
              · skip
                have hacc : acc = [] := List.eq_nil_of_length_eq_zero hn0
                simp only [Value.slice.injEq] at hv
                obtain ⟨rfl, -, rfl⟩ := hv
                simp only [hn0]
                clear d
                clear hbj
                go_wp2_with fail
                go_big_quiet (fail)
                go_wp2_with (at_builtin; refine halt_ ?_)
                unfold Halt_
                refine app_zero _ rfl _ _ 23 rfl 78 inf Tryz.underlying23 HINF.out (some ⟨wr.heap.size, 0, none⟩) 0 0 (Nat.le_refl _) rfl _ _ rfl ?_
                obtain ⟨w5, hw5⟩ : ∃ w5, w5 = (wr.drewN nq).alloc (.cells #[] 78) := ⟨_, rfl⟩
                have hb5 : Below wr.heap.size wr w5 := by rw [hw5]; exact (below_drewN (Below.refl _ _) _).alloc (Nat.le_refl _) _
                have hh0 : wr.heap.size ≤ w5.heap.size := hb5.size
                rw [← hw5]
                have HX5 : Blk w5 g #[.string x1, .string x2] := HX3.below hb5
                have HB5' := Lib.hid (HBJ.out.trans (hb5.mono HBJ.out.size))
                have HX6 : Blk w5.drew g #[.string x1, .string x2] := HX5
                have c5x := HX5.1
                have hgb : g < (w5.drew.alloc (.cells #[.string x1, .string x2] 78)).heap.size := Nat.lt_of_lt_of_le HX6.2.2 (((Below.refl _ w5.drew).alloc (Nat.le_refl _) _).size)
                clear hw5 hb5 HX5 HX3 cx
                go_wp2_with fail
                go_region_held3 (fun W => ∀ o, W.cell? ⟨g, o, none⟩ = (#[.string x1, .string x2] : Array Value)[o]?)
                  (first | exact HX6.1 | exact (HX6.alloc _).1 | exact HX7.1 | go_keep)
                  (first
                    | (refine step_append_grows rfl _ _ 23 rfl 78 inf _ 2 32 Tryz.underlying23 HINF.out hz0 hz1 hz2' rfl (Nat.le_of_ble_eq_true rfl) none 0 0 [] rfl ?_ rfl ?_ ⟨w5.heap.size, 0, none⟩ 1 1 (Rl.cells ⟨x1, x2⟩) rfl rfl ?_ (rl1 x1 x2) (Nat.lt_succ_self _) ?_ ?_ ?_; (intro _; exact ⟨rfl, rfl⟩); (intro b hb; cases hb); exact cells_new _ _ _ _ rfl; (simp only [maxLen]; omega); omega; intro v7 w7 hown7 hg7; obtain ⟨a7, c7, rfl, hc7⟩ := own_form2 hown7; have hb7 := below_of_none hg7; have HX7 := (HX6.alloc _).below hb7)
                    | (refine step_zero _ rfl _ _ 23 rfl 78 inf Tryz.underlying23 HINF.out _ _ c7 hc7 rfl _ _ rfl ?_))
                have HBw5 := HB2.out.trans (HB5'.out.mono HB2.out.size)
                have HBw6 := (below_drew HBw5).alloc (B := w.heap.size) HBw5.size (.cells #[.string x1, .string x2] 78)
                have HB9 := Lib.hid (HBw6.trans (hb7.mono HBw6.size))
                have HSL9 := Lib.hid (Sl.of_own hown7)
                clear hg7 hb7 hown7 HX7 HBw5 HBw6
                go_wp2
                exact ⟨⟨k + 1, insAtR acc ⟨x1, x2⟩ acc.length, by omega, by rw [insAt_endR]; omega, by go_num, HB9.out, by rw [insAt_endR, ← app_endR, hacc]; exact HSL9.out, Lib.hid (by rw [HE.out, HPS.out])⟩, by simp [intOf]; omega⟩
              · simp only [Value.slice.injEq, true_and] at hv
                obtain ⟨rfl, rfl⟩ := hv
                by_cases hco : co = acc.length
                · skip
                  subst hco
                  clear hbj
                  go_wp2_with fail
                  go_big_quiet (fail)
                  go_wp2_with (at_builtin; refine halt_ ?_)
                  unfold Halt_
                  refine app_zero _ rfl _ _ 23 rfl 78 inf Tryz.underlying23 HINF.out (some ⟨wr.heap.size, 0, none⟩) 0 0 (Nat.le_refl _) rfl _ _ rfl ?_
                  obtain ⟨w5, hw5⟩ : ∃ w5, w5 = (wr.drewN nq).alloc (.cells #[] 78) := ⟨_, rfl⟩
                  have hb5 : Below wr.heap.size wr w5 := by rw [hw5]; exact (below_drewN (Below.refl _ _) _).alloc (Nat.le_refl _) _
                  have hh0 : wr.heap.size ≤ w5.heap.size := hb5.size
                  rw [← hw5]
                  have HX5 : Blk w5 g #[.string x1, .string x2] := HX3.below hb5
                  have HB5' := Lib.hid (HBJ.out.trans (hb5.mono HBJ.out.size))
                  have hh5 : b2 < w5.heap.size := Nat.lt_of_lt_of_le hb2 HB5'.out.size
                  have HSX := Lib.hid (fun i u (hu : (acc.flatMap Rl.cells)[i]? = some u) => show w5.drew.cell? ⟨b2, o2 + i, none⟩ = some u from (HB5'.out.cell (p := ⟨b2, o2 + i, none⟩) hb2).trans (hx2 i u hu))
                  have hi1 : (0 : Int) ≤ (acc.length : Int) := by omega
                  have hi3 : (acc.length : Int) ≤ (acc.length : Int) := by omega
                  have HX6 : Blk w5.drew g #[.string x1, .string x2] := HX5
                  have c5x := HX5.1
                  have hgb : g < (w5.drew.alloc (.cells #[.string x1, .string x2] 78)).heap.size := Nat.lt_of_lt_of_le HX6.2.2 (((Below.refl _ w5.drew).alloc (Nat.le_refl _) _).size)
                  clear hw5 hb5 HX5 HX3 cx hx2
                  go_wp2_with fail
                  go_region_held3 (fun W => ∀ o, W.cell? ⟨g, o, none⟩ = (#[.string x1, .string x2] : Array Value)[o]?)
                    (first | exact HX6.1 | exact (HX6.alloc _).1 | exact HX7.1 | go_keep)
                    (first
                      | (refine step_append_grows rfl _ _ 23 rfl 78 inf _ 2 32 Tryz.underlying23 HINF.out hz0 hz1 hz2' rfl (Nat.le_of_ble_eq_true rfl) (some ⟨b2, o2, none⟩) acc.length acc.length (acc.flatMap Rl.cells) rfl ?_ (flat_len _ 2 Rl.cells_len acc) ?_ ⟨w5.heap.size, 0, none⟩ 1 1 (Rl.cells ⟨x1, x2⟩) rfl rfl ?_ (rl1 x1 x2) (Nat.lt_succ_self _) ?_ ?_ ?_; (intro h; cases h); (intro b hb i u hu; cases hb; rw [addr_add]; exact (World.cell?_alloc_past _ _ _ hh5).trans (HSX.out i u hu)); exact cells_new _ _ _ _ rfl; (simp only [maxLen]; omega); omega; intro v7 w7 hown7 hg7; obtain ⟨a7, c7, rfl, hc7⟩ := own_form2 hown7; have hb7 := below_of_none hg7; have HX7 := (HX6.alloc _).below hb7)
                      | (refine step_zero _ rfl _ _ 23 rfl 78 inf Tryz.underlying23 HINF.out _ _ c7 hc7 rfl _ _ rfl ?_))
                  have HBw5 := HB2.out.trans (HB5'.out.mono HB2.out.size)
                  have HBw6 := (below_drew HBw5).alloc (B := w.heap.size) HBw5.size (.cells #[.string x1, .string x2] 78)
                  have HB9 := Lib.hid (HBw6.trans (hb7.mono HBw6.size))
                  have HSL9 := Lib.hid (Sl.of_own hown7)
                  clear hg7 hb7 hown7 HX7 HBw5 HBw6
                  go_wp2
                  exact ⟨⟨k + 1, insAtR acc ⟨x1, x2⟩ acc.length, by omega, by rw [insAt_endR]; omega, by go_num, HB9.out, by rw [insAt_endR, ← app_endR]; exact HSL9.out, Lib.hid (by rw [HE.out, HPS.out])⟩, by simp [intOf]; omega⟩
                · skip
                  have hco2 : acc.length < co := by omega
                  clear hbj
                  go_wp2_with fail
                  go_big_quiet (fail)
                  go_wp2_with (at_builtin; refine halt_ ?_)
                  unfold Halt_
                  refine app_zero _ rfl _ _ 23 rfl 78 inf Tryz.underlying23 HINF.out (some ⟨wr.heap.size, 0, none⟩) 0 0 (Nat.le_refl _) rfl _ _ rfl ?_
                  obtain ⟨w5, hw5⟩ : ∃ w5, w5 = (wr.drewN nq).alloc (.cells #[] 78) := ⟨_, rfl⟩
                  have hb5 : Below wr.heap.size wr w5 := by rw [hw5]; exact (below_drewN (Below.refl _ _) _).alloc (Nat.le_refl _) _
                  have hh0 : wr.heap.size ≤ w5.heap.size := hb5.size
                  rw [← hw5]
                  have HX5 : Blk w5 g #[.string x1, .string x2] := HX3.below hb5
                  have HB5' := Lib.hid (HBJ.out.trans (hb5.mono HBJ.out.size))
                  have hh5 : b2 < w5.heap.size := Nat.lt_of_lt_of_le hb2 HB5'.out.size
                  have HSX := Lib.hid (fun i u (hu : (acc.flatMap Rl.cells)[i]? = some u) => show w5.drew.cell? ⟨b2, o2 + i, none⟩ = some u from (HB5'.out.cell (p := ⟨b2, o2 + i, none⟩) hb2).trans (hx2 i u hu))
                  have hi1 : (0 : Int) ≤ (acc.length : Int) := by omega
                  have hi3 : (acc.length : Int) ≤ (co : Int) := by omega
                  have HX6 : Blk w5.drew g #[.string x1, .string x2] := HX5
                  have c5x := HX5.1
                  have hgb : g < (w5.drew.alloc (.cells #[.string x1, .string x2] 78)).heap.size := Nat.lt_of_lt_of_le HX6.2.2 (((Below.refl _ w5.drew).alloc (Nat.le_refl _) _).size)
                  clear hw5 hb5 HX5 HX3 cx hx2
                  go_wp2_with fail
                  go_region_held3 (fun W => ∀ o, W.cell? ⟨g, o, none⟩ = (#[.string x1, .string x2] : Array Value)[o]?)
                    (first | exact HX6.1 | exact (HX6.alloc _).1 | exact HX7.1 | go_keep)
                    (first
                      | (refine step_append_grows rfl _ _ 23 rfl 78 inf _ 2 32 Tryz.underlying23 HINF.out hz0 hz1 hz2' rfl (Nat.le_of_ble_eq_true rfl) (some ⟨b2, o2, none⟩) acc.length acc.length (acc.flatMap Rl.cells) rfl ?_ (flat_len _ 2 Rl.cells_len acc) ?_ ⟨w5.heap.size, 0, none⟩ 1 1 (Rl.cells ⟨x1, x2⟩) rfl rfl ?_ (rl1 x1 x2) (Nat.lt_succ_self _) ?_ ?_ ?_; (intro h; cases h); (intro b hb i u hu; cases hb; rw [addr_add]; exact (World.cell?_alloc_past _ _ _ hh5).trans (HSX.out i u hu)); exact cells_new _ _ _ _ rfl; (simp only [maxLen]; omega); omega; intro v7 w7 hown7 hg7; obtain ⟨a7, c7, rfl, hc7⟩ := own_form2 hown7; have hb7 := below_of_none hg7; have HX7 := (HX6.alloc _).below hb7)
                      | (refine step_zero _ rfl _ _ 23 rfl 78 inf Tryz.underlying23 HINF.out _ _ c7 hc7 rfl _ _ rfl ?_))
                  have HBw5 := HB2.out.trans (HB5'.out.mono HB2.out.size)
                  have HBw6 := (below_drew HBw5).alloc (B := w.heap.size) HBw5.size (.cells #[.string x1, .string x2] 78)
                  have HB9 := Lib.hid (HBw6.trans (hb7.mono HBw6.size))
                  have HSL9 := Lib.hid (Sl.of_own hown7)
                  clear hg7 hb7 hown7 HX7 HBw5 HBw6
                  go_wp2
                  exact ⟨⟨k + 1, insAtR acc ⟨x1, x2⟩ acc.length, by omega, by rw [insAt_endR]; omega, by go_num, HB9.out, by rw [insAt_endR, ← app_endR]; exact HSL9.out, Lib.hid (by rw [HE.out, HPS.out])⟩, by simp [intOf]; omega⟩
      · have R := Lib.hid (HI.out.trans (insAll_endR acc l k hlt))
        obtain ⟨ao, co, rfl⟩ := hso.form
        clear hbw hso
        go_wp2
        go_ret
        exact ⟨_, rfl, by rw [R.out]; exact HSO.out, HBW.out⟩
  · obtain ⟨a1, c1, rfl⟩ := ha.form
    obtain rfl : l = [] := List.eq_nil_of_length_eq_zero (by omega)
    clear ha h0 hl
    go_enter Tryz.func18, Tryz.ntmps18
    go_wp2
    go_loopw [3, 10] (fun vo i wr => vo = .slice none 0 0 ∧ i = .int .i64 0 ∧ wr = w) (fun _ _ _ => 0)
    case atStart => exact ⟨rfl, rfl, rfl⟩
    case round =>
      obtain ⟨rfl, rfl, rfl⟩ := hrel
      go_wp2
      go_ret
      exact ⟨_, rfl, Sl.nil _ _, Below.refl _ _⟩

end Go.Proofs.YtomhekohcadijaaGreatDoor
namespace Go.Proofs.YtomhekohcadijaaGreatDoor
open Go.RowKit Go.Shelf

theorem same_lenR {l m : List Rl} (h : ¬ l.length = m.length) : decide (l = m) = false := decide_eq_false (fun e => h (by rw [e]))
theorem take_moreR {l m : List Rl} {k : Nat} (h : l.take k = m.take k) (hl : k < l.length) (hm : k < m.length) (e : l[k] = m[k]) : l.take (k + 1) = m.take (k + 1) := by
  rw [List.take_succ_eq_append_getElem hl, List.take_succ_eq_append_getElem hm, h, e]
theorem same_endR {l m : List Rl} {k : Nat} (h : l.take k = m.take k) (hl : ¬ k < l.length) (hm : ¬ k < m.length) : decide (l = m) = true := by
  rw [List.take_of_length_le (by omega), List.take_of_length_le (by omega)] at h
  exact decide_eq_true h
theorem same_noR {l m : List Rl} {k : Nat} (hl : k < l.length) (hm : k < m.length) (e : ¬ l[k] = m[k]) : decide (l = m) = false := decide_eq_false (fun h => e (by subst h; rfl))

set_option maxRecDepth 100000 in
set_option maxHeartbeats 2000000 in
theorem ref3_SameRolesD (va vb : Value) (l m : List Rl) (w : World) (ha : SlA w 2 va l.length (l.flatMap Rl.cells)) (hb : SlA w 2 vb m.length (m.flatMap Rl.cells)) :
    Calls Tryz.prog 17 #[va, vb] w fun e w' => e = .returned (.bool (decide (l = m))) ∧ ∃ n, w' = w.drewN n := by
  have hmax := ha.max
  have hmax2 := hb.max
  by_cases hl : l.length = m.length
  case neg =>
    have R := Lib.hid (same_lenR hl)
    have d : ((l.length : Int) != (m.length : Int)) = true := by rw [bne_iff_ne]; omega
    obtain ⟨a1, c1, rfl⟩ := ha.form
    obtain ⟨a2, c2, rfl⟩ := hb.form
    clear ha hb hl
    go_enter Tryz.func17, Tryz.ntmps17
    go_wp2
    go_ret
    exact ⟨ret_b R.out.symm, 0, rfl⟩
  have hNe := role_neq
  have hne : ((l.length : Int) != (m.length : Int)) = false := by rw [hl]; simp
  by_cases h0 : 0 < l.length
  · obtain ⟨b1, o1, c1, rfl, hc1, hm1, _, hx1⟩ := ha.pos h0
    obtain ⟨b2, o2, c2, rfl, hc2, hm2, _, hx2⟩ := hb.pos (by omega)
    have HX1 := Lib.hid hx1
    have HX2 := Lib.hid hx2
    have HL := Lib.hid hl
    clear ha hb hx1 hx2 hl
    go_enter Tryz.func17, Tryz.ntmps17
    go_wp2
    go_loopw [13] (fun i wr => ∃ k n : Nat, k ≤ l.length ∧ i = .int .i64 k ∧ wr = w.drewN n ∧ Hid (l.take k = m.take k)) (fun i _ => l.length - (intOf i).toNat)
    case atStart => exact ⟨0, 0, by omega, rfl, rfl, Lib.hid (by simp)⟩
    case round =>
      obtain ⟨k, n, hk, rfl, rfl, HT⟩ := hrel
      by_cases hlt : k < l.length
      · have hlt2 : k < m.length := by have := HL.out; omega
        obtain ⟨p0, p1⟩ := rl_cell HX1.out k hlt
        obtain ⟨q0, q1⟩ := rl_cell HX2.out k hlt2
        by_cases he : l[k] = m[k]
        · have HN := Lib.hid (take_moreR HT.out hlt hlt2 he)
          have d1 : (!eqRl ⟨l[k].o, l[k].n⟩ ⟨m[k].o, m[k].n⟩) = false := by
            have := congrArg (!·) (decide_eq_true he); exact this
          clear he
          go_wp2_with fail
          go_big_quiet (fail)
          go_wp2
          exact ⟨⟨k + 1, n + nq, by omega, by go_num, rfl, HN⟩, by simp [intOf]; omega⟩
        · have R := Lib.hid (same_noR hlt hlt2 he)
          have d1 : (!eqRl ⟨l[k].o, l[k].n⟩ ⟨m[k].o, m[k].n⟩) = true := by
            have := congrArg (!·) (decide_eq_false he); exact this
          clear he
          go_wp2_with fail
          go_big_quiet (fail)
          go_wp2
          go_ret
          exact ⟨ret_b R.out.symm, n + nq, by simp [World.drewN, Nat.add_assoc]⟩
      · have R := Lib.hid (same_endR HT.out hlt (by have := HL.out; omega))
        go_wp2
        go_ret
        exact ⟨ret_b R.out.symm, n, rfl⟩
  · have R := Lib.hid (same_endR (l := l) (m := m) (k := 0) (by simp) h0 (by omega))
    obtain ⟨a1, c1, rfl⟩ := ha.form
    obtain ⟨a2, c2, rfl⟩ := hb.form
    have d0 : l.length = 0 := by omega
    have d02 : m.length = 0 := by omega
    clear ha hb h0 hmax hl hmax2
    go_enter Tryz.func17, Tryz.ntmps17
    go_wp2
    go_loopw [13] (fun i wr => i = .int .i64 0 ∧ wr = w) (fun _ _ => 0)
    case atStart => exact ⟨rfl, rfl⟩
    case round =>
      obtain ⟨rfl, rfl⟩ := hrel
      go_wp2
      go_ret
      exact ⟨ret_b R.out.symm, 0, rfl⟩

theorem ref3_SameRolesE (va vb : Value) (l m : List Rl) (w : World) (ha : SlA w 2 va l.length (l.flatMap Rl.cells)) (hb : SlA w 2 vb m.length (m.flatMap Rl.cells)) :
    Calls Tryz.prog 17 #[va, vb] w fun e w' => e = .returned (.bool (decide (l = m))) ∧ Below w.heap.size w w' :=
  (ref3_SameRolesD va vb l m w ha hb).mono fun e w' ⟨he, n, hn⟩ => ⟨he, by rw [hn]; exact below_of_drewN n⟩
end Go.Proofs.YtomhekohcadijaaGreatDoor
namespace Go.Proofs.YtomhekohcadijaaGreatDoor
open Go.RowKit Go.Shelf

theorem eqRl_selfR (x : Rl) : eqRl x x = true := decide_eq_true rfl
theorem hasR_mem (l : List Rl) (x : Rl) : hasR l x = true ↔ x ∈ l := by
  unfold hasR; rw [List.any_eq_true]
  constructor
  · rintro ⟨y, hy, e⟩; rw [← of_decide_eq_true e]; exact hy
  · intro h; exact ⟨x, h, eqRl_selfR x⟩
theorem lt_trans'R {x y z : Rl} (h : cmpR x y < 0) (h' : cmpR y z < 0) : cmpR x z < 0 := by
  obtain ⟨a, b⟩ := wcmp_rl.le x y z (by omega) (by omega)
  have : ¬ cmpR x z = 0 := fun e => by have := (b e).1; omega
  omega
theorem lt_irrefl'R (x : Rl) : ¬ cmpR x x < 0 := by have := (cmpR_zero x x).2 rfl; omega
def AscR (l : List Rl) : Prop := l.Pairwise fun x y => cmpR x y < 0
theorem asc_uniqueR : ∀ (l m : List Rl), AscR l → AscR m → (∀ x, x ∈ l ↔ x ∈ m) → l = m
  | [], [], _, _, _ => rfl
  | [], y :: m, _, _, h => absurd ((h y).2 (by simp)) (by simp)
  | x :: l, [], _, _, h => absurd ((h x).1 (by simp)) (by simp)
  | x :: l, y :: m, hl, hm, h => by
    have hl' := List.pairwise_cons.1 hl
    have hm' := List.pairwise_cons.1 hm
    have e : x = y := by
      rcases List.mem_cons.1 ((h x).1 (by simp)) with e | e
      · exact e
      · rcases List.mem_cons.1 ((h y).2 (by simp)) with e' | e'
        · exact e'.symm
        · exact absurd (lt_trans'R (hm'.1 x e) (hl'.1 y e')) (lt_irrefl'R y)
    subst e
    refine congrArg (x :: ·) (asc_uniqueR l m hl'.2 hm'.2 fun z => ?_)
    constructor
    · intro hz
      rcases List.mem_cons.1 ((h z).1 (by simp [hz])) with e | e
      · subst e; exact absurd (hl'.1 z hz) (lt_irrefl'R z)
      · exact e
    · intro hz
      rcases List.mem_cons.1 ((h z).2 (by simp [hz])) with e | e
      · subst e; exact absurd (hm'.1 z hz) (lt_irrefl'R z)
      · exact e
def dedupR : List Rl → List Rl
  | [] => []
  | [x] => [x]
  | x :: y :: r => if x = y then dedupR (y :: r) else x :: dedupR (y :: r)
theorem dedup_memR : ∀ (l : List Rl) (z : Rl), z ∈ dedupR l ↔ z ∈ l
  | [], z => by simp [dedupR]
  | [x], z => by simp [dedupR]
  | x :: y :: r, z => by
    have ih := dedup_memR (y :: r) z
    unfold dedupR
    by_cases e : x = y
    · rw [if_pos e, ih, e]; simp
    · rw [if_neg e, List.mem_cons, ih, List.mem_cons (b := x)]
theorem dedup_ascR : ∀ (l : List Rl), (l.Pairwise fun x y => cmpR x y ≤ 0) → AscR (dedupR l)
  | [], _ => List.Pairwise.nil
  | [x], _ => by simp [dedupR, AscR]
  | x :: y :: r, h => by
    have h' := List.pairwise_cons.1 h
    have ih := dedup_ascR (y :: r) h'.2
    unfold dedupR
    by_cases e : x = y
    · rw [if_pos e]; exact ih
    · rw [if_neg e]
      refine List.pairwise_cons.2 ⟨fun z hz => ?_, ih⟩
      have hxy : cmpR x y < 0 := by
        have := h'.1 y (by simp)
        have h0 : ¬ cmpR x y = 0 := fun e' => e ((cmpR_zero x y).1 e')
        omega
      have hz' := (dedup_memR (y :: r) z).1 hz
      rcases List.mem_cons.1 hz' with rfl | hz'
      · exact hxy
      · have hyz := (List.pairwise_cons.1 h'.2).1 z hz'
        obtain ⟨a, b⟩ := wcmp_rl.le x y z (by omega) hyz
        have : ¬ cmpR x z = 0 := fun e => by have := (b e).1; omega
        omega
theorem insS_memR (l : List Rl) (x z : Rl) : z ∈ insSR l x ↔ z ∈ l ∨ z = x := by
  unfold insSR
  by_cases h : hasR l x = true
  · rw [if_pos h]
    exact ⟨.inl, fun h' => h'.elim id (fun e => e ▸ (hasR_mem l x).1 h)⟩
  · rw [if_neg h]
    unfold insAtR
    rw [List.mem_append, List.mem_cons]
    have := List.take_append_drop (posSR l x) l
    constructor
    · rintro (h | h | h)
      · exact .inl (List.mem_of_mem_take h)
      · exact .inr h
      · exact .inl (List.mem_of_mem_drop h)
    · rintro (h | h)
      · rw [← this] at h
        rcases List.mem_append.1 h with h | h
        · exact .inl h
        · exact .inr (.inr h)
      · exact .inr (.inl h)
theorem pos_takeR : ∀ (l : List Rl) (x z : Rl), z ∈ l.take (posSR l x) → cmpR z x < 0
  | [], _, _, h => by simp at h
  | a :: r, x, z, h => by
    unfold posSR at h
    by_cases ha : cmpR a x < 0
    · rw [if_pos ha] at h
      rcases List.mem_cons.1 (by simpa using h) with rfl | h
      · exact ha
      · exact pos_takeR r x z h
    · rw [if_neg ha] at h; simp at h
theorem pos_dropR : ∀ (l : List Rl) (x z : Rl), AscR l → z ∈ l.drop (posSR l x) → ¬ cmpR z x < 0
  | [], _, _, _, h => by simp at h
  | a :: r, x, z, hl, h => by
    unfold posSR at h
    by_cases ha : cmpR a x < 0
    · rw [if_pos ha] at h
      exact pos_dropR r x z (List.pairwise_cons.1 hl).2 (by simpa using h)
    · rw [if_neg ha] at h
      rcases List.mem_cons.1 (by simpa using h) with rfl | h
      · exact ha
      · have := (List.pairwise_cons.1 hl).1 z h
        intro hz; exact ha (lt_trans'R this hz)
theorem insS_ascR {l : List Rl} (h : AscR l) (x : Rl) : AscR (insSR l x) := by
  unfold insSR
  by_cases hx : hasR l x = true
  · rw [if_pos hx]; exact h
  · rw [if_neg hx]
    have hn : ¬ x ∈ l := fun h' => hx ((hasR_mem l x).2 h')
    have h1 : AscR (l.take (posSR l x)) := h.sublist (List.take_sublist _ _)
    have h2 : AscR (l.drop (posSR l x)) := h.sublist (List.drop_sublist _ _)
    have h3 : ∀ a ∈ l.take (posSR l x), ∀ b ∈ l.drop (posSR l x), cmpR a b < 0 := by
      have := h
      rw [AscR, ← List.take_append_drop (posSR l x) l, List.pairwise_append] at this
      exact this.2.2
    unfold insAtR AscR
    rw [List.pairwise_append, List.pairwise_cons]
    refine ⟨h1, ⟨fun b hb => ?_, h2⟩, fun a ha b hb => ?_⟩
    · have h4 := pos_dropR l x b h hb
      have h5 : ¬ cmpR b x = 0 := fun e => hn ((cmpR_zero b x).1 e ▸ List.mem_of_mem_drop hb)
      have := wcmp_rl.neg b x
      omega
    · rcases List.mem_cons.1 hb with rfl | hb
      · exact pos_takeR l b a ha
      · exact h3 a ha b hb
theorem insAll_ascR : ∀ (l acc : List Rl), AscR acc → AscR (insAllR acc l)
  | [], _, h => h
  | x :: l, _, h => insAll_ascR l _ (insS_ascR h x)
theorem insAll_memR : ∀ (l acc : List Rl) (z : Rl), z ∈ insAllR acc l ↔ z ∈ acc ∨ z ∈ l
  | [], acc, z => by simp [insAllR]
  | x :: l, acc, z => by
    unfold insAllR
    rw [insAll_memR l, insS_memR, List.mem_cons, or_assoc]
def ordR (l : List Rl) : List Rl := insAllR [] l
theorem ord_ascR (l : List Rl) : AscR (ordR l) := insAll_ascR l [] List.Pairwise.nil
theorem ord_memR (l : List Rl) (x : Rl) : x ∈ ordR l ↔ x ∈ l := by unfold ordR; rw [insAll_memR]; simp
theorem asc_ordR {l : List Rl} (h : AscR l) : ordR l = l := asc_uniqueR _ _ (ord_ascR _) h (ord_memR l)
theorem insAll_lenR : ∀ (l acc : List Rl), (insAllR acc l).length ≤ acc.length + l.length
  | [], acc => Nat.le_refl _
  | x :: r, acc => by
    have h1 := insAll_lenR r (insSR acc x)
    have h2 := insS_lenR acc x
    show (insAllR (insSR acc x) r).length ≤ acc.length + (r.length + 1)
    omega
theorem ord_lenR (l : List Rl) : (ordR l).length ≤ l.length := by have := insAll_lenR l []; simpa [ordR] using this
theorem filter_takeR {l : List Rl} {p : Rl → Bool} {k : Nat} (h : k < l.length) : (l.take (k + 1)).filter p = (l.take k).filter p ++ (if p l[k] = true then [l[k]] else []) := by
  rw [List.take_succ_eq_append_getElem h, List.filter_append]
  cases hp : p l[k] <;> simp [hp]
theorem filter_yesR {l : List Rl} {p : Rl → Bool} {k : Nat} (h : k < l.length) (hp : p l[k] = true) : (l.take (k + 1)).filter p = (l.take k).filter p ++ [l[k]] := by
  rw [filter_takeR h, if_pos hp]
theorem filter_noR {l : List Rl} {p : Rl → Bool} {k : Nat} (h : k < l.length) (hp : p l[k] = false) : (l.take (k + 1)).filter p = (l.take k).filter p := by
  rw [filter_takeR h, if_neg (by rw [hp]; exact Bool.false_ne_true), List.append_nil]
end Go.Proofs.YtomhekohcadijaaGreatDoor
namespace Go.Proofs.YtomhekohcadijaaGreatDoor
open Go.RowKit Go.Shelf

theorem frozen_sets {b i : Nat} : ∀ (vs : List Value) (o : Nat) (w' : World), w'.frozen? ⟨b, i, none⟩ = false → (w'.setCells b o vs).frozen? ⟨b, i, none⟩ = false
  | [], _, _, h => h
  | v :: vs, o, w', h => by
    rw [World.setCells]
    exact frozen_sets vs (o + 1) _ (by simpa using h)

theorem dedup_snocR : ∀ (p : List Rl) (y z : Rl), dedupR (p ++ [y, z]) = if y = z then dedupR (p ++ [y]) else dedupR (p ++ [y]) ++ [z]
  | [], y, z => by
    show dedupR [y, z] = if y = z then dedupR [y] else dedupR [y] ++ [z]
    unfold dedupR
    by_cases h : y = z
    · rw [if_pos h, if_pos h, h]; rfl
    · rw [if_neg h, if_neg h]; rfl
  | [x], y, z => by
    have ih := dedup_snocR [] y z
    simp only [List.nil_append] at ih
    show dedupR (x :: y :: [z]) = if y = z then dedupR (x :: y :: []) else dedupR (x :: y :: []) ++ [z]
    have e1 : dedupR (x :: y :: [z]) = if x = y then dedupR [y, z] else x :: dedupR [y, z] := rfl
    have e2 : dedupR (x :: y :: []) = if x = y then dedupR [y] else x :: dedupR [y] := rfl
    rw [e1, e2, ih]
    by_cases h1 : x = y <;> by_cases h2 : y = z <;> simp [h1, h2]
  | x :: x' :: p, y, z => by
    have ih := dedup_snocR (x' :: p) y z
    simp only [List.cons_append] at ih ⊢
    have e1 : ∀ r, dedupR (x :: x' :: r) = if x = x' then dedupR (x' :: r) else x :: dedupR (x' :: r) := fun _ => rfl
    rw [e1, e1, ih]
    by_cases h1 : x = x' <;> by_cases h2 : y = z <;> simp [h1, h2]
theorem take_twoR (l : List Rl) (m : Nat) (h : m + 1 < l.length) : l.take (m + 2) = l.take m ++ [l[m], l[m + 1]] := by
  rw [List.take_succ_eq_append_getElem h, List.take_succ_eq_append_getElem (by omega), List.append_assoc]; rfl
theorem dedup_sameR (l : List Rl) (m : Nat) (h : m + 1 < l.length) (e : l[m] = l[m + 1]) : dedupR (l.take (m + 2)) = dedupR (l.take (m + 1)) := by
  rw [take_twoR l m h, dedup_snocR, if_pos e, List.take_succ_eq_append_getElem (by omega)]
theorem dedup_moreR (l : List Rl) (m : Nat) (h : m + 1 < l.length) (e : ¬ l[m] = l[m + 1]) : dedupR (l.take (m + 2)) = dedupR (l.take (m + 1)) ++ [l[m + 1]] := by
  rw [take_twoR l m h, dedup_snocR, if_neg e, List.take_succ_eq_append_getElem (by omega)]
theorem dedup_lenR : ∀ (l : List Rl), (dedupR l).length ≤ l.length
  | [] => Nat.le_refl _
  | [_] => Nat.le_refl _
  | x :: y :: r => by
    have ih := dedup_lenR (y :: r)
    unfold dedupR
    split <;> simp at ih ⊢ <;> omega
theorem dedup_oneR (l : List Rl) (h : 0 < l.length) : dedupR (l.take 1) = l.take 1 := by
  match l, h with
  | x :: r, _ => rfl
structure HalfR (w : World) (b o : Nat) (l : List Rl) (m k : Nat) : Prop where
  len : (dedupR (l.take m)).length = k
  low : ∀ i (hi : i < (dedupR (l.take m)).length), Two w b (o + i * 2) (dedupR (l.take m))[i]
  high : ∀ i (hi : i < l.length), k ≤ i → Two w b (o + i * 2) l[i]
def W2 (w : World) (b a : Nat) (s : Rl) : World := (w.setCell ⟨b, a, none⟩ (.string s.o)).setCell ⟨b, a + 1, none⟩ (.string s.n)
theorem w2_far (w : World) (b a i : Nat) (s : Rl) (h : i < a ∨ a + 2 ≤ i) : (W2 w b a s).cell? ⟨b, i, none⟩ = w.cell? ⟨b, i, none⟩ := by
  unfold W2
  rw [set_far _ _ _ _ _ (by omega), set_far _ _ _ _ _ (by omega)]
theorem w2_new {w : World} {b a : Nat} (s s0 : Rl) (h : Two w b a s0) : Two (W2 w b a s) b a s := by
  obtain ⟨h0, h1⟩ := h
  refine ⟨?_, ?_⟩
  · unfold W2; rw [set_far _ _ _ _ _ (by omega)]; exact World.cell?_setCell_same _ _ _ (u := _) h0
  · unfold W2; refine World.cell?_setCell_same _ _ _ (u := .string s0.n) ?_; rw [set_far _ _ _ _ _ (by omega)]; exact h1
theorem Two.drop1 {w w' : World} {b x : Nat} {s : Rl} (h : Two w b x s) (hw : ∀ i, x ≤ i → i < x + 2 → w'.cell? ⟨b, i, none⟩ = w.cell? ⟨b, i, none⟩) : Two w' b x s := by
  obtain ⟨h0, h1⟩ := h
  exact ⟨(hw _ (by omega) (by omega)).trans h0, (hw _ (by omega) (by omega)).trans h1⟩
theorem HalfR.put {w : World} {b o m kk : Nat} {l : List Rl} (h : HalfR w b o l (m + 1) kk) (hm : m + 1 < l.length) (hk : kk ≤ m) (e : ¬ l[m] = l[m + 1]) : HalfR (W2 w b (o + kk * 2) l[m + 1]) b o l (m + 2) (kk + 1) := by
  have hd := dedup_moreR l m hm e
  refine ⟨by rw [hd, List.length_append, h.len]; rfl, fun i hi => ?_, fun i hi hik => ?_⟩
  · rw [hd, List.length_append, h.len] at hi
    simp only [List.length_cons, List.length_nil] at hi
    by_cases hik : i < kk
    · have e1 : (dedupR (l.take (m + 2)))[i]'(by rw [hd, List.length_append, h.len]; simp; omega) = (dedupR (l.take (m + 1)))[i]'(by rw [h.len]; exact hik) := by
        simp only [hd]; rw [List.getElem_append_left]
      rw [e1]
      exact (h.low i (by rw [h.len]; exact hik)).drop1 (fun j _ _ => w2_far _ _ _ _ _ (by omega))
    · obtain rfl : i = kk := by omega
      have e1 : (dedupR (l.take (m + 2)))[i]'(by rw [hd, List.length_append, h.len]; simp) = l[m + 1] := by
        simp only [hd]; rw [List.getElem_append_right (by rw [h.len]; exact Nat.le_refl _)]; simp [h.len]
      rw [e1]
      exact w2_new _ _ (h.high i (by omega) (Nat.le_refl _))
  · exact (h.high i hi (by omega)).drop1 (fun j _ _ => w2_far _ _ _ _ _ (by omega))
theorem HalfR.same {w : World} {b o m kk : Nat} {l : List Rl} (h : HalfR w b o l (m + 1) kk) (hm : m + 1 < l.length) (e : l[m] = l[m + 1]) : HalfR w b o l (m + 2) kk := by
  have hd := dedup_sameR l m hm e
  exact ⟨by rw [hd]; exact h.len, fun i hi => by simp only [hd]; exact h.low i (by rw [← hd]; exact hi), h.high⟩
theorem HalfR.drewN {w : World} {b o m k : Nat} {l : List Rl} (h : HalfR w b o l m k) (n : Nat) : HalfR (w.drewN n) b o l m k := ⟨h.len, h.low, h.high⟩
theorem grown_w9R {w w' : World} {b a : Nat} {s : Rl} (h : w.grownBy w' (some b)) : w.grownBy (W2 w' b a s) (some b) := by
  unfold W2
  exact grown_set (grown_set h)
theorem sh_w9R {w w' : World} {b a : Nat} {s : Rl} (h : ShK w w' b) : ShK w (W2 w' b a s) b := by
  unfold W2
  exact sh_set (sh_set h)
theorem run_clear2R {P : Program} (w : World) (t e ty : TypeId) (z : Value) (ht : P.underlying t = some (.slice e)) (hv : ∀ w, (zeroValue e).run P w = .ok z w) (b o n c : Nat) (hn : 0 < n) (hs : z.cells.size = 2)
    (hc : ∀ j, j < n * 2 → (w.cell? ⟨b, o + j, none⟩).isSome = true) (hf : ∀ j, w.frozen? ⟨b, o + j, none⟩ = false) (h1 : ∀ v ∈ (Builtin.zeroCells z.cells n).toList, v.oneCell' = true) :
    (Builtin.clear_ #[t] ty #[.slice (some ⟨b, o, none⟩) n c]).run P w = .ok (.tuple #[]) (w.setCells b o (Builtin.zeroCells z.cells n).toList) := by
  have hl : (Builtin.zeroCells z.cells n).toList.length = n * 2 := by simp [Builtin.zeroCells, hs]
  have hst := run_storeCells_cells (P := P) b o (Builtin.zeroCells z.cells n).toList 0 w (by intro j hj; rw [hl] at hj; simpa using hc j hj) (by intro j _; simp [hf]) h1
  simp only [Nat.add_zero] at hst
  obtain ⟨m, rfl⟩ : ∃ m, n = m + 1 := ⟨n - 1, by omega⟩
  simp [Builtin.clear_, run_underlying ht, hv, hst]
abbrev zeroRl : Value := .agg #[.string ByteArray.empty, .string ByteArray.empty]
theorem zero_oneR (n : Nat) : ∀ v ∈ (Builtin.zeroCells zeroRl.cells n).toList, v.oneCell' = true := by
  intro v hv
  simp only [Builtin.zeroCells, Array.toList_map, List.mem_map] at hv
  obtain ⟨i, _, rfl⟩ := hv
  have h9 : i % zeroRl.cells.size < 2 := Nat.mod_lt _ (by decide)
  generalize i % zeroRl.cells.size = q at h9
  match q, h9 with
  | 0, _ => rfl
  | 1, _ => rfl
  | n + 2, h => omega
theorem two_someR {w : World} {b x : Nat} {s : Rl} (h : Two w b x s) (f : Nat) (hf : f < 2) : (w.cell? ⟨b, x + f, none⟩).isSome = true := by
  obtain ⟨h0, h1⟩ := h
  match f, hf with
  | 0, _ => rw [Nat.add_zero, h0]; rfl
  | 1, _ => rw [h1]; rfl
theorem HalfR.all {w : World} {b o m k : Nat} {l : List Rl} (h : HalfR w b o l m k) (hm : m = l.length) : (dedupR l).length = k ∧ ∀ i (hi : i < (dedupR l).length), Two w b (o + i * 2) (dedupR l)[i] := by
  subst hm
  obtain ⟨h1, h2, _⟩ := h
  simp only [List.take_of_length_le (Nat.le_refl _)] at h1 h2
  exact ⟨h1, h2⟩
theorem two_cellsR {w : World} {b o : Nat} {l : List Rl} (h : ∀ i (hi : i < l.length), Two w b (o + i * 2) l[i]) (j : Nat) (u : Value) (hu : (l.flatMap Rl.cells)[j]? = some u) : w.cell? ⟨b, o + j, none⟩ = some u := by
  have hj : j < l.length * 2 := by rw [← flat_len Rl.cells 2 Rl.cells_len l]; exact (List.getElem?_eq_some_iff.1 hu).1
  have hi : j / 2 < l.length := by omega
  have hf : j % 2 < 2 := Nat.mod_lt _ (by decide)
  have e : j = j / 2 * 2 + j % 2 := by omega
  rw [e, flat_get Rl.cells 2 Rl.cells_len l (j / 2) (j % 2) hf _ (List.getElem?_eq_getElem hi)] at hu
  obtain ⟨h0, h1⟩ := h (j / 2) hi
  rw [show o + j = o + j / 2 * 2 + j % 2 by omega]
  generalize j % 2 = f at hf hu
  match f, hf with
  | 0, _ => rw [Nat.add_zero, h0]; exact hu
  | 1, _ => rw [h1]; exact hu
theorem high_someR {w : World} {b o m k : Nat} {l : List Rl} (h : HalfR w b o l m k) (hk : k ≤ l.length) : ∀ j, j < (l.length - k) * 2 → (w.cell? ⟨b, o + k * 2 + j, none⟩).isSome = true := by
  intro j hj
  have := two_someR (h.high (k + j / 2) (by omega) (by omega)) (j % 2) (Nat.mod_lt _ (by decide))
  rwa [show o + (k + j / 2) * 2 + j % 2 = o + k * 2 + j by omega] at this
set_option maxRecDepth 100000 in
theorem rl_zero (w : World) : (zeroValue 78).run Tryz.prog w = .ok zeroRl w := by rfl
set_option maxRecDepth 100000 in
set_option maxHeartbeats 8000000 in
theorem rl_Compact (b o cap : Nat) (l : List Rl) (w : World) (hl : l.length ≤ 1000) (hc : l.length ≤ cap) (hcm : cap ≤ 9223372036854775807) (hb : b < w.heap.size)
    (hx : ∀ j u, (l.flatMap Rl.cells)[j]? = some u → w.cell? ⟨b, o + j, none⟩ = some u) (hf : ∀ i, w.frozen? ⟨b, i, none⟩ = false) :
    Calls Tryz.prog 189 #[.slice (some ⟨b, o, none⟩) l.length cap] w fun e w' =>
      e = .returned (.slice (some ⟨b, o, none⟩) (dedupR l).length cap) ∧ (∀ j u, ((dedupR l).flatMap Rl.cells)[j]? = some u → w'.cell? ⟨b, o + j, none⟩ = some u) ∧ w.grownBy w' (some b) ∧ (∀ i, w'.frozen? ⟨b, i, none⟩ = false) ∧ ShK w w' b := by
  have HFF := Lib.hid hf
  have hEq := role_eql
  have hNe := role_neq
  have HX := Lib.hid hx
  by_cases h2 : l.length < 2
  · have hd : dedupR l = l := by
      match l, h2 with
      | [], _ => rfl
      | [_], _ => rfl
    have HD := Lib.hid hd
    have d : decide ((l.length : Int) < 2) = true := by rw [decide_eq_true_iff]; omega
    clear hd hx h2
    go_enter Tryz.func189, Tryz.ntmps189
    go_wp2
    go_ret
    exact ⟨by rw [HD.out]; rfl, by rw [HD.out]; exact HX.out, ⟨rfl, rfl, rfl, Nat.le_refl _, fun _ _ _ => rfl⟩, HFF.out, ShK.refl _ _⟩
  · have d : decide ((l.length : Int) < 2) = false := by rw [decide_eq_false_iff_not]; omega
    clear hx
    go_enter Tryz.func189, Tryz.ntmps189
    go_wp2_with fail
    go_loopw [3] (fun i wr => ∃ k n : Nat, 1 ≤ k ∧ k ≤ l.length ∧ i = .int .i64 k ∧ wr = w.drewN n ∧ Hid (dedupR (l.take k) = l.take k)) (fun i _ => l.length - (intOf i).toNat)
    case atStart => exact ⟨1, 0, by omega, by omega, rfl, rfl, Lib.hid (dedup_oneR l (by omega))⟩
    case round =>
      obtain ⟨k, n, hk1, hk, rfl, rfl, HK⟩ := hrel
      by_cases hlt : k < l.length
      · obtain ⟨m, hm⟩ : ∃ m, k = m + 1 := ⟨k - 1, by omega⟩
        have HM := Lib.hid hm
        have hml : m < l.length := by omega
        obtain ⟨p0, p1⟩ := rl_cell (w := w) HX.out k hlt
        obtain ⟨q0, q1⟩ := rl_cell (w := w) HX.out m hml
        have hw1 : IntKind.i64.wrap ((k : Int) - 1) = (m : Int) := by rw [show (k : Int) - 1 = (m : Int) by omega]; exact Go.IntWalk.i64_in _ (by omega)
        have hmi : (0 : Int) ≤ (m : Int) := by omega
        by_cases he : l[k] = l[m]
        · have H0 : HalfR w b o l (k + 1) k := by
            have hd : dedupR (l.take (k + 1)) = l.take k := by
              have h1 := HK.out
              subst hm
              exact (dedup_sameR l m hlt he.symm).trans h1
            refine ⟨by rw [hd, List.length_take]; omega, fun i hi => ?_, fun i hi _ => rl_cell (w := w) HX.out i hi⟩
            have hi' : i < l.length := by rw [hd, List.length_take] at hi; omega
            have e : (dedupR (l.take (k + 1)))[i] = l[i] := by simp only [hd, List.getElem_take]
            rw [e]
            exact rl_cell (w := w) HX.out i hi'
          have H0' := Lib.hid H0
          have d1 : eqRl ⟨l[k].o, l[k].n⟩ ⟨l[m].o, l[m].n⟩ = true := decide_eq_true he
          clear he H0 hm
          go_wp2_with fail
          go_big_quiet (fail)
          go_wp2_with fail
          clear p0 p1 q0 q1 d1 hw1
          go_loopw [3, 5] (fun kv iv wr => ∃ kk t : Nat, 1 ≤ t ∧ t ≤ l.length - k ∧ kk + 1 ≤ k + t ∧ kv = .int .i64 kk ∧ iv = .int .i64 t ∧ HalfR wr b o l (k + t) kk ∧ w.grownBy wr (some b) ∧ (∀ i, wr.frozen? ⟨b, i, none⟩ = false) ∧ b < wr.heap.size ∧ Hid (ShK w wr b)) (fun _ iv _ => l.length - (intOf iv).toNat)
          case atStart => exact ⟨k, 1, by omega, by omega, by omega, rfl, rfl, H0'.out.drewN _, ⟨rfl, rfl, rfl, Nat.le_refl _, fun _ _ _ => rfl⟩, hf, hb, Lib.hid (ShK.refl _ _)⟩
          case round =>
            obtain ⟨kk, t, ht1, ht, hkk, rfl, rfl, hh, hg, hfr, hbr, HSH⟩ := hrel
            have HG := Lib.hid hg
            by_cases hlt2 : t < l.length - k
            · obtain ⟨u, hu⟩ : ∃ u, t = u + 1 := ⟨t - 1, by omega⟩
              have hkt : k + t < l.length := by omega
              have hku : k + u < l.length := by omega
              obtain ⟨p0, p1⟩ := (show Two wr b (o + k * 2 + t * 2) l[k + t] from by have := hh.high (k + t) (by omega) (by omega); rwa [show o + (k + t) * 2 = o + k * 2 + t * 2 by omega] at this)
              obtain ⟨q0, q1⟩ := (show Two wr b (o + k * 2 + u * 2) l[k + u] from by have := hh.high (k + u) (by omega) (by omega); rwa [show o + (k + u) * 2 = o + k * 2 + u * 2 by omega] at this)
              have hkl : kk < l.length := by omega
              obtain ⟨r0, r1⟩ := hh.high kk hkl (Nat.le_refl _)
              have hw1 : IntKind.i64.wrap ((t : Int) - 1) = (u : Int) := by rw [show (t : Int) - 1 = (u : Int) by omega]; exact Go.IntWalk.i64_in _ (by omega)
              have hui : (0 : Int) ≤ (u : Int) := by omega
              have hul : u < l.length - k := by omega
              by_cases he : l[k + t] = l[k + u]
              · have d1 : (!eqRl ⟨l[k + t].o, l[k + t].n⟩ ⟨l[k + u].o, l[k + u].n⟩) = false := congrArg (!·) (decide_eq_true he)
                have HN : Hid (HalfR wr b o l (k + (t + 1)) kk) := Lib.hid (by subst hu; exact hh.same (m := k + u) hkt he.symm)
                clear he hh hg hu
                go_wp2_with fail
                go_big_quiet (fail)
                go_wp2
                exact ⟨⟨kk, t + 1, by omega, by omega, by omega, rfl, by go_num, HN.out.drewN _, grown_drewN HG.out _, hfr, hbr, Lib.hid (HSH.out.drewN _)⟩, by simp [intOf]; omega⟩
              · have d1 : (!eqRl ⟨l[k + t].o, l[k + t].n⟩ ⟨l[k + u].o, l[k + u].n⟩) = true := congrArg (!·) (decide_eq_false he)
                have HN := Lib.hid (fun n => show HalfR (W2 (wr.drewN n) b (o + kk * 2) l[k + t]) b o l (k + (t + 1)) (kk + 1) by subst hu; exact (hh.drewN n).put (m := k + u) hkt (by omega) (fun e => he e.symm))
                clear he hh hg hu
                go_wp2_with fail
                go_big_quiet (fail)
                go_wp2
                refine ⟨⟨kk + 1, t + 1, by omega, by omega, by omega, by go_num, by go_num, ?_, ?_, ?_, ?_, ?_⟩, by simp [intOf]; omega⟩
                · have h := HN.out nq
                  unfold W2 at h
                  with_reducible exact h
                · have h := grown_w9R (b := b) (a := o + kk * 2) (s := l[k + t]) (grown_drewN HG.out nq)
                  unfold W2 at h
                  with_reducible exact h
                · intro i
                  simpa using hfr i
                · simpa using hbr
                · have h := Lib.hid (sh_w9R (b := b) (a := o + kk * 2) (s := l[k + t]) (HSH.out.drewN nq))
                  unfold W2 at h
                  with_reducible exact h
            · obtain ⟨hlen, hlow⟩ := hh.all (show k + t = l.length by omega)
              have HLEN := Lib.hid hlen
              have HLOW := Lib.hid hlow
              have hkl : kk < l.length := by omega
              have hkc : kk < cap := by omega
              obtain ⟨W', hW, hclr⟩ : ∃ W', W' = wr.setCells b (o + kk * 2) (Builtin.zeroCells zeroRl.cells (l.length - kk)).toList ∧ ∀ ty, Sem.run Tryz.prog (Builtin.clear_ #[23] ty #[.slice (some ⟨b, o + kk * 2, none⟩) (l.length - kk) (cap - kk)]) wr = .ok (.tuple #[]) W' :=
                ⟨_, rfl, fun ty => run_clear2R wr _ 78 ty zeroRl Tryz.underlying23 rl_zero b (o + kk * 2) (l.length - kk) (cap - kk) (by omega) rfl (high_someR hh (by omega)) (fun j => hfr _) (zero_oneR _)⟩
              have HOUT : Hid (∀ i, i < o + kk * 2 → W'.cell? ⟨b, i, none⟩ = wr.cell? ⟨b, i, none⟩) := Lib.hid (fun i hi => by rw [hW]; exact World.cell?_setCells_out b _ _ _ _ (fun _ _ => .inl hi))
              have HFZ : Hid (∀ i, W'.frozen? ⟨b, i, none⟩ = false) := Lib.hid (fun i => by rw [hW]; exact frozen_sets _ _ _ (hfr i))
              have HGW : Hid (w.grownBy W' (some b)) := Lib.hid (by rw [hW]; exact grown_sets _ _ _ hg)
              have HSW : Hid (ShK w W' b) := Lib.hid (by rw [hW]; exact sh_sets _ _ _ HSH.out)
              clear hh hg hlen hlow hW
              go_wp2_with fail
              go_ret
              refine ⟨by rw [HLEN.out]; rfl, ?_, HGW.out, HFZ.out, HSW.out⟩
              refine two_cellsR (fun i hi => (HLOW.out i hi).drop1 (fun j h1 h2 => HOUT.out j ?_))
              have := HLEN.out
              omega
        · have HN : Hid (dedupR (l.take (k + 1)) = l.take (k + 1)) := Lib.hid (by
            have h1 := HK.out
            subst hm
            exact (dedup_moreR l m hlt (fun e => he e.symm)).trans (by rw [h1]; exact (List.take_succ_eq_append_getElem hlt).symm))
          have d1 : eqRl ⟨l[k].o, l[k].n⟩ ⟨l[m].o, l[m].n⟩ = false := decide_eq_false he
          clear he hm
          go_wp2_with fail
          go_big_quiet (fail)
          go_wp2
          exact ⟨⟨k + 1, n + nq, by omega, by omega, by go_num, rfl, HN⟩, by simp [intOf]; omega⟩
      · have HD := Lib.hid (show dedupR l = l by have := HK.out; rwa [List.take_of_length_le (by omega)] at this)
        go_wp2
        go_ret
        exact ⟨by rw [HD.out]; rfl, by rw [HD.out]; exact HX.out, ⟨rfl, rfl, rfl, Nat.le_refl _, fun _ _ _ => rfl⟩, HFF.out, ShK.refl _ _⟩
end Go.Proofs.YtomhekohcadijaaGreatDoor
