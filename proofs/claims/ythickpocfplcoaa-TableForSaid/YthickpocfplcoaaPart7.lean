/- crupperref05.Roles: some row of roles comes back (printed by gen_roles.py). query.Roles, policy.roles, to the letter. Plain laws of rows of texts in order, each once (printed by gen_strlaw.py out of RlHas, RlSort, RlLaw). Plain laws of tables: the place of a text, a role's number, a statement's rule. -/
import Derived.Test.YthickpocfplcoaaPart6
import Derived.Test.YthickpocfplcoaaPart3
namespace Go.Proofs.Ythickpocfplcoaa
open Go.RowKit Go.Shelf

/-- A value is a row of at most n roles. -/
def RowR (w : World) (v : Value) (n : Nat) : Prop := ∃ rs : List Rl, SlA w 2 v rs.length (rs.flatMap Rl.cells) ∧ rs.length ≤ n ∧ ∀ x ∈ rs, x.le 9223372036854775807
theorem rl1 (x y : ByteArray) : ∀ u ∈ [Value.string x, Value.string y], u.oneCell' = true := by
  intro u hu; simp at hu; rcases hu with rfl | rfl <;> rfl
theorem heap_old {w : World} {g : Nat} {o : Obj} (o' : Obj) (h : w.heap[g]? = some o) : (w.alloc o').heap[g]? = some o :=
  (Below.heap_alloc _ _ _ (Array.getElem?_eq_some_iff.1 h).1).trans h
theorem own_tag {w : World} {base size n g : Nat} {e t : TypeId} {v : Value} {xs : List Value} {cs : Array Value} {fz : Nat × Nat} (h : w.ownsRow base e size v n xs) (hg : w.heap[g]? = some (.cells cs t fz)) (ht : t ≠ e) : some g ≠ v.ownBlock := by
  rcases h.2 with ⟨rfl, rfl⟩ | ⟨g', cap, cur, rfl, _, hg', _⟩
  · simp [Value.ownBlock]
  · simp only [Value.ownBlock]
    intro e'
    cases e'
    rw [hg] at hg'
    simp only [Option.some.injEq, Obj.cells.injEq] at hg'
    exact ht hg'.2.1
theorem push_role {w wr w3 : World} {A : Array Value} {vo : Value} {rs : List Rl} {x : Rl} {o : Obj} {a' : Option Addr} {cap' : Nat} (ht : OneAt w A wr) (hown : wr.ownsRow (w.heap.size + 1) 24 2 vo rs.length (rs.flatMap Rl.cells))
    (h : w3.ownsRow (w.heap.size + 1) 24 2 (.slice a' (rs.length + 1) cap') (rs.length + 1) (rs.flatMap Rl.cells ++ [.string x.o, .string x.n])) (hg : (wr.alloc o).grownBy w3 vo.ownBlock) :
    w3.ownsRow (w.heap.size + 1) 24 2 (.slice a' (rs.length + 1) cap') (rs ++ [x]).length ((rs ++ [x]).flatMap Rl.cells) ∧ OneAt w A w3 := by
  refine ⟨by rw [List.length_append, rl_flat]; exact h, (ht.a.alloc o).grown hg (own_gt_ne hown (Nat.lt_succ_self _)), ?_⟩
  exact below_own (ht.low.alloc ht.low.size o) (hown.alloc _) hg (by have := ht.low.size; simp; omega) (Nat.le_succ _)
theorem le_snoc {rs : List Rl} {x : Rl} (h : ∀ y ∈ rs, y.le 9223372036854775807) (hx : x.le 9223372036854775807) : ∀ y ∈ rs ++ [x], y.le 9223372036854775807 := by
  intro y hy
  rcases List.mem_append.1 hy with h' | h'
  · exact h y h'
  · rw [List.mem_singleton.1 h']; exact hx
theorem own_len {w : World} {base : Nat} {a : Option Addr} {n n' m cap : Nat} {xs : List Value} (h : w.ownsRow base 24 2 (.slice a n cap) m xs) (e : n = n') : w.ownsRow base 24 2 (.slice a n' cap) m xs := by subst e; exact h

def rolesQ (q : Qv) : List Rl := if q.k = 5 ∨ q.k = 6 then [q.a, q.b] else [q.a]
theorem flat_snocF {α β : Type} {l : List α} {k : Nat} (f : α → List β) (hk : k < l.length) : (l.take (k + 1)).flatMap f = (l.take k).flatMap f ++ f l[k] := by
  rw [List.take_succ_eq_append_getElem hk, List.flatMap_append]; simp
theorem take_snoc {α : Type} {l : List α} {k : Nat} (hk : k < l.length) : l.take (k + 1) = l.take k ++ [l[k]] := List.take_succ_eq_append_getElem hk
/-- All roles that a policy has, as the document counts them. -/
def allRoles (l : List St) (g h : List Rl) (qs : List Qv) : List Rl := l.flatMap rolesS ++ g ++ h ++ qs.flatMap rolesQ
set_option maxRecDepth 100000 in
set_option maxHeartbeats 8000000 in
theorem ref5_RolesL (v0 v1 v2 v3 : Value) (l : List St) (g h : List Rl) (qs : List Qv) (w : World) (hp : PolAt w v0 v1 v2 v3 l g h qs) (hl : l.length ≤ 100) (hg : g.length ≤ 100) (hh : h.length ≤ 100) (hq : qs.length ≤ 100) :
    Calls Try.prog 47 #[pv v0 v1 v2 v3] w fun e w' => ∃ v, e = .returned v ∧ SlA w' 2 v (allRoles l g h qs).length ((allRoles l g h qs).flatMap Rl.cells) ∧ (allRoles l g h qs).length ≤ 1000 ∧ (∀ x ∈ allRoles l g h qs, x.le 9223372036854775807) ∧ Below w.heap.size w w' := by
  have HP := Lib.hid hp
  obtain ⟨a0, c0, rfl⟩ := hp.rs.form
  obtain ⟨a1, c1, rfl⟩ := hp.rg.form
  obtain ⟨a2, c2, rfl⟩ := hp.rh.form
  obtain ⟨a3, c3, rfl⟩ := hp.rq.form
  have HT := Lib.hid (show OneAt w #[.slice a0 l.length c0, .slice a1 g.length c1, .slice a2 h.length c2, .slice a3 qs.length c3] (w.alloc (.cells #[.slice a0 l.length c0, .slice a1 g.length c1, .slice a2 h.length c2, .slice a3 qs.length c3] 55)) from ⟨Blk.new w _ _, (Below.refl _ _).alloc (Nat.le_refl _) _⟩)
  clear hp
  go_enter Try.func47, Try.ntmps47
  go_wp2_with fail
  go_loopw [3, 15] (fun vo i wr => ∃ (k : Nat) (rs : List Rl), k ≤ l.length ∧ i = .int .i64 k ∧ Hid (rs.length ≤ 3 * k) ∧ Hid (∀ x ∈ rs, x.le 9223372036854775807) ∧ Hid (OneAt w #[.slice a0 l.length c0, .slice a1 g.length c1, .slice a2 h.length c2, .slice a3 qs.length c3] wr) ∧ Hid (wr.ownsRow (w.heap.size + 1) 24 2 vo rs.length (rs.flatMap Rl.cells)) ∧ Hid (rs = (l.take k).flatMap rolesS)) (fun _ i _ => l.length - (intOf i).toNat)
  case atStart => exact ⟨0, [], by omega, rfl, Lib.hid (by simp), Lib.hid (fun x hx => by cases hx), HT, Lib.hid (World.ownsRow_nil _ _ _ _), Lib.hid (by simp)⟩
  case round =>
    clear HT
    obtain ⟨k, rs, hk, rfl, HC, HZ, HT, HO, HE⟩ := hrel
    obtain ⟨oo, oc, rfl⟩ := own_form HO.out
    have hrs := HC.out
    by_cases hlt : k < l.length
    · obtain ⟨b1, o1, e1, he1, hc1, hm1', hb1, hx1⟩ := HP.out.rs.pos (by omega)
      simp only [Value.slice.injEq, true_and] at he1
      obtain ⟨rfl, rfl⟩ := he1
      obtain ⟨p0, p1, p2, p3, p4, p5, p6, p7, p8⟩ := st_cell (w := wr) (fun j u hu => (HT.out.low.cell (p := ⟨b1, o1 + j, none⟩) hb1).trans (hx1 j u hu)) k hlt
      have hbr : b1 < wr.heap.size := Nat.lt_of_lt_of_le hb1 HT.out.low.size
      have hxl := HP.out.ls _ (List.getElem_mem hlt)
      have HF := Lib.hid (flat_snocF rolesS hlt)
      clear hx1
      generalize l[k] = x at *
      obtain ⟨xk, ⟨x1, x2⟩, xw, ⟨x3, x4⟩, ⟨x5, x6⟩, xv⟩ := x
      have l1 : (⟨x1, x2⟩ : Rl).le 9223372036854775807 := hxl.1
      have l2 : (⟨x3, x4⟩ : Rl).le 9223372036854775807 := hxl.2.2.1
      have l3 : (⟨x5, x6⟩ : Rl).le 9223372036854775807 := hxl.2.2.2.1
      clear hxl
      have hown := HO.out
      go_wp2_with (at_builtin; refine halt_ ?_)
      unfold Halt_
      refine app_own Try.underlying52 rl_info' rfl (by decide) (by decide) rfl _ _ rfl (w.heap.size + 1) rfl ((hown.alloc _).alloc _) [.string x1, .string x2] rfl (heap_new2 _ _ _) rfl (rl1 _ _) ?_ ?_ ?_
      · first | omega | (simp only [List.length_append, List.length_cons, List.length_nil]; omega)
      · have := HT.out.a.2.2; simp; omega
      intro a' cap' w3 hown' hgrow
      have HTb := HT.out.alloc (.cells #[.int .i64 xk, .string x1, .string x2, .string xw, .string x3, .string x4, .string x5, .string x6, .string xv] 26)
      obtain ⟨q1, q2⟩ := push_role (x := ⟨x1, x2⟩) HTb (hown.alloc _) hown' hgrow
      have hbx : w3.heap[wr.heap.size]? = some (.cells #[.int .i64 xk, .string x1, .string x2, .string xw, .string x3, .string x4, .string x5, .string x6, .string xv] 26 (0, 0)) := (hgrow.block _ (by simp; omega) (own_ne hown (Nat.le_refl _))).trans (heap_old _ (heap_new1 wr _))
      have HO1 := Lib.hid (own_len (n' := rs.length + 1) q1 (by simp))
      have HT1 := Lib.hid q2
      have HBX1 := Lib.hid hbx
      obtain ⟨cx, fx, zx⟩ := blk_of hbx
      clear hown hown' hgrow q1 q2 hbx HTb
      by_cases k2 : 2 ≤ xk
      case neg =>
        have d2 : decide (2 ≤ xk) = false := decide_eq_false k2
        have d4 : (xk == 4) = false := by (rw [beq_eq_false_iff_ne]; omega)
        have HR := Lib.hid (show rolesS ⟨xk, ⟨x1, x2⟩, xw, ⟨x3, x4⟩, ⟨x5, x6⟩, xv⟩ = [⟨x1, x2⟩] by simp only [rolesS]; rw [if_neg (show ¬ (xk = 2 ∨ xk = 3) by omega), if_neg (show ¬ xk = 4 by omega)])
        clear k2
        go_wp2_with fail
        exact ⟨⟨k + 1, rs ++ [⟨x1, x2⟩], by omega, by go_num, Lib.hid (by simp only [List.length_append, List.length_cons, List.length_nil]; omega), Lib.hid (le_snoc HZ.out (x := ⟨x1, x2⟩) l1), HT1, HO1, Lib.hid (by rw [HF.out, HR.out, HE.out] <;> simp)⟩, by simp [intOf]; omega⟩
      have d2 : decide (2 ≤ xk) = true := decide_eq_true k2
      by_cases k4 : xk ≤ 4
      case neg =>
        have d3 : decide (xk ≤ 4) = false := decide_eq_false k4
        have d4 : (xk == 4) = false := by (rw [beq_eq_false_iff_ne]; omega)
        have HR := Lib.hid (show rolesS ⟨xk, ⟨x1, x2⟩, xw, ⟨x3, x4⟩, ⟨x5, x6⟩, xv⟩ = [⟨x1, x2⟩] by simp only [rolesS]; rw [if_neg (show ¬ (xk = 2 ∨ xk = 3) by omega), if_neg (show ¬ xk = 4 by omega)])
        clear k2 k4
        go_wp2_with fail
        exact ⟨⟨k + 1, rs ++ [⟨x1, x2⟩], by omega, by go_num, Lib.hid (by simp only [List.length_append, List.length_cons, List.length_nil]; omega), Lib.hid (le_snoc HZ.out (x := ⟨x1, x2⟩) l1), HT1, HO1, Lib.hid (by rw [HF.out, HR.out, HE.out] <;> simp)⟩, by simp [intOf]; omega⟩
      have d3 : decide (xk ≤ 4) = true := decide_eq_true k4
      have hown := HO1.out
      go_wp2_with (at_builtin; refine halt_ ?_)
      unfold Halt_
      refine app_own Try.underlying52 rl_info' rfl (by decide) (by decide) rfl _ _ rfl (w.heap.size + 1) rfl (hown.alloc _) [.string x3, .string x4] rfl (heap_new1 _ _) rfl (rl1 _ _) ?_ ?_ ?_
      · first | omega | (simp only [List.length_append, List.length_cons, List.length_nil]; omega)
      · have := HT1.out.a.2.2; simp; omega
      intro a' cap' w3 hown' hgrow
      obtain ⟨q1, q2⟩ := push_role (x := ⟨x3, x4⟩) HT1.out hown hown' hgrow
      have hbx : w3.heap[wr.heap.size]? = some (.cells #[.int .i64 xk, .string x1, .string x2, .string xw, .string x3, .string x4, .string x5, .string x6, .string xv] 26 (0, 0)) := (hgrow.block _ (Nat.lt_of_lt_of_le (Array.getElem?_eq_some_iff.1 HBX1.out).1 (by simp)) (own_tag hown HBX1.out (by decide))).trans (heap_old _ HBX1.out)
      have HO2 := Lib.hid (own_len (n' := rs.length + 1 + 1) q1 (by simp))
      have HT2 := Lib.hid q2
      have HBX2 := Lib.hid hbx
      obtain ⟨cx, fx, zx⟩ := blk_of hbx
      clear hown hown' hgrow q1 q2 hbx
      by_cases k44 : xk = 4
      case neg =>
        have d4 : (xk == 4) = false := by (rw [beq_eq_false_iff_ne]; omega)
        have HR := Lib.hid (show rolesS ⟨xk, ⟨x1, x2⟩, xw, ⟨x3, x4⟩, ⟨x5, x6⟩, xv⟩ = [⟨x1, x2⟩, ⟨x3, x4⟩] by simp only [rolesS]; rw [if_pos (show xk = 2 ∨ xk = 3 by omega)])
        clear k2 k4 k44
        go_wp2_with fail
        exact ⟨⟨k + 1, rs ++ [⟨x1, x2⟩] ++ [⟨x3, x4⟩], by omega, by go_num, Lib.hid (by simp only [List.length_append, List.length_cons, List.length_nil]; omega), Lib.hid (le_snoc (le_snoc HZ.out (x := ⟨x1, x2⟩) l1) (x := ⟨x3, x4⟩) l2), HT2, HO2, Lib.hid (by rw [HF.out, HR.out, HE.out] <;> simp)⟩, by simp [intOf]; omega⟩
      have d4 : (xk == 4) = true := by simp [k44]
      have HR := Lib.hid (show rolesS ⟨xk, ⟨x1, x2⟩, xw, ⟨x3, x4⟩, ⟨x5, x6⟩, xv⟩ = [⟨x1, x2⟩, ⟨x3, x4⟩, ⟨x5, x6⟩] by simp only [rolesS]; rw [if_neg (show ¬ (xk = 2 ∨ xk = 3) by omega), if_pos k44])
      clear k2 k4 k44
      have hown := HO2.out
      go_wp2_with (at_builtin; refine halt_ ?_)
      unfold Halt_
      refine app_own Try.underlying52 rl_info' rfl (by decide) (by decide) rfl _ _ rfl (w.heap.size + 1) rfl (hown.alloc _) [.string x5, .string x6] rfl (heap_new1 _ _) rfl (rl1 _ _) ?_ ?_ ?_
      · first | omega | (simp only [List.length_append, List.length_cons, List.length_nil]; omega)
      · have := HT2.out.a.2.2; simp; omega
      intro a' cap' w3 hown' hgrow
      obtain ⟨q1, q2⟩ := push_role (x := ⟨x5, x6⟩) HT2.out hown hown' hgrow
      have HO3 := Lib.hid (own_len (n' := rs.length + 1 + 1 + 1) q1 (by simp))
      have HT3 := Lib.hid q2
      clear hown hown' hgrow q1 q2
      go_wp2_with fail
      exact ⟨⟨k + 1, rs ++ [⟨x1, x2⟩] ++ [⟨x3, x4⟩] ++ [⟨x5, x6⟩], by omega, by go_num, Lib.hid (by simp only [List.length_append, List.length_cons, List.length_nil]; omega), Lib.hid (le_snoc (le_snoc (le_snoc HZ.out (x := ⟨x1, x2⟩) l1) (x := ⟨x3, x4⟩) l2) (x := ⟨x5, x6⟩) l3), HT3, HO3, Lib.hid (by rw [HF.out, HR.out, HE.out] <;> simp)⟩, by simp [intOf]; omega⟩
    · obtain ⟨ca, fa, za⟩ := HT.out.a
      have hn0 : rs.length ≤ 300 := by omega
      have HE0 := Lib.hid (show rs = l.flatMap rolesS by rw [HE.out, List.take_of_length_le (show l.length ≤ k by omega)])
      clear hrs HC hk HE
      go_wp2_with fail
      clear ca fa za
      go_loopw [3, 49] (fun vo i wr => ∃ (k : Nat) (rs : List Rl), k ≤ g.length ∧ i = .int .i64 k ∧ Hid (rs.length ≤ 300 + k) ∧ Hid (∀ x ∈ rs, x.le 9223372036854775807) ∧ Hid (OneAt w #[.slice a0 l.length c0, .slice a1 g.length c1, .slice a2 h.length c2, .slice a3 qs.length c3] wr) ∧ Hid (wr.ownsRow (w.heap.size + 1) 24 2 vo rs.length (rs.flatMap Rl.cells)) ∧ Hid (rs = l.flatMap rolesS ++ g.take k)) (fun _ i _ => g.length - (intOf i).toNat)
      case atStart => exact ⟨0, rs, by omega, rfl, Lib.hid hn0, HZ, HT, HO, Lib.hid (by rw [HE0.out]; simp)⟩
      case round =>
        clear HT HZ HO hn0 HE0
        obtain ⟨k, rs, hk, rfl, HC, HZ, HT, HO, HE⟩ := hrel
        obtain ⟨oo, oc, rfl⟩ := own_form HO.out
        have hrs := HC.out
        by_cases hlt : k < g.length
        · obtain ⟨b1, o1, e1, he1, hc1, hm1', hb1, hx1⟩ := HP.out.rg.pos (by omega)
          simp only [Value.slice.injEq, true_and] at he1
          obtain ⟨rfl, rfl⟩ := he1
          obtain ⟨p0, p1⟩ := rl_cell (w := wr) (fun j u hu => (HT.out.low.cell (p := ⟨b1, o1 + j, none⟩) hb1).trans (hx1 j u hu)) k hlt
          have hbr : b1 < wr.heap.size := Nat.lt_of_lt_of_le hb1 HT.out.low.size
          have l1 := HP.out.lg _ (List.getElem_mem hlt)
          have HF := Lib.hid (take_snoc hlt)
          clear hx1
          generalize g[k] = x at *
          obtain ⟨x1, x2⟩ := x
          have hown := HO.out
          go_wp2_with (at_builtin; refine halt_ ?_)
          unfold Halt_
          refine app_own Try.underlying52 rl_info' rfl (by decide) (by decide) rfl _ _ rfl (w.heap.size + 1) rfl ((hown.alloc _).alloc _) [.string x1, .string x2] rfl (heap_new2 _ _ _) rfl (rl1 _ _) ?_ ?_ ?_
          · first | omega | (simp only [List.length_append, List.length_cons, List.length_nil]; omega)
          · have := HT.out.a.2.2; simp; omega
          intro a' cap' w3 hown' hgrow
          have HTb := HT.out.alloc (.cells #[.string x1, .string x2] 24)
          obtain ⟨q1, q2⟩ := push_role (x := ⟨x1, x2⟩) HTb (hown.alloc _) hown' hgrow
          have HO1 := Lib.hid (own_len (n' := rs.length + 1) q1 (by simp))
          have HT1 := Lib.hid q2
          clear hown hown' hgrow q1 q2 HTb
          go_wp2_with fail
          exact ⟨⟨k + 1, rs ++ [⟨x1, x2⟩], by omega, by go_num, Lib.hid (by simp only [List.length_append, List.length_cons, List.length_nil]; omega), Lib.hid (le_snoc HZ.out (x := ⟨x1, x2⟩) l1), HT1, HO1, Lib.hid (by rw [HF.out, HE.out] <;> simp)⟩, by simp [intOf]; omega⟩
        · obtain ⟨ca, fa, za⟩ := HT.out.a
          have hn0 : rs.length ≤ 400 := by omega
          have HE0 := Lib.hid (show rs = l.flatMap rolesS ++ g by rw [HE.out, List.take_of_length_le (show g.length ≤ k by omega)])
          clear hrs HC hk HE
          go_wp2_with fail
          clear ca fa za
          go_loopw [3, 61] (fun vo i wr => ∃ (k : Nat) (rs : List Rl), k ≤ h.length ∧ i = .int .i64 k ∧ Hid (rs.length ≤ 400 + k) ∧ Hid (∀ x ∈ rs, x.le 9223372036854775807) ∧ Hid (OneAt w #[.slice a0 l.length c0, .slice a1 g.length c1, .slice a2 h.length c2, .slice a3 qs.length c3] wr) ∧ Hid (wr.ownsRow (w.heap.size + 1) 24 2 vo rs.length (rs.flatMap Rl.cells)) ∧ Hid (rs = l.flatMap rolesS ++ g ++ h.take k)) (fun _ i _ => h.length - (intOf i).toNat)
          case atStart => exact ⟨0, rs, by omega, rfl, Lib.hid hn0, HZ, HT, HO, Lib.hid (by rw [HE0.out]; simp)⟩
          case round =>
            clear HT HZ HO hn0 HE0
            obtain ⟨k, rs, hk, rfl, HC, HZ, HT, HO, HE⟩ := hrel
            obtain ⟨oo, oc, rfl⟩ := own_form HO.out
            have hrs := HC.out
            by_cases hlt : k < h.length
            · obtain ⟨b1, o1, e1, he1, hc1, hm1', hb1, hx1⟩ := HP.out.rh.pos (by omega)
              simp only [Value.slice.injEq, true_and] at he1
              obtain ⟨rfl, rfl⟩ := he1
              obtain ⟨p0, p1⟩ := rl_cell (w := wr) (fun j u hu => (HT.out.low.cell (p := ⟨b1, o1 + j, none⟩) hb1).trans (hx1 j u hu)) k hlt
              have hbr : b1 < wr.heap.size := Nat.lt_of_lt_of_le hb1 HT.out.low.size
              have l1 := HP.out.lh _ (List.getElem_mem hlt)
              have HF := Lib.hid (take_snoc hlt)
              clear hx1
              generalize h[k] = x at *
              obtain ⟨x1, x2⟩ := x
              have hown := HO.out
              go_wp2_with (at_builtin; refine halt_ ?_)
              unfold Halt_
              refine app_own Try.underlying52 rl_info' rfl (by decide) (by decide) rfl _ _ rfl (w.heap.size + 1) rfl ((hown.alloc _).alloc _) [.string x1, .string x2] rfl (heap_new2 _ _ _) rfl (rl1 _ _) ?_ ?_ ?_
              · first | omega | (simp only [List.length_append, List.length_cons, List.length_nil]; omega)
              · have := HT.out.a.2.2; simp; omega
              intro a' cap' w3 hown' hgrow
              have HTb := HT.out.alloc (.cells #[.string x1, .string x2] 24)
              obtain ⟨q1, q2⟩ := push_role (x := ⟨x1, x2⟩) HTb (hown.alloc _) hown' hgrow
              have HO1 := Lib.hid (own_len (n' := rs.length + 1) q1 (by simp))
              have HT1 := Lib.hid q2
              clear hown hown' hgrow q1 q2 HTb
              go_wp2_with fail
              exact ⟨⟨k + 1, rs ++ [⟨x1, x2⟩], by omega, by go_num, Lib.hid (by simp only [List.length_append, List.length_cons, List.length_nil]; omega), Lib.hid (le_snoc HZ.out (x := ⟨x1, x2⟩) l1), HT1, HO1, Lib.hid (by rw [HF.out, HE.out] <;> simp)⟩, by simp [intOf]; omega⟩
            · obtain ⟨ca, fa, za⟩ := HT.out.a
              have hn0 : rs.length ≤ 500 := by omega
              have HE0 := Lib.hid (show rs = l.flatMap rolesS ++ g ++ h by rw [HE.out, List.take_of_length_le (show h.length ≤ k by omega)])
              clear hrs HC hk HE
              go_wp2_with fail
              clear ca fa za
              go_loopw [3, 73] (fun vo i wr => ∃ (k : Nat) (rs : List Rl), k ≤ qs.length ∧ i = .int .i64 k ∧ Hid (rs.length ≤ 500 + 2 * k) ∧ Hid (∀ x ∈ rs, x.le 9223372036854775807) ∧ Hid (OneAt w #[.slice a0 l.length c0, .slice a1 g.length c1, .slice a2 h.length c2, .slice a3 qs.length c3] wr) ∧ Hid (wr.ownsRow (w.heap.size + 1) 24 2 vo rs.length (rs.flatMap Rl.cells)) ∧ Hid (rs = l.flatMap rolesS ++ g ++ h ++ (qs.take k).flatMap rolesQ)) (fun _ i _ => qs.length - (intOf i).toNat)
              case atStart => exact ⟨0, rs, by omega, rfl, Lib.hid hn0, HZ, HT, HO, Lib.hid (by rw [HE0.out]; simp)⟩
              case round =>
                clear HT HZ HO hn0 HE0
                obtain ⟨k, rs, hk, rfl, HC, HZ, HT, HO, HE⟩ := hrel
                obtain ⟨oo, oc, rfl⟩ := own_form HO.out
                have hrs := HC.out
                by_cases hlt : k < qs.length
                · obtain ⟨b1, o1, e1, he1, hc1, hm1', hb1, hx1⟩ := HP.out.rq.pos (by omega)
                  simp only [Value.slice.injEq, true_and] at he1
                  obtain ⟨rfl, rfl⟩ := he1
                  obtain ⟨p0, p1, p2, p3, p4, p5⟩ := q_cell (w := wr) (fun j u hu => (HT.out.low.cell (p := ⟨b1, o1 + j, none⟩) hb1).trans (hx1 j u hu)) k hlt
                  have hbr : b1 < wr.heap.size := Nat.lt_of_lt_of_le hb1 HT.out.low.size
                  have hqo := HP.out.lq _ (List.getElem_mem hlt)
                  have l1 := hqo.1
                  have l2 := hqo.2.1
                  obtain ⟨wo, wc, hw5⟩ : ∃ a c, qs[k].w = .slice a ((hqo.2.2).choose).length c := ((hqo.2.2).choose_spec.1).form
                  generalize (hqo.2.2).choose.length = nw at hw5
                  have HF := Lib.hid (flat_snocF rolesQ hlt)
                  clear hx1 hqo
                  generalize qs[k] = x at *
                  obtain ⟨xk, ⟨x1, x2⟩, ⟨x3, x4⟩, xw⟩ := x
                  dsimp only at hw5
                  subst hw5
                  have hown := HO.out
                  go_wp2_with (at_builtin; refine halt_ ?_)
                  unfold Halt_
                  refine app_own Try.underlying52 rl_info' rfl (by decide) (by decide) rfl _ _ rfl (w.heap.size + 1) rfl ((hown.alloc _).alloc _) [.string x1, .string x2] rfl (heap_new2 _ _ _) rfl (rl1 _ _) ?_ ?_ ?_
                  · first | omega | (simp only [List.length_append, List.length_cons, List.length_nil]; omega)
                  · have := HT.out.a.2.2; simp; omega
                  intro a' cap' w3 hown' hgrow
                  have HTb := HT.out.alloc (.cells #[.int .i64 xk, .string x1, .string x2, .string x3, .string x4, .slice wo nw wc] 80)
                  obtain ⟨q1, q2⟩ := push_role (x := ⟨x1, x2⟩) HTb (hown.alloc _) hown' hgrow
                  have hbx : w3.heap[wr.heap.size]? = some (.cells #[.int .i64 xk, .string x1, .string x2, .string x3, .string x4, .slice wo nw wc] 80 (0, 0)) := (hgrow.block _ (by simp; omega) (own_ne hown (Nat.le_refl _))).trans (heap_old _ (heap_new1 wr _))
                  have HO1 := Lib.hid (own_len (n' := rs.length + 1) q1 (by simp))
                  have HT1 := Lib.hid q2
                  have HBX1 := Lib.hid hbx
                  obtain ⟨cx, fx, zx⟩ := blk_of hbx
                  clear hown hown' hgrow q1 q2 hbx HTb
                  by_cases k5 : xk = 5 ∨ xk = 6
                  case neg =>
                    have d5 : (xk == 5) = false := by (rw [beq_eq_false_iff_ne]; omega)
                    have d6 : (xk == 6) = false := by (rw [beq_eq_false_iff_ne]; omega)
                    have HR := Lib.hid (show rolesQ ⟨xk, ⟨x1, x2⟩, ⟨x3, x4⟩, .slice wo nw wc⟩ = [⟨x1, x2⟩] from if_neg k5)
                    clear k5
                    go_wp2_with fail
                    exact ⟨⟨k + 1, rs ++ [⟨x1, x2⟩], by omega, by go_num, Lib.hid (by simp only [List.length_append, List.length_cons, List.length_nil]; omega), Lib.hid (le_snoc HZ.out (x := ⟨x1, x2⟩) l1), HT1, HO1, Lib.hid (by rw [HF.out, HR.out, HE.out] <;> simp)⟩, by simp [intOf]; omega⟩
                  have HR := Lib.hid (show rolesQ ⟨xk, ⟨x1, x2⟩, ⟨x3, x4⟩, .slice wo nw wc⟩ = [⟨x1, x2⟩, ⟨x3, x4⟩] from if_pos k5)
                  by_cases k6 : xk = 5
                  case pos =>
                    have d5 : (xk == 5) = true := by simp [k6]
                    clear k5 k6
                    have hown := HO1.out
                    go_wp2_with (at_builtin; refine halt_ ?_)
                    unfold Halt_
                    refine app_own Try.underlying52 rl_info' rfl (by decide) (by decide) rfl _ _ rfl (w.heap.size + 1) rfl (hown.alloc _) [.string x3, .string x4] rfl (heap_new1 _ _) rfl (rl1 _ _) ?_ ?_ ?_
                    · first | omega | (simp only [List.length_append, List.length_cons, List.length_nil]; omega)
                    · have := HT1.out.a.2.2; simp; omega
                    intro a' cap' w3 hown' hgrow
                    obtain ⟨q1, q2⟩ := push_role (x := ⟨x3, x4⟩) HT1.out hown hown' hgrow
                    have HO2 := Lib.hid (own_len (n' := rs.length + 1 + 1) q1 (by simp))
                    have HT2 := Lib.hid q2
                    clear hown hown' hgrow q1 q2
                    go_wp2_with fail
                    exact ⟨⟨k + 1, rs ++ [⟨x1, x2⟩] ++ [⟨x3, x4⟩], by omega, by go_num, Lib.hid (by simp only [List.length_append, List.length_cons, List.length_nil]; omega), Lib.hid (le_snoc (le_snoc HZ.out (x := ⟨x1, x2⟩) l1) (x := ⟨x3, x4⟩) l2), HT2, HO2, Lib.hid (by rw [HF.out, HR.out, HE.out] <;> simp)⟩, by simp [intOf]; omega⟩
                  have d5 : (xk == 5) = false := by (rw [beq_eq_false_iff_ne]; omega)
                  have d6 : (xk == 6) = true := by (rw [beq_iff_eq]; omega)
                  clear k5 k6
                  have hown := HO1.out
                  go_wp2_with (at_builtin; refine halt_ ?_)
                  unfold Halt_
                  refine app_own Try.underlying52 rl_info' rfl (by decide) (by decide) rfl _ _ rfl (w.heap.size + 1) rfl (hown.alloc _) [.string x3, .string x4] rfl (heap_new1 _ _) rfl (rl1 _ _) ?_ ?_ ?_
                  · first | omega | (simp only [List.length_append, List.length_cons, List.length_nil]; omega)
                  · have := HT1.out.a.2.2; simp; omega
                  intro a' cap' w3 hown' hgrow
                  obtain ⟨q1, q2⟩ := push_role (x := ⟨x3, x4⟩) HT1.out hown hown' hgrow
                  have HO2 := Lib.hid (own_len (n' := rs.length + 1 + 1) q1 (by simp))
                  have HT2 := Lib.hid q2
                  clear hown hown' hgrow q1 q2
                  go_wp2_with fail
                  exact ⟨⟨k + 1, rs ++ [⟨x1, x2⟩] ++ [⟨x3, x4⟩], by omega, by go_num, Lib.hid (by simp only [List.length_append, List.length_cons, List.length_nil]; omega), Lib.hid (le_snoc (le_snoc HZ.out (x := ⟨x1, x2⟩) l1) (x := ⟨x3, x4⟩) l2), HT2, HO2, Lib.hid (by rw [HF.out, HR.out, HE.out] <;> simp)⟩, by simp [intOf]; omega⟩
                · have HSL := Lib.hid (Sl.of_own HO.out).a
                  have HA := Lib.hid (show rs = allRoles l g h qs by rw [HE.out, List.take_of_length_le (show qs.length ≤ k by omega)]; rfl)
                  go_wp2
                  go_ret
                  exact ⟨_, rfl, by rw [← HA.out]; exact HSL.out, by rw [← HA.out]; omega, by rw [← HA.out]; exact HZ.out, HT.out.low⟩
theorem ref5_Roles (v0 v1 v2 v3 : Value) (l : List St) (g h : List Rl) (qs : List Qv) (w : World) (hp : PolAt w v0 v1 v2 v3 l g h qs) (hl : l.length ≤ 100) (hg : g.length ≤ 100) (hh : h.length ≤ 100) (hq : qs.length ≤ 100) :
    Calls Try.prog 47 #[pv v0 v1 v2 v3] w fun e w' => ∃ v, e = .returned v ∧ RowR w' v 1000 ∧ Below w.heap.size w w' :=
  (ref5_RolesL v0 v1 v2 v3 l g h qs w hp hl hg hh hq).mono (fun _ _ ⟨v, h1, h2, h3, h4, h5⟩ => ⟨v, h1, ⟨_, h2, h3, h4⟩, h5⟩)
end Go.Proofs.Ythickpocfplcoaa
namespace Go.Proofs.Ythickpocfplcoaa
open Go.RowKit Go.Shelf

theorem query_second (k : Int) (w : World) : Calls Try.prog 87 #[.int .i64 k] w fun e w' => e = .returned (.bool (decide (k = 5 ∨ k = 6))) ∧ w' = w := by
  by_cases h5 : k = 5
  · subst h5
    go_enter Try.func87, Try.ntmps87
    go_wp2
    go_ret
    exact ⟨rfl, rfl⟩
  · by_cases h6 : k = 6
    · subst h6
      go_enter Try.func87, Try.ntmps87
      go_wp2
      go_ret
      exact ⟨rfl, rfl⟩
    · have hd := Lib.hid (show decide (k = 5 ∨ k = 6) = false from decide_eq_false (fun h => h.elim h5 h6))
      have d5 : (k == 5) = false := by rw [beq_eq_false_iff_ne]; exact h5
      have d6 : (k == 6) = false := by rw [beq_eq_false_iff_ne]; exact h6
      go_enter Try.func87, Try.ntmps87
      go_wp2
      go_ret
      exact ⟨by rw [hd.out]; rfl, rfl⟩
theorem query_Roles (q : Qv) (w : World) :
    Calls Try.prog 70 #[qv q] w fun e w' => ∃ v, e = .returned v ∧ Sl w' 2 v (rolesQ q).length ((rolesQ q).flatMap Rl.cells) ∧ Below w.heap.size w w' := by
  have SE := Lib.hid (fun W => query_second q.k W)
  have RY := Lib.hid (fun (h : q.k = 5 ∨ q.k = 6) => show rolesQ q = [q.a, q.b] from if_pos h)
  have RN := Lib.hid (fun (h : ¬ (q.k = 5 ∨ q.k = 6)) => show rolesQ q = [q.a] from if_neg h)
  obtain ⟨k, ⟨a1, a2⟩, ⟨b1, b2⟩, v⟩ := q
  by_cases hk : k = 5 ∨ k = 6
  · have hd : decide (k = 5 ∨ k = 6) = true := decide_eq_true hk
    rw [hd] at SE
    rw [RY.out hk]
    clear RY RN hk hd
    go_enter Try.func70, Try.ntmps70
    go_wp2_with fail
    refine (SE.out _).mono ?_
    rintro e w1 ⟨rfl, rfl⟩
    go_wp2
    go_ret
    exact ⟨.slice (some ⟨w.heap.size + 1, 0, none⟩) 2 2, rfl, Sl.new _ [.string a1, .string a2, .string b1, .string b2] _ 2 2 (w.heap.size + 1) (by simp) rfl (by simp [maxLen]), ((Below.refl _ _).alloc (Nat.le_refl _) _).alloc (by simp) _⟩
  · have hd : decide (k = 5 ∨ k = 6) = false := decide_eq_false hk
    rw [hd] at SE
    rw [RN.out hk]
    clear RY RN hk hd
    go_enter Try.func70, Try.ntmps70
    go_wp2_with fail
    refine (SE.out _).mono ?_
    rintro e w1 ⟨rfl, rfl⟩
    go_wp2
    go_ret
    exact ⟨.slice (some ⟨w.heap.size + 1, 0, none⟩) 1 1, rfl, Sl.new _ [.string a1, .string a2] _ 2 1 (w.heap.size + 1) (by simp) rfl (by simp [maxLen]), ((Below.refl _ _).alloc (Nat.le_refl _) _).alloc (by simp) _⟩

/-- All roles that a policy has, as the program lists them. -/
def polRoles (l : List St) (g h : List Rl) (qs : List Qv) : List Rl := g ++ h ++ l.flatMap rolesS ++ qs.flatMap rolesQ
theorem rolesS_len (s : St) : (rolesS s).length ≤ 3 := by
  unfold rolesS
  split
  · simp
  · split <;> simp
theorem rolesQ_len (q : Qv) : (rolesQ q).length ≤ 2 := by
  unfold rolesQ
  split <;> simp
theorem push_roles {w wr w3 : World} {A : Array Value} {vo : Value} {n m : Nat} {rs ms : List Rl} {a' : Option Addr} {cap' : Nat} (ht : OneAt w A wr) (hown : wr.ownsRow (w.heap.size + 1) 24 2 vo n (rs.flatMap Rl.cells))
    (h : w3.ownsRow (w.heap.size + 1) 24 2 (.slice a' (n + m) cap') (n + m) (rs.flatMap Rl.cells ++ ms.flatMap Rl.cells)) (hg : wr.grownBy w3 vo.ownBlock) :
    w3.ownsRow (w.heap.size + 1) 24 2 (.slice a' (n + m) cap') (n + m) ((rs ++ ms).flatMap Rl.cells) ∧ OneAt w A w3 := by
  refine ⟨by rw [rl_flat]; exact h, ht.a.grown hg (own_gt_ne hown (Nat.lt_succ_self _)), ?_⟩
  exact below_own ht.low hown hg (by have := ht.low.size; omega) (Nat.le_succ _)
set_option maxRecDepth 100000 in
set_option maxHeartbeats 8000000 in
theorem policy_roles (v0 v1 v2 v3 : Value) (l : List St) (g h : List Rl) (qs : List Qv) (w : World) (hp : PolAt w v0 v1 v2 v3 l g h qs) (hl : l.length ≤ 100) (hg : g.length ≤ 100) (hh : h.length ≤ 100) (hq : qs.length ≤ 100) :
    Calls Try.prog 58 #[pv v0 v1 v2 v3] w fun e w' => ∃ v, e = .returned v ∧ SlA w' 2 v (polRoles l g h qs).length ((polRoles l g h qs).flatMap Rl.cells) ∧ (polRoles l g h qs).length ≤ 1000 ∧ Below w.heap.size w w' := by
  have HP := Lib.hid hp
  have CO := Lib.hid (fun b W (hb : Below w.heap.size w W) (hx : Blk W b #[v1, v2]) => rl_ConcatO b v1 v2 g h W hx (hp.rg.below hb) (hp.rh.below hb) (by omega) (by omega))
  obtain ⟨a0, c0, rfl⟩ := hp.rs.form
  obtain ⟨a1, c1, rfl⟩ := hp.rg.form
  obtain ⟨a2, c2, rfl⟩ := hp.rh.form
  obtain ⟨a3, c3, rfl⟩ := hp.rq.form
  have HT := Lib.hid (show OneAt w #[.slice a0 l.length c0, .slice a1 g.length c1, .slice a2 h.length c2, .slice a3 qs.length c3] (w.alloc (.cells #[.slice a0 l.length c0, .slice a1 g.length c1, .slice a2 h.length c2, .slice a3 qs.length c3] 55)) from ⟨Blk.new w _ _, (Below.refl _ _).alloc (Nat.le_refl _) _⟩)
  clear hp
  go_enter Try.func58, Try.ntmps58
  go_wp2_with fail
  refine (CO.out (w.heap.size + 1) _ (((Below.refl _ _).alloc (Nat.le_refl _) _).alloc (by simp) _) (by have := Blk.new (w.alloc (.cells #[.slice a0 l.length c0, .slice a1 g.length c1, .slice a2 h.length c2, .slice a3 qs.length c3] 55)) #[.slice a1 g.length c1, .slice a2 h.length c2] 52; simpa using this)).mono ?_
  rintro e w1 ⟨vo, rfl, hown, hb⟩
  obtain ⟨r0, hr0⟩ : ∃ r, r = g ++ h := ⟨_, rfl⟩
  rw [← hr0] at hown
  have HT := Lib.hid ((HT.out.alloc _).later hb)
  have HO := Lib.hid (own_base (base' := w.heap.size + 1) hown (by simp))
  obtain ⟨oo, oc, rfl⟩ := own_form hown
  clear hown hb CO
  have hn0 : r0.length ≤ 200 + 3 * 0 := by rw [hr0, List.length_append]; omega
  have HE0 := Lib.hid hr0
  clear hr0
  obtain ⟨ca, fa, za⟩ := HT.out.a
  go_wp2_with fail
  clear ca fa za
  go_loopw [3, 17] (fun vo i wr => ∃ (k : Nat) (rs : List Rl), k ≤ l.length ∧ i = .int .i64 k ∧ Hid (rs.length ≤ 200 + 3 * k) ∧ Hid (OneAt w #[.slice a0 l.length c0, .slice a1 g.length c1, .slice a2 h.length c2, .slice a3 qs.length c3] wr) ∧ Hid (wr.ownsRow (w.heap.size + 1) 24 2 vo rs.length (rs.flatMap Rl.cells)) ∧ Hid (rs = g ++ h ++ (l.take k).flatMap rolesS)) (fun _ i _ => l.length - (intOf i).toNat)
  case atStart => exact ⟨0, _, by omega, rfl, Lib.hid hn0, HT, HO, Lib.hid (by rw [HE0.out]; simp)⟩
  case round =>
    clear HT HO hn0 HE0
    obtain ⟨k, rs, hk, rfl, HC, HT, HO, HE⟩ := hrel
    obtain ⟨oo, oc, rfl⟩ := own_form HO.out
    have hrs := HC.out
    by_cases hlt : k < l.length
    · obtain ⟨b1, o1, e1, he1, hc1, hm1', hb1, hx1⟩ := HP.out.rs.pos (by omega)
      simp only [Value.slice.injEq, true_and] at he1
      obtain ⟨rfl, rfl⟩ := he1
      obtain ⟨p0, p1, p2, p3, p4, p5, p6, p7, p8⟩ := st_cell (w := wr) (fun j u hu => (HT.out.low.cell (p := ⟨b1, o1 + j, none⟩) hb1).trans (hx1 j u hu)) k hlt
      have hbr : b1 < wr.heap.size := Nat.lt_of_lt_of_le hb1 HT.out.low.size
      have HF := Lib.hid (flat_snocF rolesS hlt)
      have SR := Lib.hid (fun W => syn_Roles l[k] W)
      have hms := rolesS_len l[k]
      clear hx1
      generalize l[k] = x at *
      obtain ⟨xk, ⟨x1, x2⟩, xw, ⟨x3, x4⟩, ⟨x5, x6⟩, xv⟩ := x
      generalize rolesS ⟨xk, ⟨x1, x2⟩, xw, ⟨x3, x4⟩, ⟨x5, x6⟩, xv⟩ = ms at SR HF hms
      go_wp2_with fail
      refine (SR.out _).mono ?_
      rintro e w3 ⟨vz, rfl, hz, hb⟩
      have HT3 := Lib.hid ((HT.out.alloc _).later hb)
      have HO3 := Lib.hid (own_below (HO.out.alloc _) hb)
      obtain ⟨zo, zc, rfl⟩ := hz.form
      have HZ := Lib.hid hz
      clear hz hb SR
      go_wp2_with (at_builtin; refine halt_ ?_)
      unfold Halt_
      refine app_row Try.underlying52 rl_info' rfl (by decide) (by decide) rfl _ _ rfl (w.heap.size + 1) rfl HO3.out rfl HZ.out.a (rls_one _) (by omega) (by have := HT3.out.a.2.2; omega) ?_
      intro a' cap' w4 hown' hgrow
      obtain ⟨q1, q2⟩ := push_roles HT3.out HO3.out hown' hgrow
      have HO4 := Lib.hid (show w4.ownsRow (w.heap.size + 1) 24 2 (.slice a' (rs.length + ms.length) cap') (rs ++ ms).length ((rs ++ ms).flatMap Rl.cells) by rw [List.length_append]; exact q1)
      have HT4 := Lib.hid q2
      clear hown' hgrow q1 q2 HO3 HT3 HZ
      go_wp2_with fail
      exact ⟨⟨k + 1, rs ++ ms, by omega, by go_num, Lib.hid (by rw [List.length_append]; omega), HT4, HO4, Lib.hid (by rw [HF.out, HE.out]; simp only [List.append_assoc])⟩, by simp [intOf]; omega⟩
    · obtain ⟨ca, fa, za⟩ := HT.out.a
      have hn0 : rs.length ≤ 500 + 2 * 0 := by omega
      have HE0 := Lib.hid (show rs = g ++ h ++ l.flatMap rolesS by rw [HE.out, List.take_of_length_le (show l.length ≤ k by omega)])
      clear hrs HC hk HE
      go_wp2_with fail
      clear ca fa za
      go_loopw [3, 29] (fun vo i wr => ∃ (k : Nat) (rs : List Rl), k ≤ qs.length ∧ i = .int .i64 k ∧ Hid (rs.length ≤ 500 + 2 * k) ∧ Hid (OneAt w #[.slice a0 l.length c0, .slice a1 g.length c1, .slice a2 h.length c2, .slice a3 qs.length c3] wr) ∧ Hid (wr.ownsRow (w.heap.size + 1) 24 2 vo rs.length (rs.flatMap Rl.cells)) ∧ Hid (rs = g ++ h ++ l.flatMap rolesS ++ (qs.take k).flatMap rolesQ)) (fun _ i _ => qs.length - (intOf i).toNat)
      case atStart => exact ⟨0, _, by omega, rfl, Lib.hid hn0, HT, HO, Lib.hid (by rw [HE0.out]; simp)⟩
      case round =>
        clear HT HO hn0 HE0
        obtain ⟨k, rs, hk, rfl, HC, HT, HO, HE⟩ := hrel
        obtain ⟨oo, oc, rfl⟩ := own_form HO.out
        have hrs := HC.out
        by_cases hlt : k < qs.length
        · obtain ⟨b1, o1, e1, he1, hc1, hm1', hb1, hx1⟩ := HP.out.rq.pos (by omega)
          simp only [Value.slice.injEq, true_and] at he1
          obtain ⟨rfl, rfl⟩ := he1
          obtain ⟨p0, p1, p2, p3, p4, p5⟩ := q_cell (w := wr) (fun j u hu => (HT.out.low.cell (p := ⟨b1, o1 + j, none⟩) hb1).trans (hx1 j u hu)) k hlt
          have hbr : b1 < wr.heap.size := Nat.lt_of_lt_of_le hb1 HT.out.low.size
          have HF := Lib.hid (flat_snocF rolesQ hlt)
          have SR := Lib.hid (fun W => query_Roles qs[k] W)
          have hms := rolesQ_len qs[k]
          have hqo := HP.out.lq _ (List.getElem_mem hlt)
          obtain ⟨wo, wc, hw5⟩ : ∃ a c, qs[k].w = .slice a ((hqo.2.2).choose).length c := ((hqo.2.2).choose_spec.1).form
          generalize (hqo.2.2).choose.length = nw at hw5
          clear hx1 hqo
          generalize qs[k] = x at *
          obtain ⟨xk, ⟨x1, x2⟩, ⟨x3, x4⟩, xw⟩ := x
          dsimp only at hw5
          subst hw5
          generalize rolesQ ⟨xk, ⟨x1, x2⟩, ⟨x3, x4⟩, .slice wo nw wc⟩ = ms at SR HF hms
          go_wp2_with fail
          refine (SR.out _).mono ?_
          rintro e w3 ⟨vz, rfl, hz, hb⟩
          have HT3 := Lib.hid ((HT.out.alloc _).later hb)
          have HO3 := Lib.hid (own_below (HO.out.alloc _) hb)
          obtain ⟨zo, zc, rfl⟩ := hz.form
          have HZ := Lib.hid hz
          clear hz hb SR
          go_wp2_with (at_builtin; refine halt_ ?_)
          unfold Halt_
          refine app_row Try.underlying52 rl_info' rfl (by decide) (by decide) rfl _ _ rfl (w.heap.size + 1) rfl HO3.out rfl HZ.out.a (rls_one _) (by omega) (by have := HT3.out.a.2.2; omega) ?_
          intro a' cap' w4 hown' hgrow
          obtain ⟨q1, q2⟩ := push_roles HT3.out HO3.out hown' hgrow
          have HO4 := Lib.hid (show w4.ownsRow (w.heap.size + 1) 24 2 (.slice a' (rs.length + ms.length) cap') (rs ++ ms).length ((rs ++ ms).flatMap Rl.cells) by rw [List.length_append]; exact q1)
          have HT4 := Lib.hid q2
          clear hown' hgrow q1 q2 HO3 HT3 HZ
          go_wp2_with fail
          exact ⟨⟨k + 1, rs ++ ms, by omega, by go_num, Lib.hid (by rw [List.length_append]; omega), HT4, HO4, Lib.hid (by rw [HF.out, HE.out]; simp only [List.append_assoc])⟩, by simp [intOf]; omega⟩
        · have HA := Lib.hid (show rs = polRoles l g h qs by rw [HE.out, List.take_of_length_le (show qs.length ≤ k by omega)]; rfl)
          have HSL := Lib.hid (Sl.of_own HO.out).a
          go_wp2
          go_ret
          exact ⟨_, rfl, by rw [← HA.out]; exact HSL.out, by rw [← HA.out]; omega, HT.out.low⟩
end Go.Proofs.Ythickpocfplcoaa
namespace Go.Proofs.Ythickpocfplcoaa
open Go.RowKit Go.Shelf

def hasB (l : List ByteArray) (s : ByteArray) : Bool := l.any (fun x => decide (x = s))
theorem hasB_yes {l : List ByteArray} {s : ByteArray} {k : Nat} (hl : k < l.length) (e : l[k] = s) : hasB l s = true := by
  unfold hasB; rw [List.any_eq_true]; exact ⟨l[k], List.getElem_mem hl, by simp [e]⟩
theorem hasB_end {l : List ByteArray} {s : ByteArray} {k : Nat} (hk : ¬ k < l.length) (h : ∀ j (hj : j < l.length), j < k → ¬ l[j] = s) : hasB l s = false := by
  unfold hasB; rw [List.any_eq_false]
  intro x hx
  obtain ⟨j, hj, rfl⟩ := List.getElem_of_mem hx
  simp [h j hj (by omega)]
/-- The place of a statement in a row in order. -/
def posSB : List ByteArray → ByteArray → Nat
  | [], _ => 0
  | a :: r, x => if cmpS a x < 0 then posSB r x + 1 else 0
def insAtB (l : List ByteArray) (x : ByteArray) (k : Nat) : List ByteArray := l.take k ++ x :: l.drop k
def insSB (l : List ByteArray) (x : ByteArray) : List ByteArray := if hasB l x then l else insAtB l x (posSB l x)
def insAllB : List ByteArray → List ByteArray → List ByteArray
  | acc, [] => acc
  | acc, x :: l => insAllB (insSB acc x) l
theorem pos_leB : ∀ (l : List ByteArray) (x : ByteArray), posSB l x ≤ l.length
  | [], _ => Nat.le_refl _
  | a :: r, x => by unfold posSB; have := pos_leB r x; split <;> simp <;> omega
theorem pos_ofB : ∀ (l : List ByteArray) (x : ByteArray) (k : Nat), k ≤ l.length → (∀ j (hj : j < l.length), j < k → cmpS l[j] x < 0) → (∀ hk : k < l.length, ¬ cmpS l[k] x < 0) → posSB l x = k
  | [], x, k, hk, _, _ => by simp at hk; subst hk; rfl
  | a :: r, x, 0, _, _, h => by
    have h' : ¬ cmpS a x < 0 := h (by simp)
    unfold posSB; rw [if_neg h']
  | a :: r, x, k + 1, hk, h1, h2 => by
    have h' : cmpS a x < 0 := h1 0 (by simp) (by omega)
    unfold posSB
    rw [if_pos h', pos_ofB r x k (by simpa using hk) (fun j hj hjk => h1 (j + 1) (by simp; omega) (by omega)) (fun hk' => h2 (by simp; omega))]
theorem insS_lenB (l : List ByteArray) (x : ByteArray) : (insSB l x).length ≤ l.length + 1 := by
  unfold insSB insAtB; split
  · omega
  · simp [List.length_take, List.length_drop]; have := pos_leB l x; omega
theorem insAll_stepB (acc l : List ByteArray) (k : Nat) (hk : k < l.length) : insAllB acc (l.drop k) = insAllB (insSB acc l[k]) (l.drop (k + 1)) := by
  rw [List.drop_eq_getElem_cons hk]; rfl
theorem insAll_endB (acc l : List ByteArray) (k : Nat) (hk : ¬ k < l.length) : insAllB acc (l.drop k) = acc := by
  rw [List.drop_eq_nil_of_le (by omega)]; rfl
theorem insS_hasB {l : List ByteArray} {x : ByteArray} (h : hasB l x = true) : insSB l x = l := if_pos h
theorem insS_notB {l : List ByteArray} {x : ByteArray} (h : hasB l x = false) : insSB l x = insAtB l x (posSB l x) := if_neg (by rw [h]; exact Bool.false_ne_true)
theorem insAt_lenB {l : List ByteArray} {x : ByteArray} {j : Nat} (hj : j ≤ l.length) : (insAtB l x j).length = j + 1 + (l.length - j) := by
  unfold insAtB; rw [List.length_append, List.length_cons, List.length_take, List.length_drop]; omega
theorem insAt_endB {l : List ByteArray} {x : ByteArray} : (insAtB l x l.length).length = l.length + 1 := by rw [insAt_lenB (Nat.le_refl _)]; omega
theorem eqB_self (x : ByteArray) : decide (x = x) = true := decide_eq_true rfl
theorem hasB_mem (l : List ByteArray) (x : ByteArray) : hasB l x = true ↔ x ∈ l := by
  unfold hasB; rw [List.any_eq_true]
  constructor
  · rintro ⟨y, hy, e⟩; rw [← of_decide_eq_true e]; exact hy
  · intro h; exact ⟨x, h, eqB_self x⟩
theorem lt_trans'B {x y z : ByteArray} (h : cmpS x y < 0) (h' : cmpS y z < 0) : cmpS x z < 0 := by
  obtain ⟨a, b⟩ := wcmp_str.le x y z (by omega) (by omega)
  have : ¬ cmpS x z = 0 := fun e => by have := (b e).1; omega
  omega
theorem lt_irrefl'B (x : ByteArray) : ¬ cmpS x x < 0 := by have := (cmpS_zero x x).2 rfl; omega
/-- A row in strict order. -/
def AscB (l : List ByteArray) : Prop := l.Pairwise fun x y => cmpS x y < 0
theorem asc_uniqueB : ∀ (l m : List ByteArray), AscB l → AscB m → (∀ x, x ∈ l ↔ x ∈ m) → l = m
  | [], [], _, _, _ => rfl
  | [], y :: m, _, _, h => absurd ((h y).2 (by simp)) (by simp)
  | x :: l, [], _, _, h => absurd ((h x).1 (by simp)) (by simp)
  | x :: l, y :: m, hl, hm, h => by
    have hl' := List.pairwise_cons.1 hl
    have hm' := List.pairwise_cons.1 hm
    have e : x = y := by
      rcases List.mem_cons.1 ((h x).1 (by simp)) with e | e
      · exact e
      · rcases List.mem_cons.1 ((h y).2 (by simp)) with e' | e'
        · exact e'.symm
        · exact absurd (lt_trans'B (hm'.1 x e) (hl'.1 y e')) (lt_irrefl'B y)
    subst e
    refine congrArg (x :: ·) (asc_uniqueB l m hl'.2 hm'.2 fun z => ?_)
    constructor
    · intro hz
      rcases List.mem_cons.1 ((h z).1 (by simp [hz])) with e | e
      · subst e; exact absurd (hl'.1 z hz) (lt_irrefl'B z)
      · exact e
    · intro hz
      rcases List.mem_cons.1 ((h z).2 (by simp [hz])) with e | e
      · subst e; exact absurd (hm'.1 z hz) (lt_irrefl'B z)
      · exact e
/-- A row in order without those that stand twice. -/
def dedupB : List ByteArray → List ByteArray
  | [] => []
  | [x] => [x]
  | x :: y :: r => if x = y then dedupB (y :: r) else x :: dedupB (y :: r)
theorem dedup_memB : ∀ (l : List ByteArray) (z : ByteArray), z ∈ dedupB l ↔ z ∈ l
  | [], z => by simp [dedupB]
  | [x], z => by simp [dedupB]
  | x :: y :: r, z => by
    have ih := dedup_memB (y :: r) z
    unfold dedupB
    by_cases e : x = y
    · rw [if_pos e, ih, e]; simp
    · rw [if_neg e, List.mem_cons, ih, List.mem_cons (b := x)]
theorem dedup_ascB : ∀ (l : List ByteArray), (l.Pairwise fun x y => cmpS x y ≤ 0) → AscB (dedupB l)
  | [], _ => List.Pairwise.nil
  | [x], _ => by simp [dedupB, AscB]
  | x :: y :: r, h => by
    have h' := List.pairwise_cons.1 h
    have ih := dedup_ascB (y :: r) h'.2
    unfold dedupB
    by_cases e : x = y
    · rw [if_pos e]; exact ih
    · rw [if_neg e]
      refine List.pairwise_cons.2 ⟨fun z hz => ?_, ih⟩
      have hxy : cmpS x y < 0 := by
        have := h'.1 y (by simp)
        have h0 : ¬ cmpS x y = 0 := fun e' => e ((cmpS_zero x y).1 e')
        omega
      have hz' := (dedup_memB (y :: r) z).1 hz
      rcases List.mem_cons.1 hz' with rfl | hz'
      · exact hxy
      · have hyz := (List.pairwise_cons.1 h'.2).1 z hz'
        obtain ⟨a, b⟩ := wcmp_str.le x y z (by omega) hyz
        have : ¬ cmpS x z = 0 := fun e => by have := (b e).1; omega
        omega
theorem insS_memB (l : List ByteArray) (x z : ByteArray) : z ∈ insSB l x ↔ z ∈ l ∨ z = x := by
  unfold insSB
  by_cases h : hasB l x = true
  · rw [if_pos h]
    exact ⟨.inl, fun h' => h'.elim id (fun e => e ▸ (hasB_mem l x).1 h)⟩
  · rw [if_neg h]
    unfold insAtB
    rw [List.mem_append, List.mem_cons]
    have := List.take_append_drop (posSB l x) l
    constructor
    · rintro (h | h | h)
      · exact .inl (List.mem_of_mem_take h)
      · exact .inr h
      · exact .inl (List.mem_of_mem_drop h)
    · rintro (h | h)
      · rw [← this] at h
        rcases List.mem_append.1 h with h | h
        · exact .inl h
        · exact .inr (.inr h)
      · exact .inr (.inl h)
theorem pos_takeB : ∀ (l : List ByteArray) (x z : ByteArray), z ∈ l.take (posSB l x) → cmpS z x < 0
  | [], _, _, h => by simp at h
  | a :: r, x, z, h => by
    unfold posSB at h
    by_cases ha : cmpS a x < 0
    · rw [if_pos ha] at h
      rcases List.mem_cons.1 (by simpa using h) with rfl | h
      · exact ha
      · exact pos_takeB r x z h
    · rw [if_neg ha] at h; simp at h
theorem pos_dropB : ∀ (l : List ByteArray) (x z : ByteArray), AscB l → z ∈ l.drop (posSB l x) → ¬ cmpS z x < 0
  | [], _, _, _, h => by simp at h
  | a :: r, x, z, hl, h => by
    unfold posSB at h
    by_cases ha : cmpS a x < 0
    · rw [if_pos ha] at h
      exact pos_dropB r x z (List.pairwise_cons.1 hl).2 (by simpa using h)
    · rw [if_neg ha] at h
      rcases List.mem_cons.1 (by simpa using h) with rfl | h
      · exact ha
      · have := (List.pairwise_cons.1 hl).1 z h
        intro hz; exact ha (lt_trans'B this hz)
theorem insS_ascB {l : List ByteArray} (h : AscB l) (x : ByteArray) : AscB (insSB l x) := by
  unfold insSB
  by_cases hx : hasB l x = true
  · rw [if_pos hx]; exact h
  · rw [if_neg hx]
    have hn : ¬ x ∈ l := fun h' => hx ((hasB_mem l x).2 h')
    have h1 : AscB (l.take (posSB l x)) := h.sublist (List.take_sublist _ _)
    have h2 : AscB (l.drop (posSB l x)) := h.sublist (List.drop_sublist _ _)
    have h3 : ∀ a ∈ l.take (posSB l x), ∀ b ∈ l.drop (posSB l x), cmpS a b < 0 := by
      have := h
      rw [AscB, ← List.take_append_drop (posSB l x) l, List.pairwise_append] at this
      exact this.2.2
    unfold insAtB AscB
    rw [List.pairwise_append, List.pairwise_cons]
    refine ⟨h1, ⟨fun b hb => ?_, h2⟩, fun a ha b hb => ?_⟩
    · have h4 := pos_dropB l x b h hb
      have h5 : ¬ cmpS b x = 0 := fun e => hn ((cmpS_zero b x).1 e ▸ List.mem_of_mem_drop hb)
      have := wcmp_str.neg b x
      omega
    · rcases List.mem_cons.1 hb with rfl | hb
      · exact pos_takeB l b a ha
      · exact h3 a ha b hb
theorem insAll_ascB : ∀ (l acc : List ByteArray), AscB acc → AscB (insAllB acc l)
  | [], _, h => h
  | x :: l, _, h => insAll_ascB l _ (insS_ascB h x)
theorem insAll_memB : ∀ (l acc : List ByteArray) (z : ByteArray), z ∈ insAllB acc l ↔ z ∈ acc ∨ z ∈ l
  | [], acc, z => by simp [insAllB]
  | x :: l, acc, z => by
    unfold insAllB
    rw [insAll_memB l, insS_memB, List.mem_cons, or_assoc]
/-- A row in order, each once. -/
def ordB (l : List ByteArray) : List ByteArray := insAllB [] l
theorem ord_ascB (l : List ByteArray) : AscB (ordB l) := insAll_ascB l [] List.Pairwise.nil
theorem ord_memB (l : List ByteArray) (x : ByteArray) : x ∈ ordB l ↔ x ∈ l := by unfold ordB; rw [insAll_memB]; simp
theorem ord_extB {l m : List ByteArray} (h : ∀ x, x ∈ l ↔ x ∈ m) : ordB l = ordB m := asc_uniqueB _ _ (ord_ascB _) (ord_ascB _) (fun x => by rw [ord_memB, ord_memB]; exact h x)
theorem asc_ordB {l : List ByteArray} (h : AscB l) : ordB l = l := asc_uniqueB _ _ (ord_ascB _) h (ord_memB l)
theorem ord_filterB (l : List ByteArray) (p : ByteArray → Bool) : ordB (l.filter p) = (ordB l).filter p :=
  asc_uniqueB _ _ (ord_ascB _) ((ord_ascB l).filter _) (fun x => by simp [ord_memB])
theorem insAll_lenB : ∀ (l acc : List ByteArray), (insAllB acc l).length ≤ acc.length + l.length
  | [], acc => Nat.le_refl _
  | x :: r, acc => by
    have h1 := insAll_lenB r (insSB acc x)
    have h2 := insS_lenB acc x
    show (insAllB (insSB acc x) r).length ≤ acc.length + (r.length + 1)
    omega
theorem ord_lenB (l : List ByteArray) : (ordB l).length ≤ l.length := by have := insAll_lenB l []; simpa [ordB] using this
theorem filter_takeB {l : List ByteArray} {p : ByteArray → Bool} {k : Nat} (h : k < l.length) : (l.take (k + 1)).filter p = (l.take k).filter p ++ (if p l[k] = true then [l[k]] else []) := by
  rw [List.take_succ_eq_append_getElem h, List.filter_append]
  cases hp : p l[k] <;> simp [hp]
theorem filter_yesB {l : List ByteArray} {p : ByteArray → Bool} {k : Nat} (h : k < l.length) (hp : p l[k] = true) : (l.take (k + 1)).filter p = (l.take k).filter p ++ [l[k]] := by
  rw [filter_takeB h, if_pos hp]
theorem filter_noB {l : List ByteArray} {p : ByteArray → Bool} {k : Nat} (h : k < l.length) (hp : p l[k] = false) : (l.take (k + 1)).filter p = (l.take k).filter p := by
  rw [filter_takeB h, if_neg (by rw [hp]; exact Bool.false_ne_true), List.append_nil]
end Go.Proofs.Ythickpocfplcoaa
namespace Go.Proofs.Ythickpocfplcoaa
open Go.RowKit Go.Shelf

/-- The row of all texts, in order, each once. -/
def newB (l : List ByteArray) : List ByteArray := insAllB [] l
theorem new_asc (l : List ByteArray) : AscB (newB l) := insAll_ascB l [] List.Pairwise.nil
theorem new_mem (l : List ByteArray) (x : ByteArray) : x ∈ newB l ↔ x ∈ l := by unfold newB; rw [insAll_memB]; simp
theorem new_len (l : List ByteArray) : (newB l).length ≤ l.length := by have := insAll_lenB l []; simpa [newB] using this
theorem hasB_mem' (l : List ByteArray) (x : ByteArray) : hasB l x = true ↔ x ∈ l := hasB_mem l x
/-- Where a text is in a row; -1: it isn't. -/
def idxB : List ByteArray → ByteArray → Nat
  | [], _ => 0
  | a :: r, s => if a = s then 0 else idxB r s + 1
def placeB (l : List ByteArray) (s : ByteArray) : Int := if hasB l s = true then (idxB l s : Int) else -1
theorem idxB_lt : ∀ (l : List ByteArray) (s : ByteArray), s ∈ l → idxB l s < l.length
  | [], _, h => by cases h
  | a :: r, s, h => by
    unfold idxB
    by_cases e : a = s
    · rw [if_pos e]; simp
    · rw [if_neg e, List.length_cons]
      have := idxB_lt r s ((List.mem_cons.1 h).resolve_left (fun h' => e h'.symm))
      omega
theorem idxB_get : ∀ (l : List ByteArray) (s : ByteArray) (h : s ∈ l), l[idxB l s]'(idxB_lt l s h) = s
  | [], _, h => by cases h
  | a :: r, s, h => by
    by_cases e : a = s
    · have h0 : idxB (a :: r) s = 0 := by show (if a = s then 0 else idxB r s + 1) = 0; rw [if_pos e]
      simp only [h0, List.getElem_cons_zero]; exact e
    · have h1 : idxB (a :: r) s = idxB r s + 1 := by show (if a = s then 0 else idxB r s + 1) = _; rw [if_neg e]
      simp only [h1, List.getElem_cons_succ]
      exact idxB_get r s ((List.mem_cons.1 h).resolve_left (fun h' => e h'.symm))
/-- The first place at which a text is. -/
theorem idxB_first : ∀ (l : List ByteArray) (s : ByteArray) (k : Nat) (hk : k < l.length), l[k] = s → (∀ j (hj : j < l.length), j < k → ¬ l[j] = s) → idxB l s = k
  | [], _, _, hk, _, _ => by simp at hk
  | a :: r, s, 0, _, h, _ => by
    have h' : a = s := h
    show (if a = s then 0 else idxB r s + 1) = 0
    rw [if_pos h']
  | a :: r, s, k + 1, hk, h, h' => by
    have h0 : ¬ a = s := h' 0 (by simp) (by omega)
    show (if a = s then 0 else idxB r s + 1) = k + 1
    rw [if_neg h0, idxB_first r s k (by simpa using hk) (by simpa using h) (fun j hj hjk e => h' (j + 1) (by simp; omega) (by omega) e)]
theorem place_first {l : List ByteArray} {s : ByteArray} {k : Nat} (hk : k < l.length) (h : l[k] = s) (h' : ∀ j (hj : j < l.length), j < k → ¬ l[j] = s) : placeB l s = k := by
  unfold placeB
  rw [if_pos ((hasB_mem l s).2 (h ▸ List.getElem_mem hk)), idxB_first l s k hk h h']
theorem place_no {l : List ByteArray} {s : ByteArray} (h : ∀ j (hj : j < l.length), ¬ l[j] = s) : placeB l s = -1 := by
  unfold placeB
  rw [if_neg]
  intro h1
  obtain ⟨j, hj, e⟩ := List.getElem_of_mem ((hasB_mem l s).1 h1)
  exact h j hj e
theorem place_range (l : List ByteArray) (s : ByteArray) : -1 ≤ placeB l s ∧ placeB l s < l.length := by
  unfold placeB
  by_cases h : hasB l s = true
  · rw [if_pos h]; have := idxB_lt l s ((hasB_mem l s).1 h); omega
  · rw [if_neg h]; omega
/-- In a row in order: where binary search ends. -/
theorem place_asc {l : List ByteArray} (hl : AscB l) {s : ByteArray} {k : Nat} (hk : k < l.length) (h : l[k] = s) : placeB l s = k :=
  place_first hk h (fun j hj hjk e => by
    have := List.pairwise_iff_getElem.1 hl j k hj hk hjk
    rw [e, h] at this
    exact lt_irrefl'B s this)
theorem place_gap {l : List ByteArray} (_ : AscB l) {s : ByteArray} {k : Nat} (h1 : ∀ j (hj : j < l.length), j < k → cmpS l[j] s < 0) (h2 : ∀ j (hj : j < l.length), k ≤ j → ¬ cmpS l[j] s < 0) (h3 : ∀ hk : k < l.length, ¬ l[k] = s) (hl : AscB l) : placeB l s = -1 :=
  place_no (fun j hj e => by
    by_cases hjk : j < k
    · have := h1 j hj hjk
      rw [e] at this
      exact lt_irrefl'B s this
    · have hk : k < l.length := by omega
      by_cases hjk2 : j = k
      · subst hjk2; exact h3 hk e
      · have := List.pairwise_iff_getElem.1 hl k j hk hj (by omega)
        rw [e] at this
        exact h2 k hk (Nat.le_refl _) this)
/-- A rule: its kind, and numbers. -/
structure Ru where
  k : Int
  h : Int
  who : Int
  a : Int
  b : Int
  via : Int
deriving DecidableEq
abbrev ruv (r : Ru) : Value := .agg #[.int .i64 r.k, .int .i64 r.h, .int .i64 r.who, .int .i64 r.a, .int .i64 r.b, .int .i64 r.via]
def noRu : Ru := ⟨0, 0, 0, 0, 0, 0⟩
/-- A role's number, of principals and names in order; -1: it has none. -/
def roleN (a b : List ByteArray) (r : Rl) : Int := if placeB a r.o < 0 ∨ placeB b r.n < 0 then -1 else placeB a r.o * b.length + placeB b r.n
def ruleR (a b : List ByteArray) (s : St) : Ru := ⟨s.k, roleN a b s.h, if s.k = 1 then placeB a s.who else 0, if s.k = 1 then 0 else roleN a b s.a, if s.k = 4 then roleN a b s.b else 0, if s.k = 3 then placeB b s.via else 0⟩
def ruleOk (r : Ru) : Bool := decide (0 ≤ r.h ∧ 0 ≤ r.who ∧ 0 ≤ r.a ∧ 0 ≤ r.b ∧ 0 ≤ r.via)
/-- A statement's rule, and whether it has one. -/
def ruleN (a b : List ByteArray) (s : St) : Ru × Bool := if rightS s = true ∧ ruleOk (ruleR a b s) = true then (ruleR a b s, true) else (noRu, false)
/-- The role of a number. -/
def roleAt (a b : List ByteArray) (i : Int) : Rl := if h : 0 ≤ i ∧ i.toNat < a.length * b.length then ⟨a[i.toNat / b.length]'(Nat.div_lt_of_lt_mul (by rw [Nat.mul_comm]; exact h.2)), b[i.toNat % b.length]'(Nat.mod_lt _ (Nat.pos_of_ne_zero (fun e => by have := h.2; rw [e] at this; omega)))⟩ else noR
theorem roleN_range (a b : List ByteArray) (r : Rl) : -1 ≤ roleN a b r ∧ roleN a b r < a.length * b.length ∨ roleN a b r = -1 := by
  unfold roleN
  by_cases h : placeB a r.o < 0 ∨ placeB b r.n < 0
  · rw [if_pos h]; exact .inr rfl
  · rw [if_neg h]
    have h1 := place_range a r.o
    have h2 := place_range b r.n
    refine .inl ⟨?_, ?_⟩
    · have : 0 ≤ placeB a r.o * (b.length : Int) := Int.mul_nonneg (by omega) (by omega)
      omega
    · obtain ⟨x, hx⟩ := Int.eq_ofNat_of_zero_le (show 0 ≤ placeB a r.o by omega)
      obtain ⟨y, hy⟩ := Int.eq_ofNat_of_zero_le (show 0 ≤ placeB b r.n by omega)
      have hxa : x < a.length := by have := h1.2; rw [hx] at this; exact_mod_cast this
      have hyb : y < b.length := by have := h2.2; rw [hy] at this; exact_mod_cast this
      rw [hx, hy]
      have : x * b.length + b.length ≤ a.length * b.length := by
        rw [← Nat.succ_mul]; exact Nat.mul_le_mul_right _ hxa
      exact_mod_cast (show x * b.length + y < a.length * b.length by omega)
end Go.Proofs.Ythickpocfplcoaa
