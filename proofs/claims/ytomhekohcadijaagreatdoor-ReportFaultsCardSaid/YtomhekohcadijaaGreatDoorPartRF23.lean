/- slices.Grow and Concat at rows of roles, the row being the call's own (rl_GrowO, rl_Concat of RlConc, turned); slices.Clone of texts. query.Roles, policy.roles, to the letter. -/
import Derived.Test.YtomhekohcadijaaGreatDoorPartRF14
import Derived.Test.YtomhekohcadijaaGreatDoorPartRF16
import Derived.Test.YtomhekohcadijaaGreatDoorShelf
import Derived.Test.YtomhekohcadijaaGreatDoorPartRF8
namespace Go.Proofs.YtomhekohcadijaaGreatDoor
open Go.RowKit Go.Shelf

theorem own_base {w : World} {base base' size n : Nat} {e : TypeId} {v : Value} {xs : List Value} (h : w.ownsRow base e size v n xs) (hb : base' ≤ base) : w.ownsRow base' e size v n xs := by
  obtain ⟨h1, h2⟩ := h
  refine ⟨h1, ?_⟩
  rcases h2 with h2 | ⟨g, cap, cur, rfl, h3, h4⟩
  · exact .inl h2
  · exact .inr ⟨g, cap, cur, rfl, Nat.le_trans hb h3, h4⟩
theorem str_CloneO (v : Value) (l : List ByteArray) (w : World) (h : SlA w 1 v l.length (strs l)) (hl : l.length ≤ 100000) :
    Calls Tryz.prog 257 #[v] w fun e w' => ∃ v', e = .returned v' ∧ w'.ownsRow w.heap.size 9 1 v' l.length (strs l) ∧ Below w.heap.size w w' := by
  by_cases h0 : 0 < l.length
  · obtain ⟨b1, o1, c1, rfl, hc1, hm1, hb1, hx1⟩ := h.pos h0
    refine (Tryz.slices_Clone_string b1 o1 l.length c1 l w (Nat.le_refl _) (by omega) (fun j hj => by
      rw [hx1 j _ (strs_get hj), List.getD_eq_getElem?_getD, List.getElem?_eq_getElem hj]; rfl)).mono ?_
    rintro e w' ⟨v', he, hown, _, hb⟩
    rw [List.take_of_length_le (Nat.le_refl _)] at hown
    exact ⟨v', he, hown, hb⟩
  · obtain rfl : l = [] := List.eq_nil_of_length_eq_zero (by omega)
    obtain ⟨ao, ac, rfl⟩ := h.form
    cases ao with
    | none =>
      refine (Tryz.slices_Clone_string_nil _ ac w).mono ?_
      rintro e w' ⟨he, rfl⟩
      exact ⟨_, he, World.ownsRow_nil _ _ _ _, Below.refl _ _⟩
    | some a =>
      refine (Tryz.slices_Clone_string_zero a ac w).mono ?_
      rintro e w' ⟨v', he, hown, _, hb⟩
      exact ⟨v', he, hown, hb⟩
theorem rl_GrowO (n : Nat) (w : World) (hn : n ≤ 2000) : Calls Tryz.prog 293 #[.slice none 0 0, .int .i64 n] w fun e w' =>
    ∃ a cap, e = .returned (.slice a 0 cap) ∧ w'.ownsRow w.heap.size 78 2 (.slice a 0 cap) 0 [] ∧ Below w.heap.size w w' := by
  by_cases h0 : 0 < n
  · obtain ⟨inf, hinf, hz0, hz1, hz2⟩ := info_parts rl_info'
    refine (Any8.slices_Grow_grow Tryz.growR inf _ hinf hz0 (by omega) none 0 0 n [] w (Nat.le_refl _) (by omega) (by rw [hz2]; omega) (by omega) (by simp) (fun _ => rfl) (fun a h => by cases h)).mono ?_
    rintro e w' ⟨rfl, rfl⟩
    have hge := grownCap_ge w (0 + n) 0 78
    have hle := grownCap_le_maxLen w (0 + n) 0 78 (by simp only [maxLen]; omega)
    refine ⟨_, _, rfl, World.ownsRow_made w.drew _ _ (Nat.le_refl _) hle ?_, (below_drew (Below.refl _ _)).alloc (Nat.le_refl _) _⟩
    rw [Nat.zero_add] at hge hle ⊢
    simp [Builtin.zeroCells, Value.cells]
    rw [show Tryz.growR_ren.t 25 = 78 from rfl]
    omega
  · obtain rfl : n = 0 := by omega
    refine (Any8.slices_Grow_room Tryz.growR none 0 0 0 w (Nat.le_refl _) (by omega) (by omega) (by omega)).mono ?_
    rintro e w' ⟨rfl, rfl⟩
    exact ⟨_, _, rfl, World.ownsRow_nil _ _ _ _, Below.refl _ _⟩
set_option maxRecDepth 100000 in
set_option maxHeartbeats 4000000 in
theorem rl_ConcatO (g : Nat) (va vb : Value) (l m : List Rl) (w : World) (hg : Blk w g #[va, vb]) (ha : SlA w 2 va l.length (l.flatMap Rl.cells)) (hb : SlA w 2 vb m.length (m.flatMap Rl.cells)) (hl : l.length ≤ 1000) (hm : m.length ≤ 1000) :
    Calls Tryz.prog 254 #[.slice (some ⟨g, 0, none⟩) 2 2] w fun e w' => ∃ v, e = .returned v ∧ w'.ownsRow w.heap.size 78 2 v (l ++ m).length ((l ++ m).flatMap Rl.cells) ∧ Below w.heap.size w w' := by
  have HA := Lib.hid ha
  have HB := Lib.hid hb
  have HG := Lib.hid hg
  obtain ⟨ao, ac, hva⟩ := ha.form
  obtain ⟨bo, bc, hvb⟩ := hb.form
  subst hva hvb
  have GR : Hid (∀ W, Calls Tryz.prog 293 #[.slice none 0 0, .int .i64 ((l.length : Int) + (m.length : Int))] W fun e w' =>
      ∃ a cap, e = .returned (.slice a 0 cap) ∧ w'.ownsRow W.heap.size 78 2 (.slice a 0 cap) 0 [] ∧ Below W.heap.size W w') := Lib.hid (fun W => by
    have h := rl_GrowO (l.length + m.length) W (by omega)
    rw [Int.natCast_add] at h
    exact h)
  have c0 : w.cell? ⟨g, 0, none⟩ = some (.slice ao l.length ac) := (hg.1 0).trans rfl
  have c1 : w.cell? ⟨g, 1, none⟩ = some (.slice bo m.length bc) := (hg.1 1).trans rfl
  have hgw : g < w.heap.size := hg.2.2
  clear ha hb hg
  go_enter Tryz.func254, Tryz.ntmps254
  go_wp2
  go_loop [3, 11] (fun n i => (n = .int .i64 0 ∧ i = .int .i64 0) ∨ (n = .int .i64 l.length ∧ i = .int .i64 1) ∨ (n = .int .i64 ((l.length : Int) + (m.length : Int)) ∧ i = .int .i64 2)) (fun _ i => 2 - (intOf i).toNat)
  case atStart => exact .inl ⟨rfl, rfl⟩
  case round =>
    obtain ⟨rfl, rfl⟩ | ⟨rfl, rfl⟩ | ⟨rfl, rfl⟩ := hrel
    · have d : decide ((l.length : Int) < 0) = false := by (rw [decide_eq_false_iff_not]; omega)
      have hw : IntKind.i64.wrap ((0 : Int) + (l.length : Int)) = (l.length : Int) := by rw [Int.zero_add]; exact Go.IntWalk.i64_in _ (by omega)
      go_wp2
      exact ⟨.inr (.inl ⟨rfl, rfl⟩), by simp [intOf]⟩
    · have d : decide ((l.length : Int) + (m.length : Int) < 0) = false := by (rw [decide_eq_false_iff_not]; omega)
      have hw : IntKind.i64.wrap ((l.length : Int) + (m.length : Int)) = (l.length : Int) + (m.length : Int) := Go.IntWalk.i64_in _ (by omega)
      go_wp2
      exact ⟨.inr (.inr ⟨rfl, rfl⟩), by simp [intOf]⟩
    · go_wp2_with fail
      refine (GR.out _).mono ?_
      rintro e w1 ⟨a1, cap1, rfl, hown, hb1⟩
      have HO := Lib.hid hown
      have HB1 := Lib.hid hb1
      clear hown hb1 c0 c1 hgw
      go_wp2_with fail
      go_loopw [6, 27] (fun vo i wr => Hid (Below w.heap.size w wr) ∧ ((i = .int .i64 0 ∧ Hid (wr.ownsRow w.heap.size 78 2 vo 0 [])) ∨ (i = .int .i64 1 ∧ Hid (wr.ownsRow w.heap.size 78 2 vo l.length (l.flatMap Rl.cells))) ∨ (i = .int .i64 2 ∧ Hid (wr.ownsRow w.heap.size 78 2 vo (l.length + m.length) ((l ++ m).flatMap Rl.cells))))) (fun _ i _ => 2 - (intOf i).toNat)
      case atStart => exact ⟨HB1, .inl ⟨rfl, HO⟩⟩
      case round =>
        obtain ⟨HBR, ⟨rfl, HOR⟩ | ⟨rfl, HOR⟩ | ⟨rfl, HOR⟩⟩ := hrel
        · have hbk := HG.out.below HBR.out
          have c0 : wr.cell? ⟨g, 0, none⟩ = some (.slice ao l.length ac) := (hbk.1 0).trans rfl
          have hgw : g < wr.heap.size := hbk.2.2
          obtain ⟨xo, xc, rfl⟩ := own_form HOR.out
          clear hbk
          go_wp2_with (at_builtin; refine halt_ ?_)
          unfold Halt_
          refine app_row Tryz.underlying23 rl_info' rfl (by decide) (by decide) rfl _ _ rfl w.heap.size rfl HOR.out rfl (HA.out.below HBR.out) (rls_one _) (by omega) HBR.out.size ?_
          intro a' cap' w3 hown' hgrow
          have HO3 := Lib.hid (show w3.ownsRow w.heap.size 78 2 (.slice a' l.length cap') l.length (l.flatMap Rl.cells) by simpa using hown')
          have HB3 := Lib.hid (below_own HBR.out HOR.out hgrow HBR.out.size (Nat.le_refl _))
          clear hown' hgrow
          go_wp2_with fail
          exact ⟨⟨HB3, .inr (.inl ⟨rfl, HO3⟩)⟩, by simp [intOf]⟩
        · have hbk := HG.out.below HBR.out
          have c1 : wr.cell? ⟨g, 1, none⟩ = some (.slice bo m.length bc) := (hbk.1 1).trans rfl
          have hgw : g < wr.heap.size := hbk.2.2
          obtain ⟨xo, xc, rfl⟩ := own_form HOR.out
          clear hbk
          go_wp2_with (at_builtin; refine halt_ ?_)
          unfold Halt_
          refine app_row Tryz.underlying23 rl_info' rfl (by decide) (by decide) rfl _ _ rfl w.heap.size rfl HOR.out rfl (HB.out.below HBR.out) (rls_one _) (by omega) HBR.out.size ?_
          intro a' cap' w3 hown' hgrow
          have HO3 := Lib.hid (show w3.ownsRow w.heap.size 78 2 (.slice a' (l.length + m.length) cap') (l.length + m.length) ((l ++ m).flatMap Rl.cells) by rw [rl_flat]; exact hown')
          have HB3 := Lib.hid (below_own HBR.out HOR.out hgrow HBR.out.size (Nat.le_refl _))
          clear hown' hgrow
          go_wp2_with fail
          exact ⟨⟨HB3, .inr (.inr ⟨rfl, HO3⟩)⟩, by simp [intOf]⟩
        · obtain ⟨xo, xc, rfl⟩ := own_form HOR.out
          go_wp2_with fail
          go_ret
          exact ⟨_, rfl, by rw [List.length_append]; exact HOR.out, HBR.out⟩
end Go.Proofs.YtomhekohcadijaaGreatDoor
namespace Go.Proofs.YtomhekohcadijaaGreatDoor
open Go.RowKit Go.Shelf

theorem query_second (k : Int) (w : World) : Calls Tryz.prog 170 #[.int .i64 k] w fun e w' => e = .returned (.bool (decide (k = 5 ∨ k = 6))) ∧ w' = w := by
  by_cases h5 : k = 5
  · subst h5
    go_enter Tryz.func170, Tryz.ntmps170
    go_wp2
    go_ret
    exact ⟨rfl, rfl⟩
  · by_cases h6 : k = 6
    · subst h6
      go_enter Tryz.func170, Tryz.ntmps170
      go_wp2
      go_ret
      exact ⟨rfl, rfl⟩
    · have hd := Lib.hid (show decide (k = 5 ∨ k = 6) = false from decide_eq_false (fun h => h.elim h5 h6))
      have d5 : (k == 5) = false := by rw [beq_eq_false_iff_ne]; exact h5
      have d6 : (k == 6) = false := by rw [beq_eq_false_iff_ne]; exact h6
      go_enter Tryz.func170, Tryz.ntmps170
      go_wp2
      go_ret
      exact ⟨by rw [hd.out]; rfl, rfl⟩
theorem query_Roles (q : Qv) (w : World) :
    Calls Tryz.prog 256 #[qv q] w fun e w' => ∃ v, e = .returned v ∧ Sl w' 2 v (rolesQ q).length ((rolesQ q).flatMap Rl.cells) ∧ Below w.heap.size w w' := by
  have SE := Lib.hid (fun W => query_second q.k W)
  have RY := Lib.hid (fun (h : q.k = 5 ∨ q.k = 6) => show rolesQ q = [q.a, q.b] from if_pos h)
  have RN := Lib.hid (fun (h : ¬ (q.k = 5 ∨ q.k = 6)) => show rolesQ q = [q.a] from if_neg h)
  obtain ⟨k, ⟨a1, a2⟩, ⟨b1, b2⟩, v⟩ := q
  by_cases hk : k = 5 ∨ k = 6
  · have hd : decide (k = 5 ∨ k = 6) = true := decide_eq_true hk
    rw [hd] at SE
    rw [RY.out hk]
    clear RY RN hk hd
    go_enter Tryz.func256, Tryz.ntmps256
    go_wp2_with fail
    refine (SE.out _).mono ?_
    rintro e w1 ⟨rfl, rfl⟩
    go_wp2
    go_ret
    exact ⟨.slice (some ⟨w.heap.size + 1, 0, none⟩) 2 2, rfl, Sl.new _ [.string a1, .string a2, .string b1, .string b2] _ 2 2 (w.heap.size + 1) (by simp) rfl (by simp [maxLen]), ((Below.refl _ _).alloc (Nat.le_refl _) _).alloc (by simp) _⟩
  · have hd : decide (k = 5 ∨ k = 6) = false := decide_eq_false hk
    rw [hd] at SE
    rw [RN.out hk]
    clear RY RN hk hd
    go_enter Tryz.func256, Tryz.ntmps256
    go_wp2_with fail
    refine (SE.out _).mono ?_
    rintro e w1 ⟨rfl, rfl⟩
    go_wp2
    go_ret
    exact ⟨.slice (some ⟨w.heap.size + 1, 0, none⟩) 1 1, rfl, Sl.new _ [.string a1, .string a2] _ 2 1 (w.heap.size + 1) (by simp) rfl (by simp [maxLen]), ((Below.refl _ _).alloc (Nat.le_refl _) _).alloc (by simp) _⟩

def polRoles (l : List St) (g h : List Rl) (qs : List Qv) : List Rl := g ++ h ++ l.flatMap rolesS ++ qs.flatMap rolesQ
theorem rolesS_len (s : St) : (rolesS s).length ≤ 3 := by
  unfold rolesS
  split
  · simp
  · split <;> simp
theorem rolesQ_len (q : Qv) : (rolesQ q).length ≤ 2 := by
  unfold rolesQ
  split <;> simp
theorem push_roles {w wr w3 : World} {A : Array Value} {vo : Value} {n m : Nat} {rs ms : List Rl} {a' : Option Addr} {cap' : Nat} (ht : OneAt w A wr) (hown : wr.ownsRow (w.heap.size + 1) 78 2 vo n (rs.flatMap Rl.cells))
    (h : w3.ownsRow (w.heap.size + 1) 78 2 (.slice a' (n + m) cap') (n + m) (rs.flatMap Rl.cells ++ ms.flatMap Rl.cells)) (hg : wr.grownBy w3 vo.ownBlock) :
    w3.ownsRow (w.heap.size + 1) 78 2 (.slice a' (n + m) cap') (n + m) ((rs ++ ms).flatMap Rl.cells) ∧ OneAt w A w3 := by
  refine ⟨by rw [rl_flat]; exact h, ht.a.grown hg (own_gt_ne hown (Nat.lt_succ_self _)), ?_⟩
  exact below_own ht.low hown hg (by have := ht.low.size; omega) (Nat.le_succ _)
set_option maxRecDepth 100000 in
set_option maxHeartbeats 8000000 in
theorem policy_roles (v0 v1 v2 v3 : Value) (l : List St) (g h : List Rl) (qs : List Qv) (w : World) (hp : PolAt w v0 v1 v2 v3 l g h qs) (hl : l.length ≤ 100) (hg : g.length ≤ 100) (hh : h.length ≤ 100) (hq : qs.length ≤ 100) :
    Calls Tryz.prog 213 #[pv v0 v1 v2 v3] w fun e w' => ∃ v, e = .returned v ∧ SlA w' 2 v (polRoles l g h qs).length ((polRoles l g h qs).flatMap Rl.cells) ∧ (polRoles l g h qs).length ≤ 1000 ∧ Below w.heap.size w w' := by
  have HP := Lib.hid hp
  have CO := Lib.hid (fun b W (hb : Below w.heap.size w W) (hx : Blk W b #[v1, v2]) => rl_ConcatO b v1 v2 g h W hx (hp.rg.below hb) (hp.rh.below hb) (by omega) (by omega))
  obtain ⟨a0, c0, rfl⟩ := hp.rs.form
  obtain ⟨a1, c1, rfl⟩ := hp.rg.form
  obtain ⟨a2, c2, rfl⟩ := hp.rh.form
  obtain ⟨a3, c3, rfl⟩ := hp.rq.form
  have HT := Lib.hid (show OneAt w #[.slice a0 l.length c0, .slice a1 g.length c1, .slice a2 h.length c2, .slice a3 qs.length c3] (w.alloc (.cells #[.slice a0 l.length c0, .slice a1 g.length c1, .slice a2 h.length c2, .slice a3 qs.length c3] 26)) from ⟨Blk.new w _ _, (Below.refl _ _).alloc (Nat.le_refl _) _⟩)
  clear hp
  go_enter Tryz.func213, Tryz.ntmps213
  go_wp2_with fail
  refine (CO.out (w.heap.size + 1) _ (((Below.refl _ _).alloc (Nat.le_refl _) _).alloc (by simp) _) (by have := Blk.new (w.alloc (.cells #[.slice a0 l.length c0, .slice a1 g.length c1, .slice a2 h.length c2, .slice a3 qs.length c3] 26)) #[.slice a1 g.length c1, .slice a2 h.length c2] 23; simpa using this)).mono ?_
  rintro e w1 ⟨vo, rfl, hown, hb⟩
  obtain ⟨r0, hr0⟩ : ∃ r, r = g ++ h := ⟨_, rfl⟩
  rw [← hr0] at hown
  have HT := Lib.hid ((HT.out.alloc _).later hb)
  have HO := Lib.hid (own_base (base' := w.heap.size + 1) hown (by simp))
  obtain ⟨oo, oc, rfl⟩ := own_form hown
  clear hown hb CO
  have hn0 : r0.length ≤ 200 + 3 * 0 := by rw [hr0, List.length_append]; omega
  have HE0 := Lib.hid hr0
  clear hr0
  obtain ⟨ca, fa, za⟩ := HT.out.a
  go_wp2_with fail
  clear ca fa za
  go_loopw [3, 17] (fun vo i wr => ∃ (k : Nat) (rs : List Rl), k ≤ l.length ∧ i = .int .i64 k ∧ Hid (rs.length ≤ 200 + 3 * k) ∧ Hid (OneAt w #[.slice a0 l.length c0, .slice a1 g.length c1, .slice a2 h.length c2, .slice a3 qs.length c3] wr) ∧ Hid (wr.ownsRow (w.heap.size + 1) 78 2 vo rs.length (rs.flatMap Rl.cells)) ∧ Hid (rs = g ++ h ++ (l.take k).flatMap rolesS)) (fun _ i _ => l.length - (intOf i).toNat)
  case atStart => exact ⟨0, _, by omega, rfl, Lib.hid hn0, HT, HO, Lib.hid (by rw [HE0.out]; simp)⟩
  case round =>
    clear HT HO hn0 HE0
    obtain ⟨k, rs, hk, rfl, HC, HT, HO, HE⟩ := hrel
    obtain ⟨oo, oc, rfl⟩ := own_form HO.out
    have hrs := HC.out
    by_cases hlt : k < l.length
    · obtain ⟨b1, o1, e1, he1, hc1, hm1', hb1, hx1⟩ := HP.out.rs.pos (by omega)
      simp only [Value.slice.injEq, true_and] at he1
      obtain ⟨rfl, rfl⟩ := he1
      obtain ⟨p0, p1, p2, p3, p4, p5, p6, p7, p8⟩ := st_cell (w := wr) (fun j u hu => (HT.out.low.cell (p := ⟨b1, o1 + j, none⟩) hb1).trans (hx1 j u hu)) k hlt
      have hbr : b1 < wr.heap.size := Nat.lt_of_lt_of_le hb1 HT.out.low.size
      have HF := Lib.hid (flat_snocF rolesS hlt)
      have SR := Lib.hid (fun W => syn_Roles l[k] W)
      have hms := rolesS_len l[k]
      clear hx1
      generalize l[k] = x at *
      obtain ⟨xk, ⟨x1, x2⟩, xw, ⟨x3, x4⟩, ⟨x5, x6⟩, xv⟩ := x
      generalize rolesS ⟨xk, ⟨x1, x2⟩, xw, ⟨x3, x4⟩, ⟨x5, x6⟩, xv⟩ = ms at SR HF hms
      go_wp2_with fail
      refine (SR.out _).mono ?_
      rintro e w3 ⟨vz, rfl, hz, hb⟩
      have HT3 := Lib.hid ((HT.out.alloc _).later hb)
      have HO3 := Lib.hid (own_below (HO.out.alloc _) hb)
      obtain ⟨zo, zc, rfl⟩ := hz.form
      have HZ := Lib.hid hz
      clear hz hb SR
      go_wp2_with (at_builtin; refine halt_ ?_)
      unfold Halt_
      refine app_row Tryz.underlying23 rl_info' rfl (by decide) (by decide) rfl _ _ rfl (w.heap.size + 1) rfl HO3.out rfl HZ.out.a (rls_one _) (by omega) (by have := HT3.out.a.2.2; omega) ?_
      intro a' cap' w4 hown' hgrow
      obtain ⟨q1, q2⟩ := push_roles HT3.out HO3.out hown' hgrow
      have HO4 := Lib.hid (show w4.ownsRow (w.heap.size + 1) 78 2 (.slice a' (rs.length + ms.length) cap') (rs ++ ms).length ((rs ++ ms).flatMap Rl.cells) by rw [List.length_append]; exact q1)
      have HT4 := Lib.hid q2
      clear hown' hgrow q1 q2 HO3 HT3 HZ
      go_wp2_with fail
      exact ⟨⟨k + 1, rs ++ ms, by omega, by go_num, Lib.hid (by rw [List.length_append]; omega), HT4, HO4, Lib.hid (by rw [HF.out, HE.out]; simp only [List.append_assoc])⟩, by simp [intOf]; omega⟩
    · obtain ⟨ca, fa, za⟩ := HT.out.a
      have hn0 : rs.length ≤ 500 + 2 * 0 := by omega
      have HE0 := Lib.hid (show rs = g ++ h ++ l.flatMap rolesS by rw [HE.out, List.take_of_length_le (show l.length ≤ k by omega)])
      clear hrs HC hk HE
      go_wp2_with fail
      clear ca fa za
      go_loopw [3, 29] (fun vo i wr => ∃ (k : Nat) (rs : List Rl), k ≤ qs.length ∧ i = .int .i64 k ∧ Hid (rs.length ≤ 500 + 2 * k) ∧ Hid (OneAt w #[.slice a0 l.length c0, .slice a1 g.length c1, .slice a2 h.length c2, .slice a3 qs.length c3] wr) ∧ Hid (wr.ownsRow (w.heap.size + 1) 78 2 vo rs.length (rs.flatMap Rl.cells)) ∧ Hid (rs = g ++ h ++ l.flatMap rolesS ++ (qs.take k).flatMap rolesQ)) (fun _ i _ => qs.length - (intOf i).toNat)
      case atStart => exact ⟨0, _, by omega, rfl, Lib.hid hn0, HT, HO, Lib.hid (by rw [HE0.out]; simp)⟩
      case round =>
        clear HT HO hn0 HE0
        obtain ⟨k, rs, hk, rfl, HC, HT, HO, HE⟩ := hrel
        obtain ⟨oo, oc, rfl⟩ := own_form HO.out
        have hrs := HC.out
        by_cases hlt : k < qs.length
        · obtain ⟨b1, o1, e1, he1, hc1, hm1', hb1, hx1⟩ := HP.out.rq.pos (by omega)
          simp only [Value.slice.injEq, true_and] at he1
          obtain ⟨rfl, rfl⟩ := he1
          obtain ⟨p0, p1, p2, p3, p4, p5⟩ := q_cell (w := wr) (fun j u hu => (HT.out.low.cell (p := ⟨b1, o1 + j, none⟩) hb1).trans (hx1 j u hu)) k hlt
          have hbr : b1 < wr.heap.size := Nat.lt_of_lt_of_le hb1 HT.out.low.size
          have HF := Lib.hid (flat_snocF rolesQ hlt)
          have SR := Lib.hid (fun W => query_Roles qs[k] W)
          have hms := rolesQ_len qs[k]
          have hqo := HP.out.lq _ (List.getElem_mem hlt)
          obtain ⟨wo, wc, hw5⟩ : ∃ a c, qs[k].w = .slice a ((hqo.2.2).choose).length c := ((hqo.2.2).choose_spec.1).form
          generalize (hqo.2.2).choose.length = nw at hw5
          clear hx1 hqo
          generalize qs[k] = x at *
          obtain ⟨xk, ⟨x1, x2⟩, ⟨x3, x4⟩, xw⟩ := x
          dsimp only at hw5
          subst hw5
          generalize rolesQ ⟨xk, ⟨x1, x2⟩, ⟨x3, x4⟩, .slice wo nw wc⟩ = ms at SR HF hms
          go_wp2_with fail
          refine (SR.out _).mono ?_
          rintro e w3 ⟨vz, rfl, hz, hb⟩
          have HT3 := Lib.hid ((HT.out.alloc _).later hb)
          have HO3 := Lib.hid (own_below (HO.out.alloc _) hb)
          obtain ⟨zo, zc, rfl⟩ := hz.form
          have HZ := Lib.hid hz
          clear hz hb SR
          go_wp2_with (at_builtin; refine halt_ ?_)
          unfold Halt_
          refine app_row Tryz.underlying23 rl_info' rfl (by decide) (by decide) rfl _ _ rfl (w.heap.size + 1) rfl HO3.out rfl HZ.out.a (rls_one _) (by omega) (by have := HT3.out.a.2.2; omega) ?_
          intro a' cap' w4 hown' hgrow
          obtain ⟨q1, q2⟩ := push_roles HT3.out HO3.out hown' hgrow
          have HO4 := Lib.hid (show w4.ownsRow (w.heap.size + 1) 78 2 (.slice a' (rs.length + ms.length) cap') (rs ++ ms).length ((rs ++ ms).flatMap Rl.cells) by rw [List.length_append]; exact q1)
          have HT4 := Lib.hid q2
          clear hown' hgrow q1 q2 HO3 HT3 HZ
          go_wp2_with fail
          exact ⟨⟨k + 1, rs ++ ms, by omega, by go_num, Lib.hid (by rw [List.length_append]; omega), HT4, HO4, Lib.hid (by rw [HF.out, HE.out]; simp only [List.append_assoc])⟩, by simp [intOf]; omega⟩
        · have HA := Lib.hid (show rs = polRoles l g h qs by rw [HE.out, List.take_of_length_le (show qs.length ≤ k by omega)]; rfl)
          have HSL := Lib.hid (Sl.of_own HO.out).a
          go_wp2
          go_ret
          exact ⟨_, rfl, by rw [← HA.out]; exact HSL.out, by rw [← HA.out]; omega, HT.out.low⟩
end Go.Proofs.YtomhekohcadijaaGreatDoor
