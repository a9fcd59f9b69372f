/- slices.Grow and Concat at rows of roles, the row being the call's own (rl_GrowO, rl_Concat of RlConc, turned); slices.Clone of texts. query.Roles, policy.roles, to the letter. names.All, query.Prins, policy.Prins, policy.Names, to the letter (printed by gen_polprins.py). Plain laws of rows of roles in order (printed by gen_rlall.py out of OrdLaw, RefSort, StFns). slices.Compact and slices.SortFunc at rows of roles; policy.SortRoles (printed by gen_rlall.py out of Compact, SynSort). slices.SortFunc, slices.Clone at rows of roles; policy.SortRoles (printed by gen_rlall.py out of SynSort). -/
import Derived.Test.YtcmdhfccdkjenaaGreatDoorPart5
import Derived.Test.YtcmdhfccdkjenaaGreatDoorShelf
import Derived.Test.YtcmdhfccdkjenaaGreatDoorPart6
import Derived.Test.YtcmdhfccdkjenaaGreatDoorPart3
import Derived.Test.YtcmdhfccdkjenaaGreatDoorPart7
namespace Go.Proofs.YtcmdhfccdkjenaaGreatDoor
open Go.RowKit Go.Shelf

theorem own_base {w : World} {base base' size n : Nat} {e : TypeId} {v : Value} {xs : List Value} (h : w.ownsRow base e size v n xs) (hb : base' ≤ base) : w.ownsRow base' e size v n xs := by
  obtain ⟨h1, h2⟩ := h
  refine ⟨h1, ?_⟩
  rcases h2 with h2 | ⟨g, cap, cur, rfl, h3, h4⟩
  · exact .inl h2
  · exact .inr ⟨g, cap, cur, rfl, Nat.le_trans hb h3, h4⟩
/-- slices.Clone of a row of texts. -/
theorem str_CloneO (v : Value) (l : List ByteArray) (w : World) (h : SlA w 1 v l.length (strs l)) (hl : l.length ≤ 100000) :
    Calls Tryz.prog 124 #[v] w fun e w' => ∃ v', e = .returned v' ∧ w'.ownsRow w.heap.size 9 1 v' l.length (strs l) ∧ Below w.heap.size w w' := by
  by_cases h0 : 0 < l.length
  · obtain ⟨b1, o1, c1, rfl, hc1, hm1, hb1, hx1⟩ := h.pos h0
    refine (Tryz.slices_Clone_string b1 o1 l.length c1 l w (Nat.le_refl _) (by omega) (fun j hj => by
      rw [hx1 j _ (strs_get hj), List.getD_eq_getElem?_getD, List.getElem?_eq_getElem hj]; rfl)).mono ?_
    rintro e w' ⟨v', he, hown, _, hb⟩
    rw [List.take_of_length_le (Nat.le_refl _)] at hown
    exact ⟨v', he, hown, hb⟩
  · obtain rfl : l = [] := List.eq_nil_of_length_eq_zero (by omega)
    obtain ⟨ao, ac, rfl⟩ := h.form
    cases ao with
    | none =>
      refine (Tryz.slices_Clone_string_nil _ ac w).mono ?_
      rintro e w' ⟨he, rfl⟩
      exact ⟨_, he, World.ownsRow_nil _ _ _ _, Below.refl _ _⟩
    | some a =>
      refine (Tryz.slices_Clone_string_zero a ac w).mono ?_
      rintro e w' ⟨v', he, hown, _, hb⟩
      exact ⟨v', he, hown, hb⟩
theorem rl_GrowO (n : Nat) (w : World) (hn : n ≤ 2000) : Calls Tryz.prog 215 #[.slice none 0 0, .int .i64 n] w fun e w' =>
    ∃ a cap, e = .returned (.slice a 0 cap) ∧ w'.ownsRow w.heap.size 28 2 (.slice a 0 cap) 0 [] ∧ Below w.heap.size w w' := by
  by_cases h0 : 0 < n
  · obtain ⟨inf, hinf, hz0, hz1, hz2⟩ := info_parts rl_info'
    refine (Any8.slices_Grow_grow Tryz.growR inf _ hinf hz0 (by omega) none 0 0 n [] w (Nat.le_refl _) (by omega) (by rw [hz2]; omega) (by omega) (by simp) (fun _ => rfl) (fun a h => by cases h)).mono ?_
    rintro e w' ⟨rfl, rfl⟩
    have hge := grownCap_ge w (0 + n) 0 28
    have hle := grownCap_le_maxLen w (0 + n) 0 28 (by simp only [maxLen]; omega)
    refine ⟨_, _, rfl, World.ownsRow_made w.drew _ _ (Nat.le_refl _) hle ?_, (below_drew (Below.refl _ _)).alloc (Nat.le_refl _) _⟩
    rw [Nat.zero_add] at hge hle ⊢
    simp [Builtin.zeroCells, Value.cells]
    rw [show Tryz.growR_ren.t 25 = 28 from rfl]
    omega
  · obtain rfl : n = 0 := by omega
    refine (Any8.slices_Grow_room Tryz.growR none 0 0 0 w (Nat.le_refl _) (by omega) (by omega) (by omega)).mono ?_
    rintro e w' ⟨rfl, rfl⟩
    exact ⟨_, _, rfl, World.ownsRow_nil _ _ _ _, Below.refl _ _⟩
set_option maxRecDepth 100000 in
set_option maxHeartbeats 4000000 in
/-- slices.Concat of two rows. -/
theorem rl_ConcatO (g : Nat) (va vb : Value) (l m : List Rl) (w : World) (hg : Blk w g #[va, vb]) (ha : SlA w 2 va l.length (l.flatMap Rl.cells)) (hb : SlA w 2 vb m.length (m.flatMap Rl.cells)) (hl : l.length ≤ 1000) (hm : m.length ≤ 1000) :
    Calls Tryz.prog 179 #[.slice (some ⟨g, 0, none⟩) 2 2] w fun e w' => ∃ v, e = .returned v ∧ w'.ownsRow w.heap.size 28 2 v (l ++ m).length ((l ++ m).flatMap Rl.cells) ∧ Below w.heap.size w w' := by
  have HA := Lib.hid ha
  have HB := Lib.hid hb
  have HG := Lib.hid hg
  obtain ⟨ao, ac, hva⟩ := ha.form
  obtain ⟨bo, bc, hvb⟩ := hb.form
  subst hva hvb
  have GR : Hid (∀ W, Calls Tryz.prog 215 #[.slice none 0 0, .int .i64 ((l.length : Int) + (m.length : Int))] W fun e w' =>
      ∃ a cap, e = .returned (.slice a 0 cap) ∧ w'.ownsRow W.heap.size 28 2 (.slice a 0 cap) 0 [] ∧ Below W.heap.size W w') := Lib.hid (fun W => by
    have h := rl_GrowO (l.length + m.length) W (by omega)
    rw [Int.natCast_add] at h
    exact h)
  have c0 : w.cell? ⟨g, 0, none⟩ = some (.slice ao l.length ac) := (hg.1 0).trans rfl
  have c1 : w.cell? ⟨g, 1, none⟩ = some (.slice bo m.length bc) := (hg.1 1).trans rfl
  have hgw : g < w.heap.size := hg.2.2
  clear ha hb hg
  go_enter Tryz.func179, Tryz.ntmps179
  go_wp2
  go_loop [3, 11] (fun n i => (n = .int .i64 0 ∧ i = .int .i64 0) ∨ (n = .int .i64 l.length ∧ i = .int .i64 1) ∨ (n = .int .i64 ((l.length : Int) + (m.length : Int)) ∧ i = .int .i64 2)) (fun _ i => 2 - (intOf i).toNat)
  case atStart => exact .inl ⟨rfl, rfl⟩
  case round =>
    obtain ⟨rfl, rfl⟩ | ⟨rfl, rfl⟩ | ⟨rfl, rfl⟩ := hrel
    · have d : decide ((l.length : Int) < 0) = false := by (rw [decide_eq_false_iff_not]; omega)
      have hw : IntKind.i64.wrap ((0 : Int) + (l.length : Int)) = (l.length : Int) := by rw [Int.zero_add]; exact Go.IntWalk.i64_in _ (by omega)
      go_wp2
      exact ⟨.inr (.inl ⟨rfl, rfl⟩), by simp [intOf]⟩
    · have d : decide ((l.length : Int) + (m.length : Int) < 0) = false := by (rw [decide_eq_false_iff_not]; omega)
      have hw : IntKind.i64.wrap ((l.length : Int) + (m.length : Int)) = (l.length : Int) + (m.length : Int) := Go.IntWalk.i64_in _ (by omega)
      go_wp2
      exact ⟨.inr (.inr ⟨rfl, rfl⟩), by simp [intOf]⟩
    · go_wp2_with fail
      refine (GR.out _).mono ?_
      rintro e w1 ⟨a1, cap1, rfl, hown, hb1⟩
      have HO := Lib.hid hown
      have HB1 := Lib.hid hb1
      clear hown hb1 c0 c1 hgw
      go_wp2_with fail
      go_loopw [6, 27] (fun vo i wr => Hid (Below w.heap.size w wr) ∧ ((i = .int .i64 0 ∧ Hid (wr.ownsRow w.heap.size 28 2 vo 0 [])) ∨ (i = .int .i64 1 ∧ Hid (wr.ownsRow w.heap.size 28 2 vo l.length (l.flatMap Rl.cells))) ∨ (i = .int .i64 2 ∧ Hid (wr.ownsRow w.heap.size 28 2 vo (l.length + m.length) ((l ++ m).flatMap Rl.cells))))) (fun _ i _ => 2 - (intOf i).toNat)
      case atStart => exact ⟨HB1, .inl ⟨rfl, HO⟩⟩
      case round =>
        obtain ⟨HBR, ⟨rfl, HOR⟩ | ⟨rfl, HOR⟩ | ⟨rfl, HOR⟩⟩ := hrel
        · have hbk := HG.out.below HBR.out
          have c0 : wr.cell? ⟨g, 0, none⟩ = some (.slice ao l.length ac) := (hbk.1 0).trans rfl
          have hgw : g < wr.heap.size := hbk.2.2
          obtain ⟨xo, xc, rfl⟩ := own_form HOR.out
          clear hbk
          go_wp2_with (at_builtin; refine halt_ ?_)
          unfold Halt_
          refine app_row Tryz.underlying23 rl_info' rfl (by decide) (by decide) rfl _ _ rfl w.heap.size rfl HOR.out rfl (HA.out.below HBR.out) (rls_one _) (by omega) HBR.out.size ?_
          intro a' cap' w3 hown' hgrow
          have HO3 := Lib.hid (show w3.ownsRow w.heap.size 28 2 (.slice a' l.length cap') l.length (l.flatMap Rl.cells) by simpa using hown')
          have HB3 := Lib.hid (below_own HBR.out HOR.out hgrow HBR.out.size (Nat.le_refl _))
          clear hown' hgrow
          go_wp2_with fail
          exact ⟨⟨HB3, .inr (.inl ⟨rfl, HO3⟩)⟩, by simp [intOf]⟩
        · have hbk := HG.out.below HBR.out
          have c1 : wr.cell? ⟨g, 1, none⟩ = some (.slice bo m.length bc) := (hbk.1 1).trans rfl
          have hgw : g < wr.heap.size := hbk.2.2
          obtain ⟨xo, xc, rfl⟩ := own_form HOR.out
          clear hbk
          go_wp2_with (at_builtin; refine halt_ ?_)
          unfold Halt_
          refine app_row Tryz.underlying23 rl_info' rfl (by decide) (by decide) rfl _ _ rfl w.heap.size rfl HOR.out rfl (HB.out.below HBR.out) (rls_one _) (by omega) HBR.out.size ?_
          intro a' cap' w3 hown' hgrow
          have HO3 := Lib.hid (show w3.ownsRow w.heap.size 28 2 (.slice a' (l.length + m.length) cap') (l.length + m.length) ((l ++ m).flatMap Rl.cells) by rw [rl_flat]; exact hown')
          have HB3 := Lib.hid (below_own HBR.out HOR.out hgrow HBR.out.size (Nat.le_refl _))
          clear hown' hgrow
          go_wp2_with fail
          exact ⟨⟨HB3, .inr (.inr ⟨rfl, HO3⟩)⟩, by simp [intOf]⟩
        · obtain ⟨xo, xc, rfl⟩ := own_form HOR.out
          go_wp2_with fail
          go_ret
          exact ⟨_, rfl, by rw [List.length_append]; exact HOR.out, HBR.out⟩
end Go.Proofs.YtcmdhfccdkjenaaGreatDoor
namespace Go.Proofs.YtcmdhfccdkjenaaGreatDoor
open Go.RowKit Go.Shelf

theorem query_second (k : Int) (w : World) : Calls Tryz.prog 159 #[.int .i64 k] w fun e w' => e = .returned (.bool (decide (k = 5 ∨ k = 6))) ∧ w' = w := by
  by_cases h5 : k = 5
  · subst h5
    go_enter Tryz.func159, Tryz.ntmps159
    go_wp2
    go_ret
    exact ⟨rfl, rfl⟩
  · by_cases h6 : k = 6
    · subst h6
      go_enter Tryz.func159, Tryz.ntmps159
      go_wp2
      go_ret
      exact ⟨rfl, rfl⟩
    · have hd := Lib.hid (show decide (k = 5 ∨ k = 6) = false from decide_eq_false (fun h => h.elim h5 h6))
      have d5 : (k == 5) = false := by rw [beq_eq_false_iff_ne]; exact h5
      have d6 : (k == 6) = false := by rw [beq_eq_false_iff_ne]; exact h6
      go_enter Tryz.func159, Tryz.ntmps159
      go_wp2
      go_ret
      exact ⟨by rw [hd.out]; rfl, rfl⟩
theorem query_Roles (q : Qv) (w : World) :
    Calls Tryz.prog 208 #[qv q] w fun e w' => ∃ v, e = .returned v ∧ Sl w' 2 v (rolesQ q).length ((rolesQ q).flatMap Rl.cells) ∧ Below w.heap.size w w' := by
  have SE := Lib.hid (fun W => query_second q.k W)
  have RY := Lib.hid (fun (h : q.k = 5 ∨ q.k = 6) => show rolesQ q = [q.a, q.b] from if_pos h)
  have RN := Lib.hid (fun (h : ¬ (q.k = 5 ∨ q.k = 6)) => show rolesQ q = [q.a] from if_neg h)
  obtain ⟨k, ⟨a1, a2⟩, ⟨b1, b2⟩, v⟩ := q
  by_cases hk : k = 5 ∨ k = 6
  · have hd : decide (k = 5 ∨ k = 6) = true := decide_eq_true hk
    rw [hd] at SE
    rw [RY.out hk]
    clear RY RN hk hd
    go_enter Tryz.func208, Tryz.ntmps208
    go_wp2_with fail
    refine (SE.out _).mono ?_
    rintro e w1 ⟨rfl, rfl⟩
    go_wp2
    go_ret
    exact ⟨.slice (some ⟨w.heap.size + 1, 0, none⟩) 2 2, rfl, Sl.new _ [.string a1, .string a2, .string b1, .string b2] _ 2 2 (w.heap.size + 1) (by simp) rfl (by simp [maxLen]), ((Below.refl _ _).alloc (Nat.le_refl _) _).alloc (by simp) _⟩
  · have hd : decide (k = 5 ∨ k = 6) = false := decide_eq_false hk
    rw [hd] at SE
    rw [RN.out hk]
    clear RY RN hk hd
    go_enter Tryz.func208, Tryz.ntmps208
    go_wp2_with fail
    refine (SE.out _).mono ?_
    rintro e w1 ⟨rfl, rfl⟩
    go_wp2
    go_ret
    exact ⟨.slice (some ⟨w.heap.size + 1, 0, none⟩) 1 1, rfl, Sl.new _ [.string a1, .string a2] _ 2 1 (w.heap.size + 1) (by simp) rfl (by simp [maxLen]), ((Below.refl _ _).alloc (Nat.le_refl _) _).alloc (by simp) _⟩

/-- All roles that a policy has, as the program lists them. -/
def polRoles (l : List St) (g h : List Rl) (qs : List Qv) : List Rl := g ++ h ++ l.flatMap rolesS ++ qs.flatMap rolesQ
theorem rolesS_len (s : St) : (rolesS s).length ≤ 3 := by
  unfold rolesS
  split
  · simp
  · split <;> simp
theorem rolesQ_len (q : Qv) : (rolesQ q).length ≤ 2 := by
  unfold rolesQ
  split <;> simp
theorem push_roles {w wr w3 : World} {A : Array Value} {vo : Value} {n m : Nat} {rs ms : List Rl} {a' : Option Addr} {cap' : Nat} (ht : OneAt w A wr) (hown : wr.ownsRow (w.heap.size + 1) 28 2 vo n (rs.flatMap Rl.cells))
    (h : w3.ownsRow (w.heap.size + 1) 28 2 (.slice a' (n + m) cap') (n + m) (rs.flatMap Rl.cells ++ ms.flatMap Rl.cells)) (hg : wr.grownBy w3 vo.ownBlock) :
    w3.ownsRow (w.heap.size + 1) 28 2 (.slice a' (n + m) cap') (n + m) ((rs ++ ms).flatMap Rl.cells) ∧ OneAt w A w3 := by
  refine ⟨by rw [rl_flat]; exact h, ht.a.grown hg (own_gt_ne hown (Nat.lt_succ_self _)), ?_⟩
  exact below_own ht.low hown hg (by have := ht.low.size; omega) (Nat.le_succ _)
set_option maxRecDepth 100000 in
set_option maxHeartbeats 8000000 in
theorem policy_roles (v0 v1 v2 v3 : Value) (l : List St) (g h : List Rl) (qs : List Qv) (w : World) (hp : PolAt w v0 v1 v2 v3 l g h qs) (hl : l.length ≤ 100) (hg : g.length ≤ 100) (hh : h.length ≤ 100) (hq : qs.length ≤ 100) :
    Calls Tryz.prog 168 #[pv v0 v1 v2 v3] w fun e w' => ∃ v, e = .returned v ∧ SlA w' 2 v (polRoles l g h qs).length ((polRoles l g h qs).flatMap Rl.cells) ∧ (polRoles l g h qs).length ≤ 1000 ∧ Below w.heap.size w w' := by
  have HP := Lib.hid hp
  have CO := Lib.hid (fun b W (hb : Below w.heap.size w W) (hx : Blk W b #[v1, v2]) => rl_ConcatO b v1 v2 g h W hx (hp.rg.below hb) (hp.rh.below hb) (by omega) (by omega))
  obtain ⟨a0, c0, rfl⟩ := hp.rs.form
  obtain ⟨a1, c1, rfl⟩ := hp.rg.form
  obtain ⟨a2, c2, rfl⟩ := hp.rh.form
  obtain ⟨a3, c3, rfl⟩ := hp.rq.form
  have HT := Lib.hid (show OneAt w #[.slice a0 l.length c0, .slice a1 g.length c1, .slice a2 h.length c2, .slice a3 qs.length c3] (w.alloc (.cells #[.slice a0 l.length c0, .slice a1 g.length c1, .slice a2 h.length c2, .slice a3 qs.length c3] 26)) from ⟨Blk.new w _ _, (Below.refl _ _).alloc (Nat.le_refl _) _⟩)
  clear hp
  go_enter Tryz.func168, Tryz.ntmps168
  go_wp2_with fail
  refine (CO.out (w.heap.size + 1) _ (((Below.refl _ _).alloc (Nat.le_refl _) _).alloc (by simp) _) (by have := Blk.new (w.alloc (.cells #[.slice a0 l.length c0, .slice a1 g.length c1, .slice a2 h.length c2, .slice a3 qs.length c3] 26)) #[.slice a1 g.length c1, .slice a2 h.length c2] 23; simpa using this)).mono ?_
  rintro e w1 ⟨vo, rfl, hown, hb⟩
  obtain ⟨r0, hr0⟩ : ∃ r, r = g ++ h := ⟨_, rfl⟩
  rw [← hr0] at hown
  have HT := Lib.hid ((HT.out.alloc _).later hb)
  have HO := Lib.hid (own_base (base' := w.heap.size + 1) hown (by simp))
  obtain ⟨oo, oc, rfl⟩ := own_form hown
  clear hown hb CO
  have hn0 : r0.length ≤ 200 + 3 * 0 := by rw [hr0, List.length_append]; omega
  have HE0 := Lib.hid hr0
  clear hr0
  obtain ⟨ca, fa, za⟩ := HT.out.a
  go_wp2_with fail
  clear ca fa za
  go_loopw [3, 17] (fun vo i wr => ∃ (k : Nat) (rs : List Rl), k ≤ l.length ∧ i = .int .i64 k ∧ Hid (rs.length ≤ 200 + 3 * k) ∧ Hid (OneAt w #[.slice a0 l.length c0, .slice a1 g.length c1, .slice a2 h.length c2, .slice a3 qs.length c3] wr) ∧ Hid (wr.ownsRow (w.heap.size + 1) 28 2 vo rs.length (rs.flatMap Rl.cells)) ∧ Hid (rs = g ++ h ++ (l.take k).flatMap rolesS)) (fun _ i _ => l.length - (intOf i).toNat)
  case atStart => exact ⟨0, _, by omega, rfl, Lib.hid hn0, HT, HO, Lib.hid (by rw [HE0.out]; simp)⟩
  case round =>
    clear HT HO hn0 HE0
    obtain ⟨k, rs, hk, rfl, HC, HT, HO, HE⟩ := hrel
    obtain ⟨oo, oc, rfl⟩ := own_form HO.out
    have hrs := HC.out
    by_cases hlt : k < l.length
    · obtain ⟨b1, o1, e1, he1, hc1, hm1', hb1, hx1⟩ := HP.out.rs.pos (by omega)
      simp only [Value.slice.injEq, true_and] at he1
      obtain ⟨rfl, rfl⟩ := he1
      obtain ⟨p0, p1, p2, p3, p4, p5, p6, p7, p8⟩ := st_cell (w := wr) (fun j u hu => (HT.out.low.cell (p := ⟨b1, o1 + j, none⟩) hb1).trans (hx1 j u hu)) k hlt
      have hbr : b1 < wr.heap.size := Nat.lt_of_lt_of_le hb1 HT.out.low.size
      have HF := Lib.hid (flat_snocF rolesS hlt)
      have SR := Lib.hid (fun W => syn_Roles l[k] W)
      have hms := rolesS_len l[k]
      clear hx1
      generalize l[k] = x at *
      obtain ⟨xk, ⟨x1, x2⟩, xw, ⟨x3, x4⟩, ⟨x5, x6⟩, xv⟩ := x
      generalize rolesS ⟨xk, ⟨x1, x2⟩, xw, ⟨x3, x4⟩, ⟨x5, x6⟩, xv⟩ = ms at SR HF hms
      go_wp2_with fail
      refine (SR.out _).mono ?_
      rintro e w3 ⟨vz, rfl, hz, hb⟩
      have HT3 := Lib.hid ((HT.out.alloc _).later hb)
      have HO3 := Lib.hid (own_below (HO.out.alloc _) hb)
      obtain ⟨zo, zc, rfl⟩ := hz.form
      have HZ := Lib.hid hz
      clear hz hb SR
      go_wp2_with (at_builtin; refine halt_ ?_)
      unfold Halt_
      refine app_row Tryz.underlying23 rl_info' rfl (by decide) (by decide) rfl _ _ rfl (w.heap.size + 1) rfl HO3.out rfl HZ.out.a (rls_one _) (by omega) (by have := HT3.out.a.2.2; omega) ?_
      intro a' cap' w4 hown' hgrow
      obtain ⟨q1, q2⟩ := push_roles HT3.out HO3.out hown' hgrow
      have HO4 := Lib.hid (show w4.ownsRow (w.heap.size + 1) 28 2 (.slice a' (rs.length + ms.length) cap') (rs ++ ms).length ((rs ++ ms).flatMap Rl.cells) by rw [List.length_append]; exact q1)
      have HT4 := Lib.hid q2
      clear hown' hgrow q1 q2 HO3 HT3 HZ
      go_wp2_with fail
      exact ⟨⟨k + 1, rs ++ ms, by omega, by go_num, Lib.hid (by rw [List.length_append]; omega), HT4, HO4, Lib.hid (by rw [HF.out, HE.out]; simp only [List.append_assoc])⟩, by simp [intOf]; omega⟩
    · obtain ⟨ca, fa, za⟩ := HT.out.a
      have hn0 : rs.length ≤ 500 + 2 * 0 := by omega
      have HE0 := Lib.hid (show rs = g ++ h ++ l.flatMap rolesS by rw [HE.out, List.take_of_length_le (show l.length ≤ k by omega)])
      clear hrs HC hk HE
      go_wp2_with fail
      clear ca fa za
      go_loopw [3, 29] (fun vo i wr => ∃ (k : Nat) (rs : List Rl), k ≤ qs.length ∧ i = .int .i64 k ∧ Hid (rs.length ≤ 500 + 2 * k) ∧ Hid (OneAt w #[.slice a0 l.length c0, .slice a1 g.length c1, .slice a2 h.length c2, .slice a3 qs.length c3] wr) ∧ Hid (wr.ownsRow (w.heap.size + 1) 28 2 vo rs.length (rs.flatMap Rl.cells)) ∧ Hid (rs = g ++ h ++ l.flatMap rolesS ++ (qs.take k).flatMap rolesQ)) (fun _ i _ => qs.length - (intOf i).toNat)
      case atStart => exact ⟨0, _, by omega, rfl, Lib.hid hn0, HT, HO, Lib.hid (by rw [HE0.out]; simp)⟩
      case round =>
        clear HT HO hn0 HE0
        obtain ⟨k, rs, hk, rfl, HC, HT, HO, HE⟩ := hrel
        obtain ⟨oo, oc, rfl⟩ := own_form HO.out
        have hrs := HC.out
        by_cases hlt : k < qs.length
        · obtain ⟨b1, o1, e1, he1, hc1, hm1', hb1, hx1⟩ := HP.out.rq.pos (by omega)
          simp only [Value.slice.injEq, true_and] at he1
          obtain ⟨rfl, rfl⟩ := he1
          obtain ⟨p0, p1, p2, p3, p4, p5⟩ := q_cell (w := wr) (fun j u hu => (HT.out.low.cell (p := ⟨b1, o1 + j, none⟩) hb1).trans (hx1 j u hu)) k hlt
          have hbr : b1 < wr.heap.size := Nat.lt_of_lt_of_le hb1 HT.out.low.size
          have HF := Lib.hid (flat_snocF rolesQ hlt)
          have SR := Lib.hid (fun W => query_Roles qs[k] W)
          have hms := rolesQ_len qs[k]
          have hqo := HP.out.lq _ (List.getElem_mem hlt)
          obtain ⟨wo, wc, hw5⟩ : ∃ a c, qs[k].w = .slice a ((hqo.2.2).choose).length c := ((hqo.2.2).choose_spec.1).form
          generalize (hqo.2.2).choose.length = nw at hw5
          clear hx1 hqo
          generalize qs[k] = x at *
          obtain ⟨xk, ⟨x1, x2⟩, ⟨x3, x4⟩, xw⟩ := x
          dsimp only at hw5
          subst hw5
          generalize rolesQ ⟨xk, ⟨x1, x2⟩, ⟨x3, x4⟩, .slice wo nw wc⟩ = ms at SR HF hms
          go_wp2_with fail
          refine (SR.out _).mono ?_
          rintro e w3 ⟨vz, rfl, hz, hb⟩
          have HT3 := Lib.hid ((HT.out.alloc _).later hb)
          have HO3 := Lib.hid (own_below (HO.out.alloc _) hb)
          obtain ⟨zo, zc, rfl⟩ := hz.form
          have HZ := Lib.hid hz
          clear hz hb SR
          go_wp2_with (at_builtin; refine halt_ ?_)
          unfold Halt_
          refine app_row Tryz.underlying23 rl_info' rfl (by decide) (by decide) rfl _ _ rfl (w.heap.size + 1) rfl HO3.out rfl HZ.out.a (rls_one _) (by omega) (by have := HT3.out.a.2.2; omega) ?_
          intro a' cap' w4 hown' hgrow
          obtain ⟨q1, q2⟩ := push_roles HT3.out HO3.out hown' hgrow
          have HO4 := Lib.hid (show w4.ownsRow (w.heap.size + 1) 28 2 (.slice a' (rs.length + ms.length) cap') (rs ++ ms).length ((rs ++ ms).flatMap Rl.cells) by rw [List.length_append]; exact q1)
          have HT4 := Lib.hid q2
          clear hown' hgrow q1 q2 HO3 HT3 HZ
          go_wp2_with fail
          exact ⟨⟨k + 1, rs ++ ms, by omega, by go_num, Lib.hid (by rw [List.length_append]; omega), HT4, HO4, Lib.hid (by rw [HF.out, HE.out]; simp only [List.append_assoc])⟩, by simp [intOf]; omega⟩
        · have HA := Lib.hid (show rs = polRoles l g h qs by rw [HE.out, List.take_of_length_le (show qs.length ≤ k by omega)]; rfl)
          have HSL := Lib.hid (Sl.of_own HO.out).a
          go_wp2
          go_ret
          exact ⟨_, rfl, by rw [← HA.out]; exact HSL.out, by rw [← HA.out]; omega, HT.out.low⟩
end Go.Proofs.YtcmdhfccdkjenaaGreatDoor
namespace Go.Proofs.YtcmdhfccdkjenaaGreatDoor
open Go.RowKit Go.Shelf

theorem tab_All (b : Nat) (l : List ByteArray) (w : World) (h : TabAt w b l) (hl : l.length ≤ 100000) :
    Calls Tryz.prog 170 #[.pointer (some ⟨b, 0, none⟩)] w fun e w' => ∃ v, e = .returned v ∧ w'.ownsRow w.heap.size 9 1 v l.length (strs l) ∧ Below w.heap.size w w' := by
  obtain ⟨v, h1, h2, h3⟩ := h
  have CL := Lib.hid (str_CloneO v l w h2.a hl)
  obtain ⟨a, c, rfl⟩ := h2.form
  clear h2
  go_enter Tryz.func170, Tryz.ntmps170
  go_wp2_with fail
  refine CL.out.mono ?_
  rintro e w1 ⟨v1, rfl, ho, hb⟩
  have HO := Lib.hid ho
  have HB := Lib.hid hb
  clear ho hb CL h1 h3
  go_wp2
  go_ret
  exact ⟨_, rfl, HO.out, HB.out⟩
theorem query_Prins (q : Qv) (us : List ByteArray) (w : World) (h : SlA w 1 q.w us.length (strs us)) (hl : us.length ≤ 100000) :
    Calls Tryz.prog 169 #[qv q] w fun e w' => ∃ v, e = .returned v ∧ SlA w' 1 v us.length (strs us) ∧ Below w.heap.size w w' := by
  have CL := Lib.hid (fun W (hb : Below w.heap.size w W) => str_CloneO q.w us W (h.below hb) hl)
  obtain ⟨a, c, hw⟩ := h.form
  obtain ⟨xk, ⟨x1, x2⟩, ⟨x3, x4⟩, xw⟩ := q
  dsimp only at hw CL
  subst hw
  have HB0 := Lib.hid (show Below w.heap.size w (w.alloc (.cells #[.int .i64 xk, .string x1, .string x2, .string x3, .string x4, .slice a us.length c] 45)) from (Below.refl _ _).alloc (Nat.le_refl _) _)
  clear h
  go_enter Tryz.func169, Tryz.ntmps169
  go_wp2_with fail
  refine (CL.out _ HB0.out).mono ?_
  rintro e w1 ⟨v1, rfl, ho, hb⟩
  have HO := Lib.hid (Sl.of_own ho).a
  have HB := Lib.hid (HB0.out.trans (hb.mono HB0.out.size))
  clear ho hb CL
  go_wp2
  go_ret
  exact ⟨_, rfl, HO.out, HB.out⟩
theorem new_congr {l m : List ByteArray} (h : ∀ x, x ∈ l ↔ x ∈ m) : newB l = newB m :=
  asc_uniqueB _ _ (new_asc l) (new_asc m) (fun x => by rw [new_mem, new_mem]; exact h x)
theorem roles_mem (l : List St) (g h : List Rl) (qs : List Qv) (x : Rl) : x ∈ polRoles l g h qs ↔ x ∈ allRoles l g h qs := by
  unfold polRoles allRoles
  simp only [List.mem_append]
  constructor
  · rintro (((h1 | h1) | h1) | h1)
    · exact .inl (.inl (.inr h1))
    · exact .inl (.inr h1)
    · exact .inl (.inl (.inl h1))
    · exact .inr h1
  · rintro (((h1 | h1) | h1) | h1)
    · exact .inl (.inr h1)
    · exact .inl (.inl (.inl h1))
    · exact .inl (.inl (.inr h1))
    · exact .inr h1
theorem prins_congr (l : List St) (g h : List Rl) (qs : List Qv) (F : Qv → List ByteArray) : newB ((polRoles l g h qs).map Rl.o ++ l.flatMap whoS ++ qs.flatMap F) = newB (allPrins l g h qs F) :=
  new_congr (fun x => by unfold allPrins; simp only [List.mem_append, List.mem_map, roles_mem])
theorem names_congr (l : List St) (g h : List Rl) (qs : List Qv) : newB ((polRoles l g h qs).map Rl.n ++ l.flatMap viaS) = newB (allNames l g h qs) :=
  new_congr (fun x => by unfold allNames; simp only [List.mem_append, List.mem_map, roles_mem])
theorem push_txts {wA wr w3 : World} {vo : Value} {n m : Nat} {xs ms : List ByteArray} {a' : Option Addr} {cap' : Nat} (hb : Below wA.heap.size wA wr) (hown : wr.ownsRow wA.heap.size 9 1 vo n (strs xs))
    (h : w3.ownsRow wA.heap.size 9 1 (.slice a' (n + m) cap') (n + m) (strs xs ++ strs ms)) (hg : wr.grownBy w3 vo.ownBlock) :
    w3.ownsRow wA.heap.size 9 1 (.slice a' (n + m) cap') (n + m) (strs (xs ++ ms)) ∧ Below wA.heap.size wA w3 :=
  ⟨by rw [strs_app]; exact h, below_own hb hown hg hb.size (Nat.le_refl _)⟩
set_option maxRecDepth 100000 in
set_option maxHeartbeats 8000000 in
theorem policy_Prins (v0 v1 v2 v3 : Value) (l : List St) (g h : List Rl) (qs : List Qv) (w : World) (hp : PolAt w v0 v1 v2 v3 l g h qs) (hl : l.length ≤ 100) (hg : g.length ≤ 100) (hh : h.length ≤ 100) (hq : qs.length ≤ 100) (F : Qv → List ByteArray) (hF : WhoF w qs F) :
    Calls Tryz.prog 114 #[pv v0 v1 v2 v3] w fun e w' => ∃ v, e = .returned v ∧ w'.ownsRow w.heap.size 9 1 v (newB (allPrins l g h qs F)).length (strs (newB (allPrins l g h qs F))) ∧ (newB (allPrins l g h qs F)).length ≤ 6000 ∧ Below w.heap.size w w' := by
  have HP := Lib.hid hp
  have RO := Lib.hid (fun W (hb : Below w.heap.size w W) => policy_roles v0 v1 v2 v3 l g h qs W (hp.below hb) hl hg hh hq)
  have HFF := Lib.hid hF
  have RES := Lib.hid (prins_congr l g h qs F)
  obtain ⟨a0, c0, rfl⟩ := hp.rs.form
  obtain ⟨a1, c1, rfl⟩ := hp.rg.form
  obtain ⟨a2, c2, rfl⟩ := hp.rh.form
  obtain ⟨a3, c3, rfl⟩ := hp.rq.form
  have HT := Lib.hid (show OneAt w #[.slice a0 l.length c0, .slice a1 g.length c1, .slice a2 h.length c2, .slice a3 qs.length c3] (w.alloc (.cells #[.slice a0 l.length c0, .slice a1 g.length c1, .slice a2 h.length c2, .slice a3 qs.length c3] 26)) from ⟨Blk.new w _ _, (Below.refl _ _).alloc (Nat.le_refl _) _⟩)
  clear hp hF
  generalize polRoles l g h qs = rs at RO RES
  go_enter Tryz.func114, Tryz.ntmps114
  go_wp2_with fail
  refine (RO.out _ HT.out.low).mono ?_
  rintro e w1 ⟨vr, rfl, hr, hrl, hb⟩
  have HT := Lib.hid (HT.out.later hb)
  have HR := Lib.hid hr
  obtain ⟨ro, rc, rfl⟩ := hr.form
  clear hb hr RO
  obtain ⟨wA, hwA⟩ : ∃ wA, wA = w1 := ⟨_, rfl⟩
  subst hwA
  have HTA := Lib.hid HT.out
  go_wp2_with fail
  go_loopw [3, 13] (fun vo i wr => ∃ (k : Nat) (xs : List ByteArray), k ≤ rs.length ∧ i = .int .i64 k ∧ Hid (xs.length ≤ k) ∧ Hid (Below wA.heap.size wA wr) ∧ Hid (wr.ownsRow wA.heap.size 9 1 vo xs.length (strs xs)) ∧ Hid (xs = (rs.take k).map Rl.o)) (fun _ i _ => rs.length - (intOf i).toNat)
  case atStart => exact ⟨0, [], by omega, rfl, Lib.hid (by simp), Lib.hid (Below.refl _ _), Lib.hid (World.ownsRow_nil _ _ _ _), Lib.hid (by simp)⟩
  case round =>
    obtain ⟨k, xs, hk, rfl, HC, HB, HO, HE⟩ := hrel
    obtain ⟨oo, oc, rfl⟩ := own_form HO.out
    have hxs := HC.out
    by_cases hlt : k < rs.length
    · obtain ⟨b1, o1, e1, he1, hc1, hm1', hb1, hx1⟩ := HR.out.pos (by omega)
      simp only [Value.slice.injEq, true_and] at he1
      obtain ⟨rfl, rfl⟩ := he1
      obtain ⟨p0, p1⟩ := rl_cell (w := wr) (fun j u hu => (HB.out.cell (p := ⟨b1, o1 + j, none⟩) hb1).trans (hx1 j u hu)) k hlt
      have hbr : b1 < wr.heap.size := Nat.lt_of_lt_of_le hb1 HB.out.size
      have HF := Lib.hid (take_snoc hlt)
      clear hx1
      generalize rs[k] = x at *
      obtain ⟨x1, x2⟩ := x
      have hown := HO.out
      go_wp2_with (at_builtin; refine halt_ ?_)
      unfold Halt_
      refine app_own Tryz.underlying38 str_info rfl (by decide) (by decide) rfl _ _ rfl wA.heap.size rfl ((hown.alloc _).alloc _) [.string x1] rfl (heap_new2 _ _ _) rfl (str1 _) ?_ ?_ ?_
      · omega
      · have := HB.out.size; simp; omega
      intro a' cap' w3 hown' hgrow
      obtain ⟨q1, q2⟩ := own_push (x := x1) (HB.out.alloc HB.out.size _) (hown.alloc _) hown' hgrow
      have HO1 := Lib.hid q1
      have HB1 := Lib.hid q2
      clear hown hown' hgrow q1 q2
      go_wp2_with fail
      exact ⟨⟨k + 1, xs ++ [x1], by omega, by go_num, Lib.hid (by rw [List.length_append]; exact Nat.succ_le_succ hxs), HB1, HO1, Lib.hid (by rw [HF.out, List.map_append, HE.out]; rfl)⟩, by simp [intOf]; omega⟩
    · have HT := Lib.hid (HT.out.later HB.out)
      have hn0 : xs.length ≤ 1000 + 0 := by omega
      have HE0 := Lib.hid (show xs = rs.map Rl.o by rw [HE.out, List.take_of_length_le (show rs.length ≤ k by omega)])
      obtain ⟨ca, fa, za⟩ := HT.out.a
      clear hxs HC hk HE HR
      go_wp2_with fail
      clear ca fa za
      go_loopw [3, 26] (fun vo i wr => ∃ (k : Nat) (xs : List ByteArray), k ≤ l.length ∧ i = .int .i64 k ∧ Hid (xs.length ≤ 1000 + k) ∧ Hid (Below wA.heap.size wA wr) ∧ Hid (wr.ownsRow wA.heap.size 9 1 vo xs.length (strs xs)) ∧ Hid (xs = rs.map Rl.o ++ (l.take k).flatMap whoS)) (fun _ i _ => l.length - (intOf i).toNat)
      case atStart => exact ⟨0, _, by omega, rfl, Lib.hid hn0, HB, HO, Lib.hid (by rw [HE0.out]; simp)⟩
      case round =>
        clear HB HO hn0 HE0 HT
        obtain ⟨k, xs, hk, rfl, HC, HB, HO, HE⟩ := hrel
        obtain ⟨oo, oc, rfl⟩ := own_form HO.out
        have hxs := HC.out
        by_cases hlt : k < l.length
        · obtain ⟨b1, o1, e1, he1, hc1, hm1', hb1, hx1⟩ := HP.out.rs.pos (by omega)
          simp only [Value.slice.injEq, true_and] at he1
          obtain ⟨rfl, rfl⟩ := he1
          have hlow := HTA.out.low.trans (HB.out.mono HTA.out.low.size)
          obtain ⟨p0, p1, p2, p3, p4, p5, p6, p7, p8⟩ := st_cell (w := wr) (fun j u hu => (hlow.cell (p := ⟨b1, o1 + j, none⟩) hb1).trans (hx1 j u hu)) k hlt
          have hbr : b1 < wr.heap.size := Nat.lt_of_lt_of_le hb1 hlow.size
          have HF := Lib.hid (flat_snocF whoS hlt)
          clear hx1 hlow
          generalize l[k] = x at *
          obtain ⟨xk, ⟨x1, x2⟩, xw, ⟨x3, x4⟩, ⟨x5, x6⟩, xv⟩ := x
          by_cases hkk : xk = 1
          · have d1 : (xk == 1) = true := by simp [hkk]
            have HK := Lib.hid (show whoS ⟨xk, ⟨x1, x2⟩, xw, ⟨x3, x4⟩, ⟨x5, x6⟩, xv⟩ = [xw] from if_pos hkk)
            clear hkk
            have hown := HO.out
            go_wp2_with (at_builtin; refine halt_ ?_)
            unfold Halt_
            refine app_own Tryz.underlying38 str_info rfl (by decide) (by decide) rfl _ _ rfl wA.heap.size rfl ((hown.alloc _).alloc _) [.string xw] rfl (heap_new2 _ _ _) rfl (str1 _) ?_ ?_ ?_
            · omega
            · have := HB.out.size; simp; omega
            intro a' cap' w3 hown' hgrow
            obtain ⟨q1, q2⟩ := own_push (x := xw) (HB.out.alloc HB.out.size _) (hown.alloc _) hown' hgrow
            have HO1 := Lib.hid q1
            have HB1 := Lib.hid q2
            clear hown hown' hgrow q1 q2
            go_wp2_with fail
            exact ⟨⟨k + 1, xs ++ [xw], by omega, by go_num, Lib.hid (by rw [List.length_append]; exact Nat.succ_le_succ hxs), HB1, HO1, Lib.hid (by rw [HF.out, HK.out, HE.out, List.append_assoc])⟩, by simp [intOf]; omega⟩
          · have d1 : (xk == 1) = false := by simp [hkk]
            have HK := Lib.hid (show whoS ⟨xk, ⟨x1, x2⟩, xw, ⟨x3, x4⟩, ⟨x5, x6⟩, xv⟩ = [] from if_neg hkk)
            clear hkk
            have HO1 := Lib.hid (HO.out.alloc (.cells #[.int .i64 xk, .string x1, .string x2, .string xw, .string x3, .string x4, .string x5, .string x6, .string xv] 35))
            have HB1 := Lib.hid (HB.out.alloc HB.out.size (.cells #[.int .i64 xk, .string x1, .string x2, .string xw, .string x3, .string x4, .string x5, .string x6, .string xv] 35))
            go_wp2_with fail
            exact ⟨⟨k + 1, xs, by omega, by go_num, Lib.hid (by omega), HB1, HO1, Lib.hid (by rw [HF.out, HK.out, HE.out, List.append_nil])⟩, by simp [intOf]; omega⟩
        · have HT := Lib.hid (HTA.out.later HB.out)
          have hn0 : xs.length ≤ 1100 + 40 * 0 := by omega
          have HE0 := Lib.hid (show xs = rs.map Rl.o ++ l.flatMap whoS by rw [HE.out, List.take_of_length_le (show l.length ≤ k by omega)])
          obtain ⟨ca, fa, za⟩ := HT.out.a
          clear hxs HC hk HE
          go_wp2_with fail
          clear ca fa za
          go_loopw [3, 42] (fun vo i wr => ∃ (k : Nat) (xs : List ByteArray), k ≤ qs.length ∧ i = .int .i64 k ∧ Hid (xs.length ≤ 1100 + 40 * k) ∧ Hid (Below wA.heap.size wA wr) ∧ Hid (wr.ownsRow wA.heap.size 9 1 vo xs.length (strs xs)) ∧ Hid (xs = rs.map Rl.o ++ l.flatMap whoS ++ (qs.take k).flatMap F)) (fun _ i _ => qs.length - (intOf i).toNat)
          case atStart => exact ⟨0, _, by omega, rfl, Lib.hid hn0, HB, HO, Lib.hid (by rw [HE0.out]; simp)⟩
          case round =>
            clear HB HO hn0 HE0 HT
            obtain ⟨k, xs, hk, rfl, HC, HB, HO, HE⟩ := hrel
            obtain ⟨oo, oc, rfl⟩ := own_form HO.out
            have hxs := HC.out
            by_cases hlt : k < qs.length
            · obtain ⟨b1, o1, e1, he1, hc1, hm1', hb1, hx1⟩ := HP.out.rq.pos (by omega)
              simp only [Value.slice.injEq, true_and] at he1
              obtain ⟨rfl, rfl⟩ := he1
              have hlow := HTA.out.low.trans (HB.out.mono HTA.out.low.size)
              obtain ⟨p0, p1, p2, p3, p4, p5⟩ := q_cell (w := wr) (fun j u hu => (hlow.cell (p := ⟨b1, o1 + j, none⟩) hb1).trans (hx1 j u hu)) k hlt
              have hbr : b1 < wr.heap.size := Nat.lt_of_lt_of_le hb1 hlow.size
              have HF := Lib.hid (flat_snocF F hlt)
              obtain ⟨hu1, hu2⟩ := HFF.out _ (List.getElem_mem hlt)
              have QP := Lib.hid (fun W (hb : Below w.heap.size w W) => query_Prins qs[k] (F qs[k]) W (hu1.below hb) (by omega))
              have HLW := Lib.hid hlow
              generalize F qs[k] = us at hu1 hu2 HF QP
              obtain ⟨wo, wc, hw5⟩ := hu1.form
              clear hx1 hlow hu1
              generalize hnw : us.length = nw at hw5 hu2 QP
              have HNW := Lib.hid hnw
              clear hnw
              generalize qs[k] = x at *
              obtain ⟨xk, ⟨x1, x2⟩, ⟨x3, x4⟩, xw⟩ := x
              dsimp only at hw5
              subst hw5
              go_wp2_with fail
              refine (QP.out _ (HLW.out.alloc HLW.out.size _)).mono ?_
              rintro e w3 ⟨vz, rfl, hz, hb⟩
              have HO3 := Lib.hid (own_below (HO.out.alloc _) hb)
              have HB3 := Lib.hid ((HB.out.alloc HB.out.size _).trans (hb.mono (HB.out.alloc HB.out.size _).size))
              obtain ⟨zo, zc, rfl⟩ := hz.form
              have HZ := Lib.hid hz
              clear hz hb QP HLW
              go_wp2_with (at_builtin; refine halt_ ?_)
              unfold Halt_
              refine app_row Tryz.underlying38 str_info rfl (by decide) (by decide) rfl _ _ rfl wA.heap.size rfl HO3.out rfl HZ.out (strs_one _) (by omega) HB3.out.size ?_
              intro a' cap' w4 hown' hgrow
              obtain ⟨q1, q2⟩ := push_txts HB3.out HO3.out hown' hgrow
              have HO4 := Lib.hid (show w4.ownsRow wA.heap.size 9 1 (.slice a' (xs.length + nw) cap') (xs ++ us).length (strs (xs ++ us)) by rw [List.length_append, HNW.out]; exact q1)
              have HB4 := Lib.hid q2
              clear hown' hgrow q1 q2 HO3 HB3 HZ
              go_wp2_with fail
              exact ⟨⟨k + 1, xs ++ us, by omega, by go_num, Lib.hid (by rw [List.length_append, HNW.out]; omega), HB4, HO4, Lib.hid (by rw [HF.out, HE.out]; simp only [List.append_assoc])⟩, by simp [intOf]; omega⟩
            · have HXS := Lib.hid (show xs = rs.map Rl.o ++ l.flatMap whoS ++ qs.flatMap F by rw [HE.out, List.take_of_length_le (show qs.length ≤ k by omega)])
              have hxl : xs.length ≤ 6000 := by omega
              have NN := Lib.hid (names_New _ xs wr (Sl.of_own HO.out).a (by omega))
              rw [← HXS.out] at RES
              have hnl := new_len xs
              have HLW := Lib.hid (HTA.out.low.trans (HB.out.mono HTA.out.low.size))
              clear HC hk HE HO HXS
              go_wp2_with fail
              refine NN.out.mono ?_
              rintro e w4 ⟨b, rfl, ht, _, hb⟩
              have AL := Lib.hid (tab_All b (newB xs) w4 ht (by omega))
              have HLW := Lib.hid (HLW.out.trans (hb.mono HLW.out.size))
              clear ht hb NN
              go_wp2_with fail
              refine AL.out.mono ?_
              rintro e w5 ⟨v5, rfl, ho, hb⟩
              have HO5 := Lib.hid (own_base ho HLW.out.size)
              have HLW := Lib.hid (HLW.out.trans (hb.mono HLW.out.size))
              clear ho hb AL
              go_wp2
              go_ret
              exact ⟨_, rfl, by rw [← RES.out]; exact HO5.out, by rw [← RES.out]; omega, HLW.out⟩
set_option maxRecDepth 100000 in
set_option maxHeartbeats 8000000 in
theorem policy_Names (v0 v1 v2 v3 : Value) (l : List St) (g h : List Rl) (qs : List Qv) (w : World) (hp : PolAt w v0 v1 v2 v3 l g h qs) (hl : l.length ≤ 100) (hg : g.length ≤ 100) (hh : h.length ≤ 100) (hq : qs.length ≤ 100) :
    Calls Tryz.prog 115 #[pv v0 v1 v2 v3] w fun e w' => ∃ v, e = .returned v ∧ w'.ownsRow w.heap.size 9 1 v (newB (allNames l g h qs)).length (strs (newB (allNames l g h qs))) ∧ (newB (allNames l g h qs)).length ≤ 6000 ∧ Below w.heap.size w w' := by
  have HP := Lib.hid hp
  have RO := Lib.hid (fun W (hb : Below w.heap.size w W) => policy_roles v0 v1 v2 v3 l g h qs W (hp.below hb) hl hg hh hq)
  skip
  have RES := Lib.hid (names_congr l g h qs)
  obtain ⟨a0, c0, rfl⟩ := hp.rs.form
  obtain ⟨a1, c1, rfl⟩ := hp.rg.form
  obtain ⟨a2, c2, rfl⟩ := hp.rh.form
  obtain ⟨a3, c3, rfl⟩ := hp.rq.form
  have HT := Lib.hid (show OneAt w #[.slice a0 l.length c0, .slice a1 g.length c1, .slice a2 h.length c2, .slice a3 qs.length c3] (w.alloc (.cells #[.slice a0 l.length c0, .slice a1 g.length c1, .slice a2 h.length c2, .slice a3 qs.length c3] 26)) from ⟨Blk.new w _ _, (Below.refl _ _).alloc (Nat.le_refl _) _⟩)
  clear hp
  generalize polRoles l g h qs = rs at RO RES
  go_enter Tryz.func115, Tryz.ntmps115
  go_wp2_with fail
  refine (RO.out _ HT.out.low).mono ?_
  rintro e w1 ⟨vr, rfl, hr, hrl, hb⟩
  have HT := Lib.hid (HT.out.later hb)
  have HR := Lib.hid hr
  obtain ⟨ro, rc, rfl⟩ := hr.form
  clear hb hr RO
  obtain ⟨wA, hwA⟩ : ∃ wA, wA = w1 := ⟨_, rfl⟩
  subst hwA
  have HTA := Lib.hid HT.out
  go_wp2_with fail
  go_loopw [3, 11] (fun vo i wr => ∃ (k : Nat) (xs : List ByteArray), k ≤ rs.length ∧ i = .int .i64 k ∧ Hid (xs.length ≤ k) ∧ Hid (Below wA.heap.size wA wr) ∧ Hid (wr.ownsRow wA.heap.size 9 1 vo xs.length (strs xs)) ∧ Hid (xs = (rs.take k).map Rl.n)) (fun _ i _ => rs.length - (intOf i).toNat)
  case atStart => exact ⟨0, [], by omega, rfl, Lib.hid (by simp), Lib.hid (Below.refl _ _), Lib.hid (World.ownsRow_nil _ _ _ _), Lib.hid (by simp)⟩
  case round =>
    obtain ⟨k, xs, hk, rfl, HC, HB, HO, HE⟩ := hrel
    obtain ⟨oo, oc, rfl⟩ := own_form HO.out
    have hxs := HC.out
    by_cases hlt : k < rs.length
    · obtain ⟨b1, o1, e1, he1, hc1, hm1', hb1, hx1⟩ := HR.out.pos (by omega)
      simp only [Value.slice.injEq, true_and] at he1
      obtain ⟨rfl, rfl⟩ := he1
      obtain ⟨p0, p1⟩ := rl_cell (w := wr) (fun j u hu => (HB.out.cell (p := ⟨b1, o1 + j, none⟩) hb1).trans (hx1 j u hu)) k hlt
      have hbr : b1 < wr.heap.size := Nat.lt_of_lt_of_le hb1 HB.out.size
      have HF := Lib.hid (take_snoc hlt)
      clear hx1
      generalize rs[k] = x at *
      obtain ⟨x1, x2⟩ := x
      have hown := HO.out
      go_wp2_with (at_builtin; refine halt_ ?_)
      unfold Halt_
      refine app_own Tryz.underlying38 str_info rfl (by decide) (by decide) rfl _ _ rfl wA.heap.size rfl ((hown.alloc _).alloc _) [.string x2] rfl (heap_new2 _ _ _) rfl (str1 _) ?_ ?_ ?_
      · omega
      · have := HB.out.size; simp; omega
      intro a' cap' w3 hown' hgrow
      obtain ⟨q1, q2⟩ := own_push (x := x2) (HB.out.alloc HB.out.size _) (hown.alloc _) hown' hgrow
      have HO1 := Lib.hid q1
      have HB1 := Lib.hid q2
      clear hown hown' hgrow q1 q2
      go_wp2_with fail
      exact ⟨⟨k + 1, xs ++ [x2], by omega, by go_num, Lib.hid (by rw [List.length_append]; exact Nat.succ_le_succ hxs), HB1, HO1, Lib.hid (by rw [HF.out, List.map_append, HE.out]; rfl)⟩, by simp [intOf]; omega⟩
    · have HT := Lib.hid (HT.out.later HB.out)
      have hn0 : xs.length ≤ 1000 + 0 := by omega
      have HE0 := Lib.hid (show xs = rs.map Rl.n by rw [HE.out, List.take_of_length_le (show rs.length ≤ k by omega)])
      obtain ⟨ca, fa, za⟩ := HT.out.a
      clear hxs HC hk HE HR
      go_wp2_with fail
      clear ca fa za
      go_loopw [3, 24] (fun vo i wr => ∃ (k : Nat) (xs : List ByteArray), k ≤ l.length ∧ i = .int .i64 k ∧ Hid (xs.length ≤ 1000 + k) ∧ Hid (Below wA.heap.size wA wr) ∧ Hid (wr.ownsRow wA.heap.size 9 1 vo xs.length (strs xs)) ∧ Hid (xs = rs.map Rl.n ++ (l.take k).flatMap viaS)) (fun _ i _ => l.length - (intOf i).toNat)
      case atStart => exact ⟨0, _, by omega, rfl, Lib.hid hn0, HB, HO, Lib.hid (by rw [HE0.out]; simp)⟩
      case round =>
        clear HB HO hn0 HE0 HT
        obtain ⟨k, xs, hk, rfl, HC, HB, HO, HE⟩ := hrel
        obtain ⟨oo, oc, rfl⟩ := own_form HO.out
        have hxs := HC.out
        by_cases hlt : k < l.length
        · obtain ⟨b1, o1, e1, he1, hc1, hm1', hb1, hx1⟩ := HP.out.rs.pos (by omega)
          simp only [Value.slice.injEq, true_and] at he1
          obtain ⟨rfl, rfl⟩ := he1
          have hlow := HTA.out.low.trans (HB.out.mono HTA.out.low.size)
          obtain ⟨p0, p1, p2, p3, p4, p5, p6, p7, p8⟩ := st_cell (w := wr) (fun j u hu => (hlow.cell (p := ⟨b1, o1 + j, none⟩) hb1).trans (hx1 j u hu)) k hlt
          have hbr : b1 < wr.heap.size := Nat.lt_of_lt_of_le hb1 hlow.size
          have HF := Lib.hid (flat_snocF viaS hlt)
          clear hx1 hlow
          generalize l[k] = x at *
          obtain ⟨xk, ⟨x1, x2⟩, xw, ⟨x3, x4⟩, ⟨x5, x6⟩, xv⟩ := x
          by_cases hkk : xk = 3
          · have d1 : (xk == 3) = true := by simp [hkk]
            have HK := Lib.hid (show viaS ⟨xk, ⟨x1, x2⟩, xw, ⟨x3, x4⟩, ⟨x5, x6⟩, xv⟩ = [xv] from if_pos hkk)
            clear hkk
            have hown := HO.out
            go_wp2_with (at_builtin; refine halt_ ?_)
            unfold Halt_
            refine app_own Tryz.underlying38 str_info rfl (by decide) (by decide) rfl _ _ rfl wA.heap.size rfl ((hown.alloc _).alloc _) [.string xv] rfl (heap_new2 _ _ _) rfl (str1 _) ?_ ?_ ?_
            · omega
            · have := HB.out.size; simp; omega
            intro a' cap' w3 hown' hgrow
            obtain ⟨q1, q2⟩ := own_push (x := xv) (HB.out.alloc HB.out.size _) (hown.alloc _) hown' hgrow
            have HO1 := Lib.hid q1
            have HB1 := Lib.hid q2
            clear hown hown' hgrow q1 q2
            go_wp2_with fail
            exact ⟨⟨k + 1, xs ++ [xv], by omega, by go_num, Lib.hid (by rw [List.length_append]; exact Nat.succ_le_succ hxs), HB1, HO1, Lib.hid (by rw [HF.out, HK.out, HE.out, List.append_assoc])⟩, by simp [intOf]; omega⟩
          · have d1 : (xk == 3) = false := by simp [hkk]
            have HK := Lib.hid (show viaS ⟨xk, ⟨x1, x2⟩, xw, ⟨x3, x4⟩, ⟨x5, x6⟩, xv⟩ = [] from if_neg hkk)
            clear hkk
            have HO1 := Lib.hid (HO.out.alloc (.cells #[.int .i64 xk, .string x1, .string x2, .string xw, .string x3, .string x4, .string x5, .string x6, .string xv] 35))
            have HB1 := Lib.hid (HB.out.alloc HB.out.size (.cells #[.int .i64 xk, .string x1, .string x2, .string xw, .string x3, .string x4, .string x5, .string x6, .string xv] 35))
            go_wp2_with fail
            exact ⟨⟨k + 1, xs, by omega, by go_num, Lib.hid (by omega), HB1, HO1, Lib.hid (by rw [HF.out, HK.out, HE.out, List.append_nil])⟩, by simp [intOf]; omega⟩
        · have HXS := Lib.hid (show xs = rs.map Rl.n ++ l.flatMap viaS by rw [HE.out, List.take_of_length_le (show l.length ≤ k by omega)])
          have hxl : xs.length ≤ 6000 := by omega
          have NN := Lib.hid (names_New _ xs wr (Sl.of_own HO.out).a (by omega))
          rw [← HXS.out] at RES
          have hnl := new_len xs
          have HLW := Lib.hid (HTA.out.low.trans (HB.out.mono HTA.out.low.size))
          clear HC hk HE HO HXS
          go_wp2_with fail
          refine NN.out.mono ?_
          rintro e w4 ⟨b, rfl, ht, _, hb⟩
          have AL := Lib.hid (tab_All b (newB xs) w4 ht (by omega))
          have HLW := Lib.hid (HLW.out.trans (hb.mono HLW.out.size))
          clear ht hb NN
          go_wp2_with fail
          refine AL.out.mono ?_
          rintro e w5 ⟨v5, rfl, ho, hb⟩
          have HO5 := Lib.hid (own_base ho HLW.out.size)
          have HLW := Lib.hid (HLW.out.trans (hb.mono HLW.out.size))
          clear ho hb AL
          go_wp2
          go_ret
          exact ⟨_, rfl, by rw [← RES.out]; exact HO5.out, by rw [← RES.out]; omega, HLW.out⟩
end Go.Proofs.YtcmdhfccdkjenaaGreatDoor
namespace Go.Proofs.YtcmdhfccdkjenaaGreatDoor
open Go.RowKit Go.Shelf

theorem eqRl_selfR (x : Rl) : eqRl x x = true := decide_eq_true rfl
theorem hasR_mem (l : List Rl) (x : Rl) : hasR l x = true ↔ x ∈ l := by
  unfold hasR; rw [List.any_eq_true]
  constructor
  · rintro ⟨y, hy, e⟩; rw [← of_decide_eq_true e]; exact hy
  · intro h; exact ⟨x, h, eqRl_selfR x⟩
theorem lt_trans'R {x y z : Rl} (h : cmpR x y < 0) (h' : cmpR y z < 0) : cmpR x z < 0 := by
  obtain ⟨a, b⟩ := wcmp_rl.le x y z (by omega) (by omega)
  have : ¬ cmpR x z = 0 := fun e => by have := (b e).1; omega
  omega
theorem lt_irrefl'R (x : Rl) : ¬ cmpR x x < 0 := by have := (cmpR_zero x x).2 rfl; omega
/-- A row in strict order. -/
def AscR (l : List Rl) : Prop := l.Pairwise fun x y => cmpR x y < 0
theorem asc_uniqueR : ∀ (l m : List Rl), AscR l → AscR m → (∀ x, x ∈ l ↔ x ∈ m) → l = m
  | [], [], _, _, _ => rfl
  | [], y :: m, _, _, h => absurd ((h y).2 (by simp)) (by simp)
  | x :: l, [], _, _, h => absurd ((h x).1 (by simp)) (by simp)
  | x :: l, y :: m, hl, hm, h => by
    have hl' := List.pairwise_cons.1 hl
    have hm' := List.pairwise_cons.1 hm
    have e : x = y := by
      rcases List.mem_cons.1 ((h x).1 (by simp)) with e | e
      · exact e
      · rcases List.mem_cons.1 ((h y).2 (by simp)) with e' | e'
        · exact e'.symm
        · exact absurd (lt_trans'R (hm'.1 x e) (hl'.1 y e')) (lt_irrefl'R y)
    subst e
    refine congrArg (x :: ·) (asc_uniqueR l m hl'.2 hm'.2 fun z => ?_)
    constructor
    · intro hz
      rcases List.mem_cons.1 ((h z).1 (by simp [hz])) with e | e
      · subst e; exact absurd (hl'.1 z hz) (lt_irrefl'R z)
      · exact e
    · intro hz
      rcases List.mem_cons.1 ((h z).2 (by simp [hz])) with e | e
      · subst e; exact absurd (hm'.1 z hz) (lt_irrefl'R z)
      · exact e
/-- A row in order without those that stand twice. -/
def dedupR : List Rl → List Rl
  | [] => []
  | [x] => [x]
  | x :: y :: r => if x = y then dedupR (y :: r) else x :: dedupR (y :: r)
theorem insS_memR (l : List Rl) (x z : Rl) : z ∈ insSR l x ↔ z ∈ l ∨ z = x := by
  unfold insSR
  by_cases h : hasR l x = true
  · rw [if_pos h]
    exact ⟨.inl, fun h' => h'.elim id (fun e => e ▸ (hasR_mem l x).1 h)⟩
  · rw [if_neg h]
    unfold insAtR
    rw [List.mem_append, List.mem_cons]
    have := List.take_append_drop (posSR l x) l
    constructor
    · rintro (h | h | h)
      · exact .inl (List.mem_of_mem_take h)
      · exact .inr h
      · exact .inl (List.mem_of_mem_drop h)
    · rintro (h | h)
      · rw [← this] at h
        rcases List.mem_append.1 h with h | h
        · exact .inl h
        · exact .inr (.inr h)
      · exact .inr (.inl h)
theorem pos_takeR : ∀ (l : List Rl) (x z : Rl), z ∈ l.take (posSR l x) → cmpR z x < 0
  | [], _, _, h => by simp at h
  | a :: r, x, z, h => by
    unfold posSR at h
    by_cases ha : cmpR a x < 0
    · rw [if_pos ha] at h
      rcases List.mem_cons.1 (by simpa using h) with rfl | h
      · exact ha
      · exact pos_takeR r x z h
    · rw [if_neg ha] at h; simp at h
theorem pos_dropR : ∀ (l : List Rl) (x z : Rl), AscR l → z ∈ l.drop (posSR l x) → ¬ cmpR z x < 0
  | [], _, _, _, h => by simp at h
  | a :: r, x, z, hl, h => by
    unfold posSR at h
    by_cases ha : cmpR a x < 0
    · rw [if_pos ha] at h
      exact pos_dropR r x z (List.pairwise_cons.1 hl).2 (by simpa using h)
    · rw [if_neg ha] at h
      rcases List.mem_cons.1 (by simpa using h) with rfl | h
      · exact ha
      · have := (List.pairwise_cons.1 hl).1 z h
        intro hz; exact ha (lt_trans'R this hz)
theorem insS_ascR {l : List Rl} (h : AscR l) (x : Rl) : AscR (insSR l x) := by
  unfold insSR
  by_cases hx : hasR l x = true
  · rw [if_pos hx]; exact h
  · rw [if_neg hx]
    have hn : ¬ x ∈ l := fun h' => hx ((hasR_mem l x).2 h')
    have h1 : AscR (l.take (posSR l x)) := h.sublist (List.take_sublist _ _)
    have h2 : AscR (l.drop (posSR l x)) := h.sublist (List.drop_sublist _ _)
    have h3 : ∀ a ∈ l.take (posSR l x), ∀ b ∈ l.drop (posSR l x), cmpR a b < 0 := by
      have := h
      rw [AscR, ← List.take_append_drop (posSR l x) l, List.pairwise_append] at this
      exact this.2.2
    unfold insAtR AscR
    rw [List.pairwise_append, List.pairwise_cons]
    refine ⟨h1, ⟨fun b hb => ?_, h2⟩, fun a ha b hb => ?_⟩
    · have h4 := pos_dropR l x b h hb
      have h5 : ¬ cmpR b x = 0 := fun e => hn ((cmpR_zero b x).1 e ▸ List.mem_of_mem_drop hb)
      have := wcmp_rl.neg b x
      omega
    · rcases List.mem_cons.1 hb with rfl | hb
      · exact pos_takeR l b a ha
      · exact h3 a ha b hb
theorem insAll_ascR : ∀ (l acc : List Rl), AscR acc → AscR (insAllR acc l)
  | [], _, h => h
  | x :: l, _, h => insAll_ascR l _ (insS_ascR h x)
theorem insAll_memR : ∀ (l acc : List Rl) (z : Rl), z ∈ insAllR acc l ↔ z ∈ acc ∨ z ∈ l
  | [], acc, z => by simp [insAllR]
  | x :: l, acc, z => by
    unfold insAllR
    rw [insAll_memR l, insS_memR, List.mem_cons, or_assoc]
/-- A row in order, each once. -/
def ordR (l : List Rl) : List Rl := insAllR [] l
theorem ord_ascR (l : List Rl) : AscR (ordR l) := insAll_ascR l [] List.Pairwise.nil
theorem ord_memR (l : List Rl) (x : Rl) : x ∈ ordR l ↔ x ∈ l := by unfold ordR; rw [insAll_memR]; simp
theorem asc_ordR {l : List Rl} (h : AscR l) : ordR l = l := asc_uniqueR _ _ (ord_ascR _) h (ord_memR l)
theorem filter_takeR {l : List Rl} {p : Rl → Bool} {k : Nat} (h : k < l.length) : (l.take (k + 1)).filter p = (l.take k).filter p ++ (if p l[k] = true then [l[k]] else []) := by
  rw [List.take_succ_eq_append_getElem h, List.filter_append]
  cases hp : p l[k] <;> simp [hp]
theorem filter_yesR {l : List Rl} {p : Rl → Bool} {k : Nat} (h : k < l.length) (hp : p l[k] = true) : (l.take (k + 1)).filter p = (l.take k).filter p ++ [l[k]] := by
  rw [filter_takeR h, if_pos hp]
theorem filter_noR {l : List Rl} {p : Rl → Bool} {k : Nat} (h : k < l.length) (hp : p l[k] = false) : (l.take (k + 1)).filter p = (l.take k).filter p := by
  rw [filter_takeR h, if_neg (by rw [hp]; exact Bool.false_ne_true), List.append_nil]
end Go.Proofs.YtcmdhfccdkjenaaGreatDoor
namespace Go.Proofs.YtcmdhfccdkjenaaGreatDoor
open Go.RowKit Go.Shelf

theorem dedup_snocR : ∀ (p : List Rl) (y z : Rl), dedupR (p ++ [y, z]) = if y = z then dedupR (p ++ [y]) else dedupR (p ++ [y]) ++ [z]
  | [], y, z => by
    show dedupR [y, z] = if y = z then dedupR [y] else dedupR [y] ++ [z]
    unfold dedupR
    by_cases h : y = z
    · rw [if_pos h, if_pos h, h]; rfl
    · rw [if_neg h, if_neg h]; rfl
  | [x], y, z => by
    have ih := dedup_snocR [] y z
    simp only [List.nil_append] at ih
    show dedupR (x :: y :: [z]) = if y = z then dedupR (x :: y :: []) else dedupR (x :: y :: []) ++ [z]
    have e1 : dedupR (x :: y :: [z]) = if x = y then dedupR [y, z] else x :: dedupR [y, z] := rfl
    have e2 : dedupR (x :: y :: []) = if x = y then dedupR [y] else x :: dedupR [y] := rfl
    rw [e1, e2, ih]
    by_cases h1 : x = y <;> by_cases h2 : y = z <;> simp [h1, h2]
  | x :: x' :: p, y, z => by
    have ih := dedup_snocR (x' :: p) y z
    simp only [List.cons_append] at ih ⊢
    have e1 : ∀ r, dedupR (x :: x' :: r) = if x = x' then dedupR (x' :: r) else x :: dedupR (x' :: r) := fun _ => rfl
    rw [e1, e1, ih]
    by_cases h1 : x = x' <;> by_cases h2 : y = z <;> simp [h1, h2]
theorem take_twoR (l : List Rl) (m : Nat) (h : m + 1 < l.length) : l.take (m + 2) = l.take m ++ [l[m], l[m + 1]] := by
  rw [List.take_succ_eq_append_getElem h, List.take_succ_eq_append_getElem (by omega), List.append_assoc]; rfl
theorem dedup_sameR (l : List Rl) (m : Nat) (h : m + 1 < l.length) (e : l[m] = l[m + 1]) : dedupR (l.take (m + 2)) = dedupR (l.take (m + 1)) := by
  rw [take_twoR l m h, dedup_snocR, if_pos e, List.take_succ_eq_append_getElem (by omega)]
theorem dedup_moreR (l : List Rl) (m : Nat) (h : m + 1 < l.length) (e : ¬ l[m] = l[m + 1]) : dedupR (l.take (m + 2)) = dedupR (l.take (m + 1)) ++ [l[m + 1]] := by
  rw [take_twoR l m h, dedup_snocR, if_neg e, List.take_succ_eq_append_getElem (by omega)]
/-- The first k of a row that Compact works on are what stays of its first m; the rest is as it was. -/
structure HalfR (w : World) (b o : Nat) (l : List Rl) (m k : Nat) : Prop where
  len : (dedupR (l.take m)).length = k
  low : ∀ i (hi : i < (dedupR (l.take m)).length), Two w b (o + i * 2) (dedupR (l.take m))[i]
  high : ∀ i (hi : i < l.length), k ≤ i → Two w b (o + i * 2) l[i]
def W2 (w : World) (b a : Nat) (s : Rl) : World := (w.setCell ⟨b, a, none⟩ (.string s.o)).setCell ⟨b, a + 1, none⟩ (.string s.n)
theorem w2_far (w : World) (b a i : Nat) (s : Rl) (h : i < a ∨ a + 2 ≤ i) : (W2 w b a s).cell? ⟨b, i, none⟩ = w.cell? ⟨b, i, none⟩ := by
  unfold W2
  rw [set_far _ _ _ _ _ (by omega), set_far _ _ _ _ _ (by omega)]
theorem w2_new {w : World} {b a : Nat} (s s0 : Rl) (h : Two w b a s0) : Two (W2 w b a s) b a s := by
  obtain ⟨h0, h1⟩ := h
  refine ⟨?_, ?_⟩
  · unfold W2; rw [set_far _ _ _ _ _ (by omega)]; exact World.cell?_setCell_same _ _ _ (u := _) h0
  · unfold W2; refine World.cell?_setCell_same _ _ _ (u := .string s0.n) ?_; rw [set_far _ _ _ _ _ (by omega)]; exact h1
theorem Two.drop1 {w w' : World} {b x : Nat} {s : Rl} (h : Two w b x s) (hw : ∀ i, x ≤ i → i < x + 2 → w'.cell? ⟨b, i, none⟩ = w.cell? ⟨b, i, none⟩) : Two w' b x s := by
  obtain ⟨h0, h1⟩ := h
  exact ⟨(hw _ (by omega) (by omega)).trans h0, (hw _ (by omega) (by omega)).trans h1⟩
theorem HalfR.put {w : World} {b o m kk : Nat} {l : List Rl} (h : HalfR w b o l (m + 1) kk) (hm : m + 1 < l.length) (hk : kk ≤ m) (e : ¬ l[m] = l[m + 1]) : HalfR (W2 w b (o + kk * 2) l[m + 1]) b o l (m + 2) (kk + 1) := by
  have hd := dedup_moreR l m hm e
  refine ⟨by rw [hd, List.length_append, h.len]; rfl, fun i hi => ?_, fun i hi hik => ?_⟩
  · rw [hd, List.length_append, h.len] at hi
    simp only [List.length_cons, List.length_nil] at hi
    by_cases hik : i < kk
    · have e1 : (dedupR (l.take (m + 2)))[i]'(by rw [hd, List.length_append, h.len]; simp; omega) = (dedupR (l.take (m + 1)))[i]'(by rw [h.len]; exact hik) := by
        simp only [hd]; rw [List.getElem_append_left]
      rw [e1]
      exact (h.low i (by rw [h.len]; exact hik)).drop1 (fun j _ _ => w2_far _ _ _ _ _ (by omega))
    · obtain rfl : i = kk := by omega
      have e1 : (dedupR (l.take (m + 2)))[i]'(by rw [hd, List.length_append, h.len]; simp) = l[m + 1] := by
        simp only [hd]; rw [List.getElem_append_right (by rw [h.len]; exact Nat.le_refl _)]; simp [h.len]
      rw [e1]
      exact w2_new _ _ (h.high i (by omega) (Nat.le_refl _))
  · exact (h.high i hi (by omega)).drop1 (fun j _ _ => w2_far _ _ _ _ _ (by omega))
theorem HalfR.same {w : World} {b o m kk : Nat} {l : List Rl} (h : HalfR w b o l (m + 1) kk) (hm : m + 1 < l.length) (e : l[m] = l[m + 1]) : HalfR w b o l (m + 2) kk := by
  have hd := dedup_sameR l m hm e
  exact ⟨by rw [hd]; exact h.len, fun i hi => by simp only [hd]; exact h.low i (by rw [← hd]; exact hi), h.high⟩
theorem HalfR.drewN {w : World} {b o m k : Nat} {l : List Rl} (h : HalfR w b o l m k) (n : Nat) : HalfR (w.drewN n) b o l m k := ⟨h.len, h.low, h.high⟩
theorem two_someR {w : World} {b x : Nat} {s : Rl} (h : Two w b x s) (f : Nat) (hf : f < 2) : (w.cell? ⟨b, x + f, none⟩).isSome = true := by
  obtain ⟨h0, h1⟩ := h
  match f, hf with
  | 0, _ => rw [Nat.add_zero, h0]; rfl
  | 1, _ => rw [h1]; rfl
theorem HalfR.all {w : World} {b o m k : Nat} {l : List Rl} (h : HalfR w b o l m k) (hm : m = l.length) : (dedupR l).length = k ∧ ∀ i (hi : i < (dedupR l).length), Two w b (o + i * 2) (dedupR l)[i] := by
  subst hm
  obtain ⟨h1, h2, _⟩ := h
  simp only [List.take_of_length_le (Nat.le_refl _)] at h1 h2
  exact ⟨h1, h2⟩
end Go.Proofs.YtcmdhfccdkjenaaGreatDoor
namespace Go.Proofs.YtcmdhfccdkjenaaGreatDoor
open Go.RowKit Go.Shelf Go.Lib Go.Sort

instance rlInh : Inhabited Rl := ⟨⟨ByteArray.empty, ByteArray.empty⟩⟩
/-- A row of roles of the call's own, that may be turned. -/
def OwnR (w w' : World) (v : Value) (l : List Rl) : Prop :=
  (v = .slice none 0 0 ∧ l = []) ∨ ∃ g cap, v = .slice (some ⟨g, 0, none⟩) l.length cap ∧ w.heap.size ≤ g ∧ g < w'.heap.size ∧ l.length ≤ cap ∧ cap ≤ 9223372036854775807 ∧ (∀ j u, (l.flatMap Rl.cells)[j]? = some u → w'.cell? ⟨g, 0 + j, none⟩ = some u) ∧ ∀ i, w'.frozen? ⟨g, i, none⟩ = false
theorem OwnR.sl {w w' : World} {v : Value} {l : List Rl} (h : OwnR w w' v l) : Sl w' 2 v l.length (l.flatMap Rl.cells) := by
  have hmax : maxLen = 9223372036854775807 := by decide
  rcases h with ⟨rfl, rfl⟩ | ⟨g, cap, rfl, _, h2, h3, h4, h5, _⟩
  · exact Sl.nil _ _
  · exact ⟨flat_len _ _ Rl.cells_len _, by omega, .inr ⟨g, 0, cap, rfl, h3, by omega, h2, h5⟩⟩
end Go.Proofs.YtcmdhfccdkjenaaGreatDoor
