/- The table that there isn't: Prins, Links, Roles, Role, RoleAt, Rule. Light of texts, told whole. The document's example of layer 6. TableBack: the walk. Roles and statements among a law's arguments: opened to data, and read again in a later world. Rows of statements among a law's arguments: opened. -/
import Derived.Test.YthickpocfplcoaaPart9
import Derived.Test.YthickpocfplcoaaPart6
import Derived.Test.YthickpocfplcoaaPart8
import Derived.Test.YthickpocfplcoaaPart10
import Derived.Test.YthickpocfplcoaaPart7
import Derived.Test.YthickpocfplcoaaPart3
import Derived.ProofKit
import Derived.OpenShut
import Derived.ChangeMaps5
import Derived.Deep.Strs
import Derived.Test.YthickpocfplcoaaPart4
import Derived.Deep.Slices
namespace Go.Proofs.Ythickpocfplcoaa
open Go.RowKit Go.Shelf

def LightT (l : List ByteArray) (e : Ending) : Prop := ∃ b, e = .returned (.bool b) ∧ (b = true → l.length ≤ 40 ∧ ∀ x ∈ l, x.size ≤ 40)
set_option maxHeartbeats 1000000 in
theorem law1_LightT (va : Value) (l : List ByteArray) (w : World) (ha : SlA w 1 va l.length (strs l)) (hl : ∀ s ∈ l, s.size ≤ 9223372036854775807) :
    Calls Try.prog 6 #[va] w fun e w' => LightT l e ∧ w' = w := by
  have HA := Lib.hid ha
  have HL := Lib.hid hl
  have hmax := ha.max
  obtain ⟨ao, cap, hva⟩ := ha.form
  subst hva
  clear ha hl
  go_enter Try.func6, Try.ntmps6
  by_cases h40 : 40 < l.length
  · have d : decide ((40 : Int) < (l.length : Int)) = true := by (rw [decide_eq_true_iff]; omega)
    go_wp2
    go_ret
    exact ⟨⟨false, rfl, fun h => by cases h⟩, rfl⟩
  have d : decide ((40 : Int) < (l.length : Int)) = false := by (rw [decide_eq_false_iff_not]; omega)
  go_wp2
  go_loop [10] (fun i => ∃ k : Nat, k ≤ l.length ∧ i = .int .i64 k ∧ Hid (∀ j (hj : j < l.length), j < k → l[j].size ≤ 40)) (fun i => l.length - (intOf i).toNat)
  case atStart => exact ⟨0, by omega, rfl, Lib.hid (fun j hj h => absurd h (by omega))⟩
  case round =>
    obtain ⟨k, hk, rfl, HS⟩ := hrel
    by_cases hlt : k < l.length
    · obtain ⟨b1, o1, c1, he1, hc1, hm1, hb1, hx1⟩ := HA.out.pos (by omega)
      simp only [Value.slice.injEq, true_and] at he1
      obtain ⟨rfl, rfl⟩ := he1
      have p0 := hx1 k _ (strs_get hlt)
      have hsz := HL.out l[k] (List.getElem_mem hlt)
      clear hx1
      by_cases h : 40 < l[k].size
      · have d1 : decide ((40 : Int) < (l[k].size : Int)) = true := by (rw [decide_eq_true_iff]; omega)
        clear h
        go_wp2
        go_ret
        exact ⟨⟨false, rfl, fun h => by cases h⟩, rfl⟩
      · have d1 : decide ((40 : Int) < (l[k].size : Int)) = false := by (rw [decide_eq_false_iff_not]; omega)
        have HS2 := Lib.hid (show ∀ j (hj : j < l.length), j < k + 1 → l[j].size ≤ 40 from fun j hj hjk => by
          by_cases e : j = k
          · subst e; omega
          · exact HS.out j hj (by omega))
        clear h HS
        go_wp2
        exact ⟨⟨k + 1, by omega, by go_num, HS2⟩, by simp [intOf]; omega⟩
    · go_wp2
      go_ret
      exact ⟨⟨true, rfl, fun _ => ⟨by omega, fun x hx => by obtain ⟨j, hj, rfl⟩ := List.getElem_of_mem hx; exact HS.out j hj (by omega)⟩⟩, rfl⟩

theorem nil_Prins (w : World) : Calls Try.prog 16 #[.pointer none] w fun e w' => ∃ q, e = .returned (.pointer (some ⟨q, 0, none⟩)) ∧ TabAt w' q [] ∧ Below w.heap.size w w' := by
  have N := Lib.hid (fun W => names_New (.slice none 0 0) [] W (Sl.nil _ _).a (by decide))
  go_enter Try.func16, Try.ntmps16
  go_wp2_with fail
  refine (N.out _).mono ?_
  rintro e w1 ⟨q, rfl, h1, _, h2⟩
  have H1 := Lib.hid h1
  have H2 := Lib.hid h2
  clear h1 h2
  go_wp2
  go_ret
  exact ⟨q, rfl, H1.out, H2.out⟩
theorem nil_Links (w : World) : Calls Try.prog 18 #[.pointer none] w fun e w' => ∃ q, e = .returned (.pointer (some ⟨q, 0, none⟩)) ∧ TabAt w' q [] ∧ Below w.heap.size w w' := by
  have N := Lib.hid (fun W => names_New (.slice none 0 0) [] W (Sl.nil _ _).a (by decide))
  go_enter Try.func18, Try.ntmps18
  go_wp2_with fail
  refine (N.out _).mono ?_
  rintro e w1 ⟨q, rfl, h1, _, h2⟩
  have H1 := Lib.hid h1
  have H2 := Lib.hid h2
  clear h1 h2
  go_wp2
  go_ret
  exact ⟨q, rfl, H1.out, H2.out⟩
theorem nil_Roles (w : World) : Calls Try.prog 15 #[.pointer none] w fun e w' => e = .returned (.int .i64 0) ∧ Below w.heap.size w w' := by
  have P := Lib.hid nil_Prins
  have L := Lib.hid nil_Links
  have LE := Lib.hid (fun q W (h : TabAt W q []) => tab_Len q [] W h)
  go_enter Try.func15, Try.ntmps15
  go_wp2_with fail
  refine (P.out _).mono ?_
  rintro e w1 ⟨q, rfl, h1, h2⟩
  have H2 := Lib.hid h2
  have H1 := Lib.hid h1
  clear h1 h2
  go_wp2_with fail
  refine (LE.out _ _ H1.out).mono ?_
  rintro e w2 ⟨rfl, rfl⟩
  go_wp2_with fail
  refine (L.out _).mono ?_
  rintro e w3 ⟨q2, rfl, h1, h2⟩
  have H3 := Lib.hid (H2.out.trans (h2.mono H2.out.size))
  have H4 := Lib.hid h1
  clear h1 h2
  go_wp2_with fail
  refine (LE.out _ _ H4.out).mono ?_
  rintro e w4 ⟨rfl, rfl⟩
  go_wp2
  go_ret
  exact ⟨rfl, H3.out⟩
theorem nil_Role (r : Rl) (w : World) : Calls Try.prog 13 #[.pointer none, rv r] w fun e w' => e = .returned (.int .i64 (-1)) ∧ Below w.heap.size w w' := by
  obtain ⟨r1, r2⟩ := r
  have P := Lib.hid nil_Prins
  have L := Lib.hid nil_Links
  have F := Lib.hid (fun q s W (h : TabAt W q []) => show Calls Try.prog 36 #[.pointer (some ⟨q, 0, none⟩), .string s] W fun e w' => e = .returned (.int .i64 (-1)) ∧ w' = W from tab_Find q [] s W h List.Pairwise.nil (by decide))
  have T0 := Lib.hid (show OneAt w #[.string r1, .string r2] (w.alloc (.cells #[.string r1, .string r2] 24)) from ⟨Blk.new w _ _, (Below.refl _ _).alloc (Nat.le_refl _) _⟩)
  go_enter Try.func13, Try.ntmps13
  go_wp2_with fail
  refine (P.out _).mono ?_
  rintro e w1 ⟨q1, rfl, h1, h2⟩
  have T0 := Lib.hid (T0.out.later h2)
  have H1 := Lib.hid h1
  clear h1 h2
  go_wp2_with fail
  refine (L.out _).mono ?_
  rintro e w2 ⟨q2, rfl, h1, h2⟩
  have T0 := Lib.hid (T0.out.later h2)
  have H1 := Lib.hid (H1.out.below h2)
  have H2 := Lib.hid h1
  clear h1 h2
  go_wp2_with fail
  refine wp_region_held_drew (S := (fun W => ∀ o, W.cell? ⟨w.heap.size, o, none⟩ = (#[.string r1, .string r2] : Array Value)[o]?)) (by kernel_rfl) T0.out.drew.a.1 (fun hHeld => ?_)
  have HT := T0.out.drew
  have H1 := H1.out.below (below_drew (Below.refl _ _))
  have H2 := H2.out.below (below_drew (Below.refl _ _))
  (refine held_yes (v := ?_) 0 rfl (by kernel_rfl) (by kernel_rfl) (by kernel_rfl) (fun _ _ _ h => h) (by rfl) (by assumption) ?_ ?_; rotate_left; (focus ((intro w hSw); (try dsimp only at hSw); go_simp; (try with_reducible rfl))); (try simp only [Act.put, List.setIfInBounds_toArray, List.set_cons_zero, List.set_cons_succ])); (refine held_yes (v := ?_) 1 rfl (by kernel_rfl) (by kernel_rfl) (by kernel_rfl) (fun _ _ _ h => h) (by rfl) (by assumption) ?_ ?_; rotate_left; (focus ((intro w hSw); (try dsimp only at hSw); go_simp; (try with_reducible rfl))); (try simp only [Act.put, List.setIfInBounds_toArray, List.set_cons_zero, List.set_cons_succ])); (refine held_yes (v := ?_) 2 rfl (by kernel_rfl) (by kernel_rfl) (by kernel_rfl) (fun _ _ _ h => h) (by rfl) (by assumption) ?_ ?_; rotate_left; (focus ((intro w hSw); (try dsimp only at hSw); go_simp; (try with_reducible rfl))); (try simp only [Act.put, List.setIfInBounds_toArray, List.set_cons_zero, List.set_cons_succ])); (refine held_yes (v := ?_) 4 rfl (by kernel_rfl) (by kernel_rfl) (by kernel_rfl) (fun _ _ _ h => h) (by rfl) (by assumption) ?_ ?_; rotate_left; (focus ((intro w hSw); (try dsimp only at hSw); go_simp; (try with_reducible rfl))); (try simp only [Act.put, List.setIfInBounds_toArray, List.set_cons_zero, List.set_cons_succ])); (refine held_yes (v := ?_) 5 rfl (by kernel_rfl) (by kernel_rfl) (by kernel_rfl) (fun _ _ _ h => h) (by rfl) (by assumption) ?_ ?_; rotate_left; (focus ((intro w hSw); (try dsimp only at hSw); go_simp; (try with_reducible rfl))); (try simp only [Act.put, List.setIfInBounds_toArray, List.set_cons_zero, List.set_cons_succ])); (refine held_yes (v := ?_) 6 rfl (by kernel_rfl) (by kernel_rfl) (by kernel_rfl) (fun _ _ _ h => h) (by rfl) (by assumption) ?_ ?_; rotate_left; (focus ((intro w hSw); (try dsimp only at hSw); go_simp; (try with_reducible rfl))); (try simp only [Act.put, List.setIfInBounds_toArray, List.set_cons_zero, List.set_cons_succ]))
  (refine held_call 3 rfl (by kernel_rfl) (fun K hK => ?_); go_simp)
  go_at_call 36; refine (F.out _ _ _ H1).mono ?_; rintro e wq ⟨rfl, rfl⟩
  (refine hK.out _ _ (HT.a.1) (fun hHeld => ?_); clear hK K; (try simp only [Act.put, List.setIfInBounds_toArray, List.set_cons_zero, List.set_cons_succ]))
  (refine held_call 7 rfl (by kernel_rfl) (fun K hK => ?_); go_simp)
  go_at_call 36; refine (F.out _ _ _ H2).mono ?_; rintro e wq ⟨rfl, rfl⟩
  (refine hK.out _ _ (HT.a.1) (fun hHeld => ?_); clear hK K; (try simp only [Act.put, List.setIfInBounds_toArray, List.set_cons_zero, List.set_cons_succ]))
  (refine held_yes (v := ?_) 8 rfl (by kernel_rfl) (by kernel_rfl) (by kernel_rfl) (fun _ _ _ h => h) (by rfl) (by assumption) ?_ ?_; rotate_left; (focus ((intro w hSw); (try dsimp only at hSw); go_simp; (try with_reducible rfl))); (try simp only [Act.put, List.setIfInBounds_toArray, List.set_cons_zero, List.set_cons_succ])); (refine held_yes (v := ?_) 9 rfl (by kernel_rfl) (by kernel_rfl) (by kernel_rfl) (fun _ _ _ h => h) (by rfl) (by assumption) ?_ ?_; rotate_left; (focus ((intro w hSw); (try dsimp only at hSw); go_simp; (try with_reducible rfl))); (try simp only [Act.put, List.setIfInBounds_toArray, List.set_cons_zero, List.set_cons_succ]))
  refine wpAnyH_done (by kernel_rfl) ?_ _
  have HT := Lib.hid HT
  clear H1 H2
  go_wp2
  go_ret
  exact ⟨rfl, HT.out.low⟩
theorem nil_RoleAt (w : World) : Calls Try.prog 19 #[.pointer none, .int .i64 0] w fun e w' => e = .returned (rv noR) ∧ Below w.heap.size w w' := by
  have RS := Lib.hid nil_Roles
  have T0 := Lib.hid (show OneAt w #[.string emp, .string emp] (w.alloc (.cells #[.string emp, .string emp] 24)) from ⟨Blk.new w _ _, (Below.refl _ _).alloc (Nat.le_refl _) _⟩)
  go_enter Try.func19, Try.ntmps19
  go_wp2_with fail
  refine (RS.out _).mono ?_
  rintro e w1 ⟨rfl, h2⟩
  have T0 := Lib.hid (T0.out.later h2)
  clear h2
  obtain ⟨ca, fa, za⟩ := T0.out.a
  go_wp2
  refine bodyPost_ret (v := rv noR) (by simp [results, Try.results19, go_sem, noR, ca]) rfl ⟨rfl, ?_⟩
  exact below_puts (by omega) [.string emp, .string emp] 0 w1 T0.out.low
theorem nil_Rule (s : St) (w : World) (hs : s.le 4294967) : Calls Try.prog 11 #[.pointer none, sv s] w fun e w' => e = .returned (.tuple #[ruv noRu, .bool false]) ∧ Below w.heap.size w w' := by
  have h0 : ∀ r, roleN [] [] r = -1 := fun r => rfl
  have hR : ruleN [] [] s = (noRu, false) := ruleN_bad (by unfold ruleOk ruleR; rw [h0 s.h]; exact decide_eq_false (fun h => absurd h.1 (show ¬ (0 : Int) ≤ -1 by decide)))
  have := table_RuleG none [] [] w List.Pairwise.nil List.Pairwise.nil (by decide) (by decide) (fun r W _ => nil_Role r W) (fun W _ => nil_Prins W) (fun W _ => nil_Links W) s hs
  rw [hR] at this
  exact this
end Go.Proofs.Ythickpocfplcoaa
namespace Go.Proofs.Ythickpocfplcoaa
open Go.RowKit Go.Shelf

def exA : List ByteArray := [⟨#[66]⟩, ⟨#[65]⟩]
def exB : List ByteArray := [⟨#[115]⟩, ⟨#[114]⟩]
theorem exA_new : newB exA = [⟨#[65]⟩, ⟨#[66]⟩] := by rfl
theorem exB_new : newB exB = [⟨#[114]⟩, ⟨#[115]⟩] := by rfl
theorem ex_role : roleN (newB exA) (newB exB) ⟨⟨#[66]⟩, ⟨#[114]⟩⟩ = 2 := by rfl
theorem ex_roleAt : roleAt (newB exA) (newB exB) 2 = ⟨⟨#[66]⟩, ⟨#[114]⟩⟩ := by rfl
set_option maxRecDepth 100000 in
set_option maxHeartbeats 4000000 in
theorem law6_lives (w : World) : Calls Try.prog 8 #[] w fun e w' => e = .returned (.bool true) ∧ Below w.heap.size w w' := by
  obtain ⟨w0, hw0⟩ : ∃ V, V = (w.alloc (.cells #[.string ⟨#[66]⟩, .string ⟨#[65]⟩] 9)).alloc (.cells #[.string ⟨#[115]⟩, .string ⟨#[114]⟩] 9) := ⟨_, rfl⟩
  have NW := Lib.hid (table_New (.slice (some ⟨w.heap.size, 0, none⟩) 2 2) (.slice (some ⟨w.heap.size + 1, 0, none⟩) 2 2) exA exB w0
    (by rw [hw0]; exact ((Sl.new w (strs exA) 9 1 2 w.heap.size rfl rfl (by simp [maxLen])).below ((Below.refl _ _).alloc (by simp) _)).a)
    (by rw [hw0]; exact (Sl.new (w.alloc (.cells #[.string ⟨#[66]⟩, .string ⟨#[65]⟩] 9)) (strs exB) 9 1 2 (w.heap.size + 1) (by simp) rfl (by simp [maxLen])).a) (by decide) (by decide))
  have HB := Lib.hid (show Below w.heap.size w w0 by rw [hw0]; exact (((Below.refl _ _).alloc (Nat.le_refl _) _).alloc (by simp) _))
  have RO := Lib.hid (fun (t ba bb : Nat) (W : World) (h : TblAt W t ba bb (newB exA) (newB exB)) => ex_role ▸ table_Role h ⟨⟨#[66]⟩, ⟨#[114]⟩⟩)
  have RS := Lib.hid (fun (t ba bb : Nat) (W : World) (h : TblAt W t ba bb (newB exA) (newB exB)) => (show (newB exA).length * (newB exB).length = 4 from rfl) ▸ table_Roles h)
  have RA := Lib.hid (fun (t ba bb : Nat) (W : World) (h : TblAt W t ba bb (newB exA) (newB exB)) => ex_roleAt ▸ table_RoleAt h 2 (by decide))
  go_enter Try.func8, Try.ntmps8
  go_wp2_with fail
  rw [← hw0]
  clear hw0
  refine NW.out.mono ?_
  rintro e w1 ⟨t, ba, bb, rfl, ht, hb⟩
  have HT := Lib.hid ht
  have HB := Lib.hid (HB.out.trans (hb.mono HB.out.size))
  clear ht hb NW
  go_wp2_with fail
  refine (RO.out _ _ _ _ HT.out).mono ?_
  rintro e w2 ⟨rfl, hb⟩
  have HT := Lib.hid (HT.out.below hb)
  have HB := Lib.hid (HB.out.trans (hb.mono HB.out.size))
  clear hb RO
  go_wp2_with fail
  refine (RS.out _ _ _ _ HT.out).mono ?_
  rintro e w3 ⟨rfl, rfl⟩
  clear RS
  go_wp2_with fail
  refine (RA.out _ _ _ _ HT.out).mono ?_
  rintro e w4 ⟨rfl, hb⟩
  have HB := Lib.hid (HB.out.trans (hb.mono HB.out.size))
  clear hb RA HT
  go_wp2
  go_ret
  exact ⟨rfl, HB.out⟩
end Go.Proofs.Ythickpocfplcoaa
namespace Go.Proofs.Ythickpocfplcoaa
open Go.RowKit Go.Shelf

/-- The call's own first blocks: both rows' values, the statement, the rule. -/
structure BackBx (w : World) (V S R : Array Value) (wx : World) : Prop where
  v : Blk wx w.heap.size V
  s : Blk wx (w.heap.size + 1) S
  r : Blk wx (w.heap.size + 1 + 1) R
  low : Below w.heap.size w wx
theorem BackBx.later {w wx w' : World} {V S R : Array Value} (h : BackBx w V S R wx) (hb : Below wx.heap.size wx w') : BackBx w V S R w' := ⟨h.v.below hb, h.s.below hb, h.r.below hb, h.low.trans (hb.mono h.low.size)⟩
theorem BackBx.drew {w wx : World} {V S R : Array Value} (h : BackBx w V S R wx) : BackBx w V S R wx.drew := h.later (below_drew (Below.refl _ _))
theorem BackBx.new (w : World) (V S R : Array Value) (t u x : TypeId) : BackBx w V S R (((w.alloc (.cells V t)).alloc (.cells S u)).alloc (.cells R x)) :=
  ⟨((Blk.new w V t).alloc _).alloc _, by have := ((Blk.new (w.alloc (.cells V t)) S u).alloc (.cells R x)); simpa using this, by have := Blk.new ((w.alloc (.cells V t)).alloc (.cells S u)) R x; simpa using this,
   (((Below.refl _ _).alloc (Nat.le_refl _) _).alloc (by simp) _).alloc (by simp; omega) _⟩
theorem filt_yes {l : List ByteArray} {p : ByteArray → Bool} {k : Nat} (hk : k < l.length) (h : p l[k] = true) : (l.take (k + 1)).filter p = (l.take k).filter p ++ [l[k]] := by
  rw [List.take_succ_eq_append_getElem hk, List.filter_append]; simp [h]
theorem filt_no {l : List ByteArray} {p : ByteArray → Bool} {k : Nat} (hk : k < l.length) (h : p l[k] = false) : (l.take (k + 1)).filter p = (l.take k).filter p := by
  rw [List.take_succ_eq_append_getElem hk, List.filter_append]; simp [h]
theorem filt_len {l : List ByteArray} (p : ByteArray → Bool) (k : Nat) : ((l.take k).filter p).length ≤ l.length := Nat.le_trans (List.length_filter_le _ _) (by rw [List.length_take]; omega)
theorem filt_end {l : List ByteArray} (p : ByteArray → Bool) {k : Nat} (h : ¬ k < l.length) : (l.take k).filter p = l.filter p := by rw [List.take_of_length_le (by omega)]
def pP (s : ByteArray) : Bool := isP 65 90 (bl s)
def pN (s : ByteArray) : Bool := isP 97 122 (bl s)
theorem atB_le {l : List ByteArray} {n : Nat} (h : ∀ x ∈ l, x.size ≤ n) (i : Int) : (atB l i).size ≤ n := by
  unfold atB
  by_cases hc : 0 ≤ i ∧ i.toNat < l.length
  · rw [dif_pos hc]; exact h _ (List.getElem_mem hc.2)
  · rw [dif_neg hc]; exact Nat.zero_le _
theorem roleAt_le {a b : List ByteArray} {n : Nat} (ha : ∀ x ∈ a, x.size ≤ n) (hb : ∀ x ∈ b, x.size ≤ n) (i : Int) : (roleAt a b i).le n := by
  unfold roleAt
  by_cases hc : 0 ≤ i ∧ i.toNat < a.length * b.length
  · rw [dif_pos hc]; exact ⟨ha _ (List.getElem_mem _), hb _ (List.getElem_mem _)⟩
  · rw [dif_neg hc]; exact ⟨Nat.zero_le _, Nat.zero_le _⟩
theorem stmtR_le {a b : List ByteArray} {n : Nat} {r : Ru} (ha : ∀ x ∈ a, x.size ≤ n) (hb : ∀ x ∈ b, x.size ≤ n) : (normalS (stmtR a b r)).le n := by
  have h0 : noR.le n := ⟨Nat.zero_le _, Nat.zero_le _⟩
  have h1 : (stmtR a b r).le n := ⟨roleAt_le ha hb _, by unfold stmtR; dsimp only; split; exact atB_le ha _; exact Nat.zero_le _, by unfold stmtR; dsimp only; split; exact h0; exact roleAt_le ha hb _, by unfold stmtR; dsimp only; split; exact roleAt_le ha hb _; exact h0, by unfold stmtR; dsimp only; split; exact atB_le hb _; exact Nat.zero_le _⟩
  unfold normalS
  split
  · exact ⟨h1.1, h1.2.1, h1.2.2.2.1, h1.2.2.1, h1.2.2.2.2⟩
  · exact h1
set_option maxRecDepth 100000 in
set_option maxHeartbeats 16000000 in
theorem law6_TableBack (va vb : Value) (l m : List ByteArray) (s : St) (r : Ru) (w : World) (ha : SlA w 1 va l.length (strs l)) (hb : SlA w 1 vb m.length (strs m)) (hl : ∀ x ∈ l, x.size ≤ 9223372036854775807) (hm : ∀ x ∈ m, x.size ≤ 9223372036854775807) (hs : s.le 9223372036854775807) :
    Calls Try.prog 4 #[.agg #[va, vb], sv s, ruv r] w fun e w' => e = .returned (.bool true) ∧ Below w.heap.size w w' := by
  have HA := Lib.hid ha
  have HB := Lib.hid hb
  have LA := Lib.hid (fun W (h : Below w.heap.size w W) => law1_LightT va l W (ha.below h) hl)
  have LB := Lib.hid (fun W (h : Below w.heap.size w W) => law1_LightT vb m W (hb.below h) hm)
  have LS := Lib.hid (fun W => law3_Light s W hs)
  have LV := Lib.hid (fun W => law6_lives W)
  have hmaxl := ha.max
  have hmaxm := hb.max
  obtain ⟨ao, ac, rfl⟩ := ha.form
  obtain ⟨bo, bc, rfl⟩ := hb.form
  clear ha hb hl hm hs
  obtain ⟨k, ⟨h1, h2⟩, who, ⟨s1, s2⟩, ⟨s3, s4⟩, via⟩ := s
  obtain ⟨rk, rh, rw_, ra, rb, rv_⟩ := r
  have HT := Lib.hid (BackBx.new w #[.slice ao l.length ac, .slice bo m.length bc] #[.int .i64 k, .string h1, .string h2, .string who, .string s1, .string s2, .string s3, .string s4, .string via] #[.int .i64 rk, .int .i64 rh, .int .i64 rw_, .int .i64 ra, .int .i64 rb, .int .i64 rv_] 45 26 34)
  go_enter Try.func4, Try.ntmps4
  go_wp2_with fail
  obtain ⟨w1, hw1⟩ : ∃ V, V = (((w.alloc (.cells #[.slice ao l.length ac, .slice bo m.length bc] 45)).alloc (.cells #[.int .i64 k, .string h1, .string h2, .string who, .string s1, .string s2, .string s3, .string s4, .string via] 26)).alloc (.cells #[.int .i64 rk, .int .i64 rh, .int .i64 rw_, .int .i64 ra, .int .i64 rb, .int .i64 rv_] 34)) := ⟨_, rfl⟩
  rw [← hw1] at HT ⊢
  clear hw1
  refine wp_region_held_drew (S := (fun W => ∀ o, W.cell? ⟨w.heap.size, o, none⟩ = (#[.slice ao l.length ac, .slice bo m.length bc] : Array Value)[o]?)) (by kernel_rfl) HT.out.drew.v.1 (fun hHeld => ?_)
  have HT := HT.out.drew
  obtain ⟨wk, hwk⟩ : ∃ W, W = w1.drew := ⟨_, rfl⟩
  rw [← hwk] at HT hHeld ⊢
  clear hwk
  (refine held_yes (v := ?_) 0 rfl (by kernel_rfl) (by kernel_rfl) (by kernel_rfl) (fun _ _ _ h => h) (by rfl) (by assumption) ?_ ?_; rotate_left; (focus ((intro w hSw); (try dsimp only at hSw); go_simp; (try with_reducible rfl))); (try simp only [Act.put, List.setIfInBounds_toArray, List.set_cons_zero, List.set_cons_succ])); (refine held_yes (v := ?_) 1 rfl (by kernel_rfl) (by kernel_rfl) (by kernel_rfl) (fun _ _ _ h => h) (by rfl) (by assumption) ?_ ?_; rotate_left; (focus ((intro w hSw); (try dsimp only at hSw); go_simp; (try with_reducible rfl))); (try simp only [Act.put, List.setIfInBounds_toArray, List.set_cons_zero, List.set_cons_succ])); (refine held_yes (v := ?_) 2 rfl (by kernel_rfl) (by kernel_rfl) (by kernel_rfl) (fun _ _ _ h => h) (by rfl) (by assumption) ?_ ?_; rotate_left; (focus ((intro w hSw); (try dsimp only at hSw); go_simp; (try with_reducible rfl))); (try simp only [Act.put, List.setIfInBounds_toArray, List.set_cons_zero, List.set_cons_succ])); (refine held_yes (v := ?_) 3 rfl (by kernel_rfl) (by kernel_rfl) (by kernel_rfl) (fun _ _ _ h => h) (by rfl) (by assumption) ?_ ?_; rotate_left; (focus ((intro w hSw); (try dsimp only at hSw); go_simp; (try with_reducible rfl))); (try simp only [Act.put, List.setIfInBounds_toArray, List.set_cons_zero, List.set_cons_succ])); (refine held_yes (v := ?_) 4 rfl (by kernel_rfl) (by kernel_rfl) (by kernel_rfl) (fun _ _ _ h => h) (by rfl) (by assumption) ?_ ?_; rotate_left; (focus ((intro w hSw); (try dsimp only at hSw); go_simp; (try with_reducible rfl))); (try simp only [Act.put, List.setIfInBounds_toArray, List.set_cons_zero, List.set_cons_succ])); (refine held_yes (v := ?_) 5 rfl (by kernel_rfl) (by kernel_rfl) (by kernel_rfl) (fun _ _ _ h => h) (by rfl) (by assumption) ?_ ?_; rotate_left; (focus ((intro w hSw); (try dsimp only at hSw); go_simp; (try with_reducible rfl))); (try simp only [Act.put, List.setIfInBounds_toArray, List.set_cons_zero, List.set_cons_succ]))
  refine wpAnyH_done (by kernel_rfl) ?_ _
  have HT := Lib.hid HT
  go_wp2_with fail
  refine (LA.out _ HT.out.low).mono ?_
  rintro e wq ⟨⟨x1, rfl, hx1⟩, rfl⟩
  cases x1 with
  | false =>
    clear hx1
    go_wp2_with fail
    refine (LV.out _).mono ?_
    rintro e wq2 ⟨rfl, hb⟩
    have HT := Lib.hid (HT.out.later hb)
    clear hb
    go_wp2
    go_ret
    exact ⟨rfl, HT.out.low⟩
  | true =>
  obtain ⟨hla, hls⟩ := hx1 rfl
  have hls := Lib.hid hls
  clear hx1
  go_wp2_with fail
  refine (LB.out _ HT.out.low).mono ?_
  rintro e wq2 ⟨⟨x1, rfl, hx1⟩, rfl⟩
  cases x1 with
  | false =>
    clear hx1
    go_wp2_with fail
    refine (LV.out _).mono ?_
    rintro e wq2 ⟨rfl, hb⟩
    have HT := Lib.hid (HT.out.later hb)
    clear hb
    go_wp2
    go_ret
    exact ⟨rfl, HT.out.low⟩
  | true =>
  obtain ⟨hma, hms⟩ := hx1 rfl
  have hms := Lib.hid hms
  clear hx1
  obtain ⟨ca, fa, za⟩ := HT.out.s
  go_wp2_with fail
  refine (LS.out _).mono ?_
  rintro e w1 ⟨x1, rfl, hx1, hb⟩
  have HT := Lib.hid (HT.out.later hb)
  clear hb ca fa za
  cases x1 with
  | false =>
    clear hx1
    go_wp2_with fail
    refine (LV.out _).mono ?_
    rintro e wq2 ⟨rfl, hb⟩
    have HT := Lib.hid (HT.out.later hb)
    clear hb
    go_wp2
    go_ret
    exact ⟨rfl, HT.out.low⟩
  | true =>
  have hle := Lib.hid (hx1 rfl)
  clear hx1 LS LA LB
  obtain ⟨wA, hwA⟩ : ∃ wA, wA = w1 := ⟨_, rfl⟩
  subst hwA
  go_wp2_with fail
  go_loopw [9, 47] (fun vo i wr => ∃ k : Nat, k ≤ l.length ∧ i = .int .i64 k ∧ Hid (Below wA.heap.size wA wr) ∧ Hid (wr.ownsRow wA.heap.size 9 1 vo ((l.take k).filter pP).length (strs ((l.take k).filter pP)))) (fun _ i _ => l.length - (intOf i).toNat)
  case atStart => exact ⟨0, by omega, rfl, Lib.hid (Below.refl _ _), Lib.hid (World.ownsRow_nil _ _ _ _)⟩
  case round =>
    obtain ⟨k1, hk, rfl, HL, HO⟩ := hrel
    obtain ⟨oo, oc, rfl⟩ := own_form HO.out
    have hss := filt_len (l := l) pP k1
    by_cases hlt : k1 < l.length
    · obtain ⟨b1, o1, c1, he1, hc1, hm1, hb1, hx1⟩ := HA.out.pos (by omega)
      simp only [Value.slice.injEq, true_and] at he1
      obtain ⟨rfl, rfl⟩ := he1
      have p0 := ((HT.out.low.trans (HL.out.mono HT.out.low.size)).cell (p := ⟨b1, o1 + k1, none⟩) hb1).trans (hx1 k1 _ (strs_get hlt))
      have hbr : b1 < wr.heap.size := Nat.lt_of_lt_of_le hb1 (HT.out.low.trans (HL.out.mono HT.out.low.size)).size
      have FY := Lib.hid (filt_yes (p := pP) hlt)
      have FN := Lib.hid (filt_no (p := pP) hlt)
      have hxs := hls.out _ (List.getElem_mem hlt)
      clear hx1
      generalize l[k1] = x at *
      have IP := Lib.hid (fun W => ref1_IsPrin x W (by omega))
      go_wp2_with fail
      refine (IP.out _).mono ?_
      rintro e wr ⟨rfl, rfl⟩
      obtain ⟨c, hc⟩ : ∃ c, c = pP x := ⟨_, rfl⟩
      rw [show isP 65 90 (bl x) = c from hc.symm]
      cases c with
      | false =>
        have FN2 := Lib.hid (FN.out hc.symm)
        clear FY FN hc IP p0
        go_wp2_with fail
        exact ⟨⟨k1 + 1, by omega, by go_num, HL, Lib.hid (by rw [FN2.out]; exact HO.out)⟩, by simp [intOf]; omega⟩
      | true =>
        have FY2 := Lib.hid (FY.out hc.symm)
        clear FY FN hc IP p0
        have hown := HO.out
        go_wp2_with (at_builtin; refine halt_ ?_)
        unfold Halt_
        refine app_own Try.underlying22 str_info rfl (by decide) (by decide) rfl _ _ rfl wA.heap.size rfl (hown.alloc _) [.string x] rfl (heap_new1 _ _) rfl (str1 _) ?_ ?_ ?_
        · omega
        · have := HL.out.size; simp; omega
        intro a' cap' w3 hown' hgrow
        obtain ⟨q1, q2⟩ := own_push (x := x) HL.out hown hown' hgrow
        have HO1 := Lib.hid q1
        have HL1 := Lib.hid q2
        clear hown hown' hgrow q1 q2
        go_wp2_with fail
        exact ⟨⟨k1 + 1, by omega, by go_num, HL1, Lib.hid (by rw [FY2.out]; exact HO1.out)⟩, by simp [intOf]; omega⟩
    · generalize hg : (l.take k1).filter pP = good at *
      have hgood := Lib.hid (show good = l.filter pP from hg.symm.trans (filt_end pP hlt))
      have HG := Lib.hid (Sl.of_own HO.out).a
      have HT := Lib.hid (HT.out.later HL.out)
      have HB := Lib.hid (HB.out.below HT.out.low)
      obtain ⟨wB, hwB⟩ : ∃ wB, wB = wr := ⟨_, rfl⟩
      subst hwB
      clear hg HO HL HA
      go_wp2_with fail
      clear hlt
      go_loopw [10, 60] (fun vo i wr => ∃ k : Nat, k ≤ m.length ∧ i = .int .i64 k ∧ Hid (Below wB.heap.size wB wr) ∧ Hid (wr.ownsRow wB.heap.size 9 1 vo ((m.take k).filter pN).length (strs ((m.take k).filter pN)))) (fun _ i _ => m.length - (intOf i).toNat)
      case atStart => exact ⟨0, by omega, rfl, Lib.hid (Below.refl _ _), Lib.hid (World.ownsRow_nil _ _ _ _)⟩
      case round =>
        obtain ⟨k2, hk2, rfl, HL, HO⟩ := hrel
        obtain ⟨po, pc, rfl⟩ := own_form HO.out
        have hss2 := filt_len (l := m) pN k2
        by_cases hlt : k2 < m.length
        · obtain ⟨b1, o1, c1, he1, hc1, hm1, hb1, hx1⟩ := HB.out.pos (by omega)
          simp only [Value.slice.injEq, true_and] at he1
          obtain ⟨rfl, rfl⟩ := he1
          have p0 := (HL.out.cell (p := ⟨b1, o1 + k2, none⟩) hb1).trans (hx1 k2 _ (strs_get hlt))
          have hbr : b1 < wr.heap.size := Nat.lt_of_lt_of_le hb1 HL.out.size
          have FY := Lib.hid (filt_yes (p := pN) hlt)
          have FN := Lib.hid (filt_no (p := pN) hlt)
          have hxs := hms.out _ (List.getElem_mem hlt)
          clear hx1
          generalize m[k2] = x at *
          have IP := Lib.hid (fun W => ref1_IsName x W (by omega))
          go_wp2_with fail
          refine (IP.out _).mono ?_
          rintro e wr ⟨rfl, rfl⟩
          obtain ⟨c, hc⟩ : ∃ c, c = pN x := ⟨_, rfl⟩
          rw [show isP 97 122 (bl x) = c from hc.symm]
          cases c with
          | false =>
            have FN2 := Lib.hid (FN.out hc.symm)
            clear FY FN hc IP p0
            go_wp2_with fail
            exact ⟨⟨k2 + 1, by omega, by go_num, HL, Lib.hid (by rw [FN2.out]; exact HO.out)⟩, by simp [intOf]; omega⟩
          | true =>
            have FY2 := Lib.hid (FY.out hc.symm)
            clear FY FN hc IP p0
            have hown := HO.out
            go_wp2_with (at_builtin; refine halt_ ?_)
            unfold Halt_
            refine app_own Try.underlying22 str_info rfl (by decide) (by decide) rfl _ _ rfl wB.heap.size rfl (hown.alloc _) [.string x] rfl (heap_new1 _ _) rfl (str1 _) ?_ ?_ ?_
            · omega
            · have := HL.out.size; simp; omega
            intro a' cap' w3 hown' hgrow
            obtain ⟨q1, q2⟩ := own_push (x := x) HL.out hown hown' hgrow
            have HO1 := Lib.hid q1
            have HL1 := Lib.hid q2
            clear hown hown' hgrow q1 q2
            go_wp2_with fail
            exact ⟨⟨k2 + 1, by omega, by go_num, HL1, Lib.hid (by rw [FY2.out]; exact HO1.out)⟩, by simp [intOf]; omega⟩
        · generalize hg : (m.take k2).filter pN = well at *
          have hwell := Lib.hid (show well = m.filter pN from hg.symm.trans (filt_end pN hlt))
          have HW := Lib.hid (Sl.of_own HO.out).a
          have HT := Lib.hid (HT.out.later HL.out)
          have HG := Lib.hid (HG.out.below HL.out)
          clear hg HO HL HB
          have TN := Lib.hid (table_New _ _ good well wr HG.out HW.out (by omega) (by omega))
          go_wp2_with fail
          refine TN.out.mono ?_
          rintro e w2 ⟨t, ba, bb, rfl, ht, hb⟩
          have HTB := Lib.hid ht
          have HT := Lib.hid (HT.out.later hb)
          clear ht hb TN HG HW
          have ST1 := Lib.hid (fun (h : (ruleN (newB good) (newB well) ⟨k, ⟨h1, h2⟩, who, ⟨s1, s2⟩, ⟨s3, s4⟩, via⟩).2 = true) => stmt_rule HTB.out.na HTB.out.nb h)
          have ST2 := Lib.hid (fun (h : okRu (newB good).length (newB well).length ⟨rk, rh, rw_, ra, rb, rv_⟩ = true) => rule_stmt HTB.out.sa HTB.out.sb (fun x hx => by rw [new_mem, hgood.out, List.mem_filter] at hx; exact hx.2) (fun x hx => by rw [new_mem, hwell.out, List.mem_filter] at hx; exact hx.2) h)
          have SZ := Lib.hid (show (normalS (stmtR (newB good) (newB well) ⟨rk, rh, rw_, ra, rb, rv_⟩)).le 4294967 from stmtR_le (fun x hx => by rw [new_mem, hgood.out, List.mem_filter] at hx; exact Nat.le_trans (hls.out x hx.1) (by decide)) (fun x hx => by rw [new_mem, hwell.out, List.mem_filter] at hx; exact Nat.le_trans (hms.out x hx.1) (by decide)))
          generalize newB good = a at *
          generalize newB well = b at *
          have RU := Lib.hid (fun W (h : TblAt W t ba bb a b) => table_Rule h ⟨k, ⟨h1, h2⟩, who, ⟨s1, s2⟩, ⟨s3, s4⟩, via⟩ (hle.out.mono (by decide)))
          have S1 := Lib.hid (fun r W (h : TblAt W t ba bb a b) => table_Stmt h r)
          obtain ⟨⟨⟨k0, k1_, k2_, k3_, k4_, k5_⟩, ok⟩, hrr⟩ : ∃ z, z = ruleN a b ⟨k, ⟨h1, h2⟩, who, ⟨s1, s2⟩, ⟨s3, s4⟩, via⟩ := ⟨_, rfl⟩
          rw [← hrr] at RU ST1
          clear hrr hgood hwell
          obtain ⟨ca, fa, za⟩ := HT.out.s
          go_wp2_with fail
          refine (RU.out _ HTB.out).mono ?_
          rintro e w3 ⟨rfl, hb⟩
          have HTB := Lib.hid (HTB.out.below hb)
          have HT := Lib.hid (HT.out.later hb)
          clear hb RU ca fa za
          go_upto_if 80 with fail
          obtain ⟨b16, hb16⟩ : ∃ n, n = w3.heap.size := ⟨_, rfl⟩
          obtain ⟨w4, hw4⟩ : ∃ V, V = w3.alloc (.cells #[.int .i64 k0, .int .i64 k1_, .int .i64 k2_, .int .i64 k3_, .int .i64 k4_, .int .i64 k5_] 34) := ⟨_, rfl⟩
          rw [← hw4, ← hb16]
          have hb : Below w3.heap.size w3 w4 := by rw [hw4]; exact (Below.refl _ _).alloc (Nat.le_refl _) _
          have HX := Lib.hid (show Blk w4 b16 #[.int .i64 k0, .int .i64 k1_, .int .i64 k2_, .int .i64 k3_, .int .i64 k4_, .int .i64 k5_] by rw [hw4, hb16]; exact Blk.new _ _ _)
          have HTB := Lib.hid (HTB.out.below hb)
          have HT := Lib.hid (HT.out.later hb)
          clear hb hw4 hb16
          go_cut [] (fun wx => Hid (BackBx w #[.slice ao l.length ac, .slice bo m.length bc] #[.int .i64 k, .string h1, .string h2, .string who, .string s1, .string s2, .string s3, .string s4, .string via] #[.int .i64 rk, .int .i64 rh, .int .i64 rw_, .int .i64 ra, .int .i64 rb, .int .i64 rv_] wx) ∧ Hid (TblAt wx t ba bb a b))
          case first =>
            cases ok with
            | false =>
              go_wp2_with fail
              go_meet
              exact ⟨HT, HTB⟩
            | true =>
              have SE := ST1.out rfl
              have S2 := Lib.hid (fun W (h : TblAt W t ba bb a b) => S1.out ⟨k0, k1_, k2_, k3_, k4_, k5_⟩ W h)
              rw [SE] at S2
              clear SE
              obtain ⟨cx, fx, zx⟩ := HX.out
              go_wp2_with fail
              refine (S2.out _ HTB.out).mono ?_
              rintro e w5 ⟨rfl, hb⟩
              have HTB := Lib.hid (HTB.out.below hb)
              have HT := Lib.hid (HT.out.later hb)
              clear hb cx fx zx S2
              have HE : ∀ W, (binOp .neq 26 (.agg #[.int .i64 k, .string h1, .string h2, .string who, .string s1, .string s2, .string s3, .string s4, .string via]) (.agg #[.int .i64 k, .string h1, .string h2, .string who, .string s1, .string s2, .string s3, .string s4, .string via])).run Try.prog W = .ok (.bool false) W := fun W => (stmt_neq' k h1 h2 who s1 s2 s3 s4 via k h1 h2 who s1 s2 s3 s4 via W).trans (by rw [show eqSt ⟨k, ⟨h1, h2⟩, who, ⟨s1, s2⟩, ⟨s3, s4⟩, via⟩ ⟨k, ⟨h1, h2⟩, who, ⟨s1, s2⟩, ⟨s3, s4⟩, via⟩ = true from decide_eq_true rfl]; rfl)
              go_upto_region 21 with fail
              obtain ⟨b18, hb18⟩ : ∃ n, n = w5.heap.size := ⟨_, rfl⟩
              obtain ⟨w6, hw6⟩ : ∃ V, V = w5.alloc (.cells #[.int .i64 k, .string h1, .string h2, .string who, .string s1, .string s2, .string s3, .string s4, .string via] 26) := ⟨_, rfl⟩
              rw [← hw6, ← hb18]
              have hb : Below w5.heap.size w5 w6 := by rw [hw6]; exact (Below.refl _ _).alloc (Nat.le_refl _) _
              have HY := Lib.hid (show Blk w6 b18 #[.int .i64 k, .string h1, .string h2, .string who, .string s1, .string s2, .string s3, .string s4, .string via] by rw [hw6, hb18]; exact Blk.new _ _ _)
              have HTB := Lib.hid (HTB.out.below hb)
              have HT := Lib.hid (HT.out.later hb)
              clear hb hw6 hb18
              obtain ⟨cy, fy, zy⟩ := HY.out
              obtain ⟨ca, fa, za⟩ := HT.out.s
              go_wp2_with fail
              go_meet
              exact ⟨HT, HTB⟩
          case rest =>
            clear HT HTB HX
            obtain ⟨HT, HTB⟩ := hcut
            have S2 := Lib.hid (fun W (h : TblAt W t ba bb a b) => S1.out ⟨rk, rh, rw_, ra, rb, rv_⟩ W h)
            obtain ⟨⟨xs, ok2⟩, hst⟩ : ∃ z, z = stmtN a b ⟨rk, rh, rw_, ra, rb, rv_⟩ := ⟨_, rfl⟩
            have EO : ok2 = okRu a.length b.length ⟨rk, rh, rw_, ra, rb, rv_⟩ := by rw [show ok2 = (stmtN a b ⟨rk, rh, rw_, ra, rb, rv_⟩).2 by rw [← hst]]; unfold stmtN; split <;> rename_i h <;> simp [h]
            have EX := Lib.hid (show okRu a.length b.length ⟨rk, rh, rw_, ra, rb, rv_⟩ = true → xs = normalS (stmtR a b ⟨rk, rh, rw_, ra, rb, rv_⟩) from fun h => by rw [show xs = (stmtN a b ⟨rk, rh, rw_, ra, rb, rv_⟩).1 by rw [← hst], stmtN_ok h])
            have RT := Lib.hid (fun W (h : TblAt W t ba bb a b) => table_Right a.length b.length ⟨rk, rh, rw_, ra, rb, rv_⟩ W h.na h.nb)
            rw [← hst] at S2
            generalize okRu a.length b.length ⟨rk, rh, rw_, ra, rb, rv_⟩ = okr at EO EX RT ST2
            subst EO
            clear hst S1 ST1
            have PR := Lib.hid (fun W (h : TblAt W t ba bb a b) => table_Prins h)
            have LK := Lib.hid (fun W (h : TblAt W t ba bb a b) => table_Links h)
            have LE := Lib.hid (fun (q : Nat) (c : List ByteArray) W (h : TabAt W q c) => tab_Len q c W h)
            have RX := Lib.hid (fun W (h : TblAt W t ba bb a b) hx => table_Rule h xs hx)
            have R3 := Lib.hid (fun W hx => ref3_Right xs W hx)
            obtain ⟨x0, ⟨x1, x2⟩, x3, ⟨x4, x5⟩, ⟨x6, x7⟩, x8⟩ := xs
            obtain ⟨ca, fa, za⟩ := HT.out.r
            go_wp2_with fail
            refine (S2.out _ HTB.out).mono ?_
            rintro e w5 ⟨rfl, hb⟩
            have HTB := Lib.hid (HTB.out.below hb)
            have HT := Lib.hid (HT.out.later hb)
            clear hb ca fa za S2
            go_upto_region 24 with fail
            obtain ⟨b20, hb20⟩ : ∃ n, n = w5.heap.size := ⟨_, rfl⟩
            obtain ⟨w6, hw6⟩ : ∃ V, V = w5.alloc (.cells #[.int .i64 x0, .string x1, .string x2, .string x3, .string x4, .string x5, .string x6, .string x7, .string x8] 26) := ⟨_, rfl⟩
            rw [← hw6, ← hb20]
            have hb : Below w5.heap.size w5 w6 := by rw [hw6]; exact (Below.refl _ _).alloc (Nat.le_refl _) _
            have HX := Lib.hid (show Blk w6 b20 #[.int .i64 x0, .string x1, .string x2, .string x3, .string x4, .string x5, .string x6, .string x7, .string x8] by rw [hw6, hb20]; exact Blk.new _ _ _)
            have HTB := Lib.hid (HTB.out.below hb)
            have HT := Lib.hid (HT.out.later hb)
            clear hb hw6 hb20
            go_wp2_with fail
            refine wp_region_held_drew (S := (fun W => ∀ o, W.cell? ⟨w.heap.size + 1 + 1, o, none⟩ = (#[.int .i64 rk, .int .i64 rh, .int .i64 rw_, .int .i64 ra, .int .i64 rb, .int .i64 rv_] : Array Value)[o]?)) (by kernel_rfl) HT.out.drew.r.1 (fun hHeld => ?_)
            have HT := HT.out.drew
            have HTB := HTB.out.below (below_drew (Below.refl _ _))
            have HX := HX.out.below (below_drew (Below.refl _ _))
            obtain ⟨wk, hwk⟩ : ∃ W, W = w6.drew := ⟨_, rfl⟩
            rw [← hwk] at HT HTB HX hHeld ⊢
            clear hwk
            (refine held_yes (v := ?_) 0 rfl (by kernel_rfl) (by kernel_rfl) (by kernel_rfl) (fun _ _ _ h => h) (by rfl) (by assumption) ?_ ?_; rotate_left; (focus ((intro w hSw); (try dsimp only at hSw); go_simp; (try with_reducible rfl))); (try simp only [Act.put, List.setIfInBounds_toArray, List.set_cons_zero, List.set_cons_succ])); (refine held_yes (v := ?_) 1 rfl (by kernel_rfl) (by kernel_rfl) (by kernel_rfl) (fun _ _ _ h => h) (by rfl) (by assumption) ?_ ?_; rotate_left; (focus ((intro w hSw); (try dsimp only at hSw); go_simp; (try with_reducible rfl))); (try simp only [Act.put, List.setIfInBounds_toArray, List.set_cons_zero, List.set_cons_succ])); (refine held_yes (v := ?_) 4 rfl (by kernel_rfl) (by kernel_rfl) (by kernel_rfl) (fun _ _ _ h => h) (by rfl) (by assumption) ?_ ?_; rotate_left; (focus ((intro w hSw); (try dsimp only at hSw); go_simp; (try with_reducible rfl))); (try simp only [Act.put, List.setIfInBounds_toArray, List.set_cons_zero, List.set_cons_succ])); (refine held_yes (v := ?_) 7 rfl (by kernel_rfl) (by kernel_rfl) (by kernel_rfl) (fun _ _ _ h => h) (by rfl) (by assumption) ?_ ?_; rotate_left; (focus ((intro w hSw); (try dsimp only at hSw); go_simp; (try with_reducible rfl))); (try simp only [Act.put, List.setIfInBounds_toArray, List.set_cons_zero, List.set_cons_succ]))
            (refine held_call 2 rfl (by kernel_rfl) (fun K hK => ?_); go_simp)
            go_at_call 16; refine (PR.out _ HTB).mono ?_; rintro e wq ⟨rfl, rfl⟩
            (refine hK.out _ _ (HT.r.1) (fun hHeld => ?_); clear hK K; (try simp only [Act.put, List.setIfInBounds_toArray, List.set_cons_zero, List.set_cons_succ]))
            (refine held_call 3 rfl (by kernel_rfl) (fun K hK => ?_); go_simp)
            go_at_call 17; refine (LE.out _ _ _ HTB.ta).mono ?_; rintro e wq2 ⟨rfl, rfl⟩
            (refine hK.out _ _ (HT.r.1) (fun hHeld => ?_); clear hK K; (try simp only [Act.put, List.setIfInBounds_toArray, List.set_cons_zero, List.set_cons_succ]))
            (refine held_call 5 rfl (by kernel_rfl) (fun K hK => ?_); go_simp)
            go_at_call 18; refine (LK.out _ HTB).mono ?_; rintro e wq3 ⟨rfl, rfl⟩
            (refine hK.out _ _ (HT.r.1) (fun hHeld => ?_); clear hK K; (try simp only [Act.put, List.setIfInBounds_toArray, List.set_cons_zero, List.set_cons_succ]))
            (refine held_call 6 rfl (by kernel_rfl) (fun K hK => ?_); go_simp)
            go_at_call 17; refine (LE.out _ _ _ HTB.tb).mono ?_; rintro e wq4 ⟨rfl, rfl⟩
            (refine hK.out _ _ (HT.r.1) (fun hHeld => ?_); clear hK K; (try simp only [Act.put, List.setIfInBounds_toArray, List.set_cons_zero, List.set_cons_succ]))
            (refine held_call 8 rfl (by kernel_rfl) (fun K hK => ?_); go_simp)
            go_at_call 23; refine (RT.out _ HTB).mono ?_; rintro e wr ⟨rfl, hbq⟩; have HX := HX.below hbq; have HTB := HTB.below hbq; have HT := HT.later hbq; clear hbq
            (refine hK.out _ _ (HT.r.1) (fun hHeld => ?_); clear hK K; (try simp only [Act.put, List.setIfInBounds_toArray, List.set_cons_zero, List.set_cons_succ]))
            (refine held_yes (v := ?_) 9 rfl (by kernel_rfl) (by kernel_rfl) (by kernel_rfl) (fun _ _ _ h => h) (by rfl) (by assumption) ?_ ?_; rotate_left; (focus ((intro w hSw); (try dsimp only at hSw); go_simp; (try with_reducible rfl))); (try simp only [Act.put, List.setIfInBounds_toArray, List.set_cons_zero, List.set_cons_succ]))
            refine wpAnyH_done (by kernel_rfl) ?_ _
            have HT := Lib.hid HT
            have HTB := Lib.hid HTB
            have HX := Lib.hid HX
            clear RT PR
            go_upto_if 110 with fail
            go_cut [] (fun wx => Hid (BackBx w #[.slice ao l.length ac, .slice bo m.length bc] #[.int .i64 k, .string h1, .string h2, .string who, .string s1, .string s2, .string s3, .string s4, .string via] #[.int .i64 rk, .int .i64 rh, .int .i64 rw_, .int .i64 ra, .int .i64 rb, .int .i64 rv_] wx) ∧ Hid (TblAt wx t ba bb a b))
            case first =>
              cases ok2 with
              | false =>
                go_wp2_with fail
                go_meet
                exact ⟨HT, HTB⟩
              | true =>
                obtain ⟨g1, y, g2, g3⟩ := ST2.out (by first | rfl | trivial)
                have ex := EX.out (by first | rfl | trivial)
                rw [← ex] at g1 g2 SZ
                obtain ⟨y0, y1, y2, y3, y4, y5⟩ := y
                have RX2 := Lib.hid (fun W (h : TblAt W t ba bb a b) => RX.out W h SZ.out)
                have R32 := Lib.hid (fun W => R3.out W SZ.out)
                rw [g2] at RX2
                rw [g1] at R32
                have g3 := Lib.hid g3
                clear g1 g2 ex RX R3 EX ST2
                obtain ⟨cx, fx, zx⟩ := HX.out
                go_wp2_with fail
                refine (RX2.out _ HTB.out).mono ?_
                rintro e w7 ⟨rfl, hb⟩
                have HX := Lib.hid (HX.out.below hb)
                have HTB := Lib.hid (HTB.out.below hb)
                have HT := Lib.hid (HT.out.later hb)
                clear hb cx fx zx RX2
                go_upto_region 28 with fail
                obtain ⟨b22, hb22⟩ : ∃ n, n = w7.heap.size := ⟨_, rfl⟩
                obtain ⟨w8, hw8⟩ : ∃ V, V = w7.alloc (.cells #[.int .i64 y0, .int .i64 y1, .int .i64 y2, .int .i64 y3, .int .i64 y4, .int .i64 y5] 34) := ⟨_, rfl⟩
                rw [← hw8, ← hb22]
                have hb : Below w7.heap.size w7 w8 := by rw [hw8]; exact (Below.refl _ _).alloc (Nat.le_refl _) _
                have HY := Lib.hid (show Blk w8 b22 #[.int .i64 y0, .int .i64 y1, .int .i64 y2, .int .i64 y3, .int .i64 y4, .int .i64 y5] by rw [hw8, hb22]; exact Blk.new _ _ _)
                have HTB := Lib.hid (HTB.out.below hb)
                have HT := Lib.hid (HT.out.later hb)
                have HX := Lib.hid (HX.out.below hb)
                clear hb hw8 hb22
                obtain ⟨cx, fx, zx⟩ := HX.out
                go_wp2_with fail
                refine (R32.out _).mono ?_
                rintro e w9 ⟨rfl, hb⟩
                have HY := Lib.hid (HY.out.below hb)
                have HTB := Lib.hid (HTB.out.below hb)
                have HT := Lib.hid (HT.out.later hb)
                clear hb cx fx zx R32 HX
                obtain ⟨cy, fy, zy⟩ := HY.out
                obtain ⟨ca, fa, za⟩ := HT.out.r
                have HE : ∀ W, (binOp .neq 34 (.agg #[.int .i64 y0, .int .i64 y1, .int .i64 y2, .int .i64 y3, .int .i64 y4, .int .i64 y5]) (.agg #[.int .i64 rk, .int .i64 rh, .int .i64 rw_, .int .i64 ra, .int .i64 rb, .int .i64 rv_])).run Try.prog W = .ok (.bool (!eqRu ⟨y0, y1, y2, y3, y4, y5⟩ ⟨rk, rh, rw_, ra, rb, rv_⟩)) W := fun W => rule_neq y0 y1 y2 y3 y4 y5 rk rh rw_ ra rb rv_ W
                have HQ := Lib.hid (show eqRu ⟨y0, y1, y2, y3, y4, y5⟩ ⟨rk, rh, rw_, ra, rb, rv_⟩ = false → rk = 4 ∧ y3 = rb ∧ y4 = ra ∧ y1 = rh from fun hn => by
                  rcases g3.out with e | e
                  · rw [e, eqRu_self] at hn; cases hn
                  · exact e)
                generalize eqRu ⟨y0, y1, y2, y3, y4, y5⟩ ⟨rk, rh, rw_, ra, rb, rv_⟩ = ey at HE HQ
                cases ey with
                | true =>
                  clear HQ
                  go_wp2_with fail
                  go_meet
                  exact ⟨HT, HTB⟩
                | false =>
                  obtain ⟨e1, e2, e3, e4⟩ := HQ.out (by first | rfl | trivial)
                  clear HQ g3
                  subst e1 e2 e3 e4
                  go_wp2_with fail
                  go_meet
                  exact ⟨HT, HTB⟩
            case rest =>
              clear HT HTB HX
              obtain ⟨HT, HTB⟩ := hcut
              clear HTB EX RX R3 LK ST2 SZ
              have NR := Lib.hid (fun W => nil_Rule ⟨k, ⟨h1, h2⟩, who, ⟨s1, s2⟩, ⟨s3, s4⟩, via⟩ W (hle.out.mono (by decide)))
              have NRo := Lib.hid nil_Roles
              have NRl := Lib.hid (fun W => nil_Role ⟨h1, h2⟩ W)
              have NRa := Lib.hid (fun W => nil_RoleAt W)
              have NP := Lib.hid nil_Prins
              have NL := Lib.hid nil_Links
              rw [show noR = ⟨emp, emp⟩ from rfl] at NRa
              obtain ⟨ca, fa, za⟩ := HT.out.s
              go_wp2_with fail
              refine (NR.out _).mono ?_
              rintro e w5 ⟨rfl, hb⟩
              have HT := Lib.hid (HT.out.later hb)
              clear hb ca fa za NR
              go_upto_region 32 with fail
              obtain ⟨w6, hw6⟩ : ∃ V, V = w5.alloc (.cells #[.int .i64 noRu.k, .int .i64 noRu.h, .int .i64 noRu.who, .int .i64 noRu.a, .int .i64 noRu.b, .int .i64 noRu.via] 34) := ⟨_, rfl⟩
              rw [← hw6]
              have hb : Below w5.heap.size w5 w6 := by rw [hw6]; exact (Below.refl _ _).alloc (Nat.le_refl _) _
              have HT := Lib.hid (HT.out.later hb)
              clear hb hw6
              go_wp2_with fail
              refine (NRo.out _).mono ?_
              rintro e w7 ⟨rfl, hb⟩
              have HT := Lib.hid (HT.out.later hb)
              clear hb NRo
              obtain ⟨ca, fa, za⟩ := HT.out.s
              go_wp2_with fail
              refine (NRl.out _).mono ?_
              rintro e w8 ⟨rfl, hb⟩
              have HT := Lib.hid (HT.out.later hb)
              clear hb NRl ca fa za
              go_wp2_with fail
              refine (NRa.out _).mono ?_
              rintro e w9 ⟨rfl, hb⟩
              have HT := Lib.hid (HT.out.later hb)
              clear hb NRa
              go_wp2_with fail
              refine (NP.out _).mono ?_
              rintro e w10 ⟨q1, rfl, hq, hb⟩
              have HT := Lib.hid (HT.out.later hb)
              have HQ := Lib.hid hq
              clear hb hq NP
              go_wp2_with fail
              refine (LE.out _ _ _ HQ.out).mono ?_
              rintro e w11 ⟨rfl, rfl⟩
              clear HQ
              go_wp2_with fail
              refine (NL.out _).mono ?_
              rintro e w12 ⟨q2, rfl, hq, hb⟩
              have HT := Lib.hid (HT.out.later hb)
              have HQ := Lib.hid hq
              clear hb hq NL
              go_wp2_with fail
              refine (LE.out _ _ _ HQ.out).mono ?_
              rintro e w13 ⟨rfl, rfl⟩
              clear HQ
              go_wp2_with fail
              refine (LV.out _).mono ?_
              rintro e w14 ⟨rfl, hb⟩
              have HT := Lib.hid (HT.out.later hb)
              clear hb LV
              go_wp2
              go_ret
              exact ⟨rfl, HT.out.low⟩
end Go.Proofs.Ythickpocfplcoaa
namespace Go.Proofs.Ythickpocfplcoaa
open Go.ChangeShapes Go.WideShapes Go.ChangeAt Go.RowKit

section
variable {H : Type} {enc : TypeId × Value → H} {w : World} {base fuel n : Nat} {sp : Nat → Bool} {held : Bool} {cs : List Value} {x : DataW H × List MemPlace} {v : Value} {d : DataW H} {ps : List MemPlace}
def dStr (H : Type) (s : ByteArray) : DataW H := .lit (.string s.data.toList)
def dRl (H : Type) (r : Rl) : DataW H := .agg [dStr H r.o, dStr H r.n]
def dSt (H : Type) (s : St) : DataW H := .agg [.lit (.int .i64 s.k), dRl H s.h, dStr H s.who, dRl H s.a, dRl H s.b, dStr H s.via]
/-- A statement whose parts are such as a world may hold. -/
def St.fits (s : St) : Prop := s.le maxLen ∧ (Lit.int IntKind.i64 s.k).wf = true

theorem two_of (h : cs.length = 2) : ∃ a b, cs = [a, b] := by
  match cs, h with
  | [a, b], _ => exact ⟨a, b, rfl⟩
theorem trod_role (h : DataW.trod enc Try.prog w base sp held fuel 24 cs = some x) : ∃ r : Rl, cs = r.cells ∧ x = (dRl H r, []) ∧ r.le maxLen := by
  obtain ⟨xs, n, _, rfl, hl, hlen, hf⟩ := DataW.trod_struct Try.underlying24 h
  have hc : Try.prog.cellsOf 24 = 2 := by kernel_rfl
  have hs : Try.prog.cellsOf 9 = 1 := by kernel_rfl
  rw [hc] at hl
  obtain ⟨a, b, rfl⟩ := two_of hl
  have f0 : DataW.trod enc Try.prog w base sp held n 9 [a] = xs[0]? := by simpa [hs] using hf 0 _ rfl
  have f1 : DataW.trod enc Try.prog w base sp held n 9 [b] = xs[1]? := by simpa [hs] using hf 1 _ rfl
  match xs, hlen with
  | [y0, y1], _ =>
    simp only [List.getElem?_cons_zero, List.getElem?_cons_succ] at f0 f1
    obtain ⟨s0, e0, g0, l0⟩ := DataW.trod_string Try.underlying9 f0
    obtain ⟨s1, e1, g1, l1⟩ := DataW.trod_string Try.underlying9 f1
    simp only [List.cons.injEq, and_true] at e0 e1
    subst e0 e1 g0 g1
    exact ⟨⟨s0, s1⟩, rfl, rfl, l0, l1⟩
theorem trod_role_mk (m : Nat) (r : Rl) (h : r.le maxLen) : DataW.trod enc Try.prog w base sp held (m + 2) 24 r.cells = some (dRl H r, []) := by
  have hs : Try.prog.cellsOf 9 = 1 := by kernel_rfl
  have hu : ∀ s : ByteArray, s.size ≤ maxLen → DataW.trod enc Try.prog w base sp held (m + 1) 9 [.string s] = some (dStr H s, []) := fun s hs => by
    simp [DataW.trod, Try.underlying9, hs, dStr]
  refine trod_struct2_mk (n := m + 1) (y0 := (dStr H r.o, [])) (y1 := (dStr H r.n, [])) Try.underlying24 (by kernel_rfl) ?_ ?_
  · rw [hs]; exact hu _ h.1
  · rw [hs]; exact hu _ h.2

theorem nine_of (h : cs.length = 9) : ∃ a b c d e f g i j, cs = [a, b, c, d, e, f, g, i, j] := by
  match cs, h with
  | [a, b, c, d, e, f, g, i, j], _ => exact ⟨a, b, c, d, e, f, g, i, j, rfl⟩
theorem trod_stmt (h : DataW.trod enc Try.prog w base sp held fuel 26 cs = some x) : ∃ s : St, cs = s.cells ∧ x = (dSt H s, []) ∧ s.fits := by
  obtain ⟨xs, n, _, rfl, hl, hlen, hf⟩ := DataW.trod_struct Try.underlying26 h
  have hc : Try.prog.cellsOf 26 = 9 := by kernel_rfl
  have hr : Try.prog.cellsOf 24 = 2 := by kernel_rfl
  have hi : Try.prog.cellsOf 3 = 1 := by kernel_rfl
  have hs : Try.prog.cellsOf 9 = 1 := by kernel_rfl
  rw [hc] at hl
  obtain ⟨c0, c1, c2, c3, c4, c5, c6, c7, c8, rfl⟩ := nine_of hl
  have f0 : DataW.trod enc Try.prog w base sp held n 3 [c0] = xs[0]? := by simpa [hi] using hf 0 _ rfl
  have f1 : DataW.trod enc Try.prog w base sp held n 24 [c1, c2] = xs[1]? := by simpa [hr] using hf 1 _ rfl
  have f2 : DataW.trod enc Try.prog w base sp held n 9 [c3] = xs[2]? := by simpa [hs] using hf 2 _ rfl
  have f3 : DataW.trod enc Try.prog w base sp held n 24 [c4, c5] = xs[3]? := by simpa [hr] using hf 3 _ rfl
  have f4 : DataW.trod enc Try.prog w base sp held n 24 [c6, c7] = xs[4]? := by simpa [hr] using hf 4 _ rfl
  have f5 : DataW.trod enc Try.prog w base sp held n 9 [c8] = xs[5]? := by simpa [hs] using hf 5 _ rfl
  match xs, hlen with
  | [y0, y1, y2, y3, y4, y5], _ =>
    simp only [List.getElem?_cons_zero, List.getElem?_cons_succ] at f0 f1 f2 f3 f4 f5
    obtain ⟨k, e0, g0, l0⟩ := DataW.trod_int Try.underlying3 f0
    obtain ⟨r1, e1, g1, l1⟩ := trod_role f1
    obtain ⟨s2, e2, g2, l2⟩ := DataW.trod_string Try.underlying9 f2
    obtain ⟨r3, e3, g3, l3⟩ := trod_role f3
    obtain ⟨r4, e4, g4, l4⟩ := trod_role f4
    obtain ⟨s5, e5, g5, l5⟩ := DataW.trod_string Try.underlying9 f5
    simp only [Rl.cells, List.cons.injEq, and_true] at e0 e1 e2 e3 e4 e5
    obtain ⟨rfl, rfl⟩ := e1
    obtain ⟨rfl, rfl⟩ := e3
    obtain ⟨rfl, rfl⟩ := e4
    subst e0 e2 e5 g0 g1 g2 g3 g4 g5
    exact ⟨⟨k, r1, s2, r3, r4, s5⟩, rfl, rfl, ⟨l1, l2, l3, l4, l5⟩, l0⟩
set_option maxRecDepth 100000 in
theorem open_stmt {r : Reach} {b0 : Nat} (hval : Value.okWide Try.prog w r b0 26 v) (hd : DataW.Trod enc Try.prog w base sp held 26 v d ps) :
    ∃ s : St, v = sv s ∧ d = dSt H s ∧ ps = [] ∧ s.fits := by
  obtain ⟨cs, rfl, _⟩ := okWide_struct Try.underlying26 hval
  obtain ⟨fuel, hf⟩ := hd
  obtain ⟨s, h, hx, hs⟩ := trod_stmt hf
  refine ⟨s, ?_, congrArg Prod.fst hx, congrArg Prod.snd hx, hs⟩
  obtain ⟨l⟩ := cs
  simp [Value.cells] at h
  rw [h]; rfl
theorem shut_stmt (s : St) (h : s.fits) : DataW.Trod enc Try.prog w base sp held 26 (sv s) (dSt H s) [] := by
  obtain ⟨⟨h1, h2, h3, h4, h5⟩, hk⟩ := h
  have hr : Try.prog.cellsOf 24 = 2 := by kernel_rfl
  have hi : Try.prog.cellsOf 3 = 1 := by kernel_rfl
  have hs : Try.prog.cellsOf 9 = 1 := by kernel_rfl
  have hu : ∀ s : ByteArray, s.size ≤ maxLen → DataW.trod enc Try.prog w base sp held 2 9 [.string s] = some (dStr H s, []) := fun s hs => by
    simp [DataW.trod, Try.underlying9, hs, dStr]
  have hn : DataW.trod enc Try.prog w base sp held 2 3 [.int .i64 s.k] = some (.lit (.int .i64 s.k), []) := trod_int_mk 1 Try.underlying3 hk
  refine ⟨3, ?_⟩
  have := trod_struct_mk (enc := enc) (w := w) (base := base) (spare := sp) (held := held) (n := 2) (cs := s.cells)
    (xs := [(.lit (.int .i64 s.k), []), (dRl H s.h, []), (dStr H s.who, []), (dRl H s.a, []), (dRl H s.b, []), (dStr H s.via, [])]) Try.underlying26 (by kernel_rfl) (by
      simp only [List.mapM_cons, List.mapM_nil, hr, hi, hs]
      have e1 := trod_role_mk (enc := enc) (w := w) (base := base) (sp := sp) (held := held) 0 s.h h1
      have e3 := trod_role_mk (enc := enc) (w := w) (base := base) (sp := sp) (held := held) 0 s.a h3
      have e4 := trod_role_mk (enc := enc) (w := w) (base := base) (sp := sp) (held := held) 0 s.b h4
      simp only [Rl.cells] at e1 e3 e4
      simp [St.cells, hn, hu _ h2, hu _ h5, e1, e3, e4])
  show DataW.trod enc Try.prog w base sp held 3 26 s.cells = some (dSt H s, [])
  simpa [dSt] using this
end
end Go.Proofs.Ythickpocfplcoaa
namespace Go.Proofs.Ythickpocfplcoaa
open Go.ChangeShapes Go.WideShapes Go.ChangeAt Go.RowKit Go.Deep

theorem laid_out : laidOutB Try.prog = true := by kernel_rfl
set_option maxRecDepth 100000 in
theorem open_sts {H : Type} {enc : TypeId × Value → H} {w : World} {base b0 : Nat} {held : Bool} {r : Reach} {v : Value} {d : DataW H} {ps : List MemPlace} (hval : Value.okWide Try.prog w r b0 51 v)
    (hd : DataW.Trod enc Try.prog w base (fun _ => true) held 51 v d ps) : ∃ l : List St, SlA w 9 v l.length (l.flatMap St.cells) ∧ ∀ s ∈ l, s.fits := by
  obtain ⟨a0, len, cap, rfl⟩ := okWide_slice Try.underlying51 hval
  obtain ⟨fuel, hf⟩ := hd
  have hc : Try.prog.cellsOf 26 = 9 := by kernel_rfl
  rcases open_slice Try.underlying51 hf with ⟨hcs, _⟩ | ⟨a, len', cap', m, n, D, Pl, hcs, _, hl, hm, hmm, _, hx⟩
  · simp [Value.cells] at hcs
    obtain ⟨rfl, rfl, rfl⟩ := hcs
    exact ⟨[], (Sl.nil _ _).a, fun s hs => by cases hs⟩
  · simp [Value.cells] at hcs
    obtain ⟨rfl, rfl, rfl⟩ := hcs
    simp only [if_true] at hmm
    subst hmm
    rw [hc] at hx
    have hex : ∀ i, i < m → ∃ s : St, w.cells? base (a.add (i * 9)) 9 = some s.cells ∧ s.fits := by
      intro i hi
      obtain ⟨cs', h1, h2⟩ := hx i hi
      obtain ⟨s, rfl, _, hs⟩ := trod_stmt h2
      exact ⟨s, h1, hs⟩
    obtain ⟨S, hS⟩ := choose_lt hex
    obtain ⟨b, off, spot⟩ := a
    by_cases h0 : 0 < len
    · have c0 := (World.cells?_some (hS 0 (by omega)).1).2.2 0 (by omega)
      have hspot : spot = none := by simpa [Addr.add] using World.cell?_spot (c0.trans rfl)
      subst hspot
      have hlen : ((List.range len).map S).length = len := by simp
      have hcell : ∀ j u, (((List.range len).map S).flatMap St.cells)[j]? = some u → w.cell? ⟨b, off + j, none⟩ = some u := by
        intro j u hu
        have hj : j < len * 9 := by
          have := (List.getElem?_eq_some_iff.1 hu).1
          rwa [flat_len St.cells 9 St.cells_len, hlen] at this
        have hf9 : j % 9 < 9 := Nat.mod_lt _ (by decide)
        have hi : j / 9 < len := by omega
        have e : j = j / 9 * 9 + j % 9 := by omega
        rw [e, flat_get St.cells 9 St.cells_len _ (j / 9) (j % 9) hf9 (S (j / 9)) (by simp [hi])] at hu
        have h1 := (World.cells?_some (hS (j / 9) (by omega)).1).2.2 (j % 9) hf9
        rw [add_add, add_plain, ← e] at h1
        exact h1.trans hu
      refine ⟨(List.range len).map S, .inl ?_, fun s hs => ?_⟩
      · rw [hlen]
        refine ⟨by rw [flat_len St.cells 9 St.cells_len, hlen], by omega, .inr ⟨b, off, m, rfl, hl, hm, ?_, hcell⟩⟩
        have h2 := hcell 0 (.int .i64 (S 0).k) (by
          have := flat_get St.cells 9 St.cells_len ((List.range len).map S) 0 0 (by omega) (S 0) (by simp [h0])
          have e : (0 : Nat) * 9 + 0 = 0 := rfl
          rw [e] at this
          exact this.trans rfl)
        exact World.block_lt_of_cell? _ _ h2
      · obtain ⟨i, hi, rfl⟩ := List.mem_map.1 hs
        exact (hS i (by have := List.mem_range.1 hi; omega)).2
    · have hl0 : len = 0 := by omega
      subst hl0
      exact ⟨[], .inr ⟨⟨_, _, rfl⟩, rfl, rfl⟩, fun s hs => by cases hs⟩
end Go.Proofs.Ythickpocfplcoaa
