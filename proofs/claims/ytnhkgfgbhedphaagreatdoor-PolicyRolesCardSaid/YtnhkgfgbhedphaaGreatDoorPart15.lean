/- The statement PolicyRoles: the walk of the law. Roles and statements among a law's arguments: opened to data, and read again in a later world. Rows of statements among a law's arguments: opened. Policies among a law's arguments: opened. Roles among a law's arguments, opened (seats without math/bits' table). -/
import Derived.Test.YtnhkgfgbhedphaaGreatDoorPart14
import Derived.Test.YtnhkgfgbhedphaaGreatDoorPart5
import Derived.Test.YtnhkgfgbhedphaaGreatDoorPart6
import Derived.Test.YtnhkgfgbhedphaaGreatDoorPart9
import Derived.ProofKit
import Derived.OpenShut
import Derived.ChangeMaps5
import Derived.Deep.Strs
import Derived.Test.YtnhkgfgbhedphaaGreatDoorPart3
import Derived.Deep.Slices
namespace Go.Proofs.YtnhkgfgbhedphaaGreatDoor
open Go.RowKit Go.Shelf

set_option maxRecDepth 100000 in
set_option maxHeartbeats 4000000 in
theorem law5_PolicyRoles (va : Value) (l : List Rl) (r : Rl) (w : World) (hg : Gl w) (ha : SlA w 2 va l.length (l.flatMap Rl.cells)) :
    Calls Tryz.prog 5 #[va, rv r] w fun e w' => e = .returned (.bool true) ∧ Below w.heap.size w w' := by
  have HL := Lib.hid (fun W (hb : Below w.heap.size w W) => law5_lives W (hg.below hb))
  have HA := Lib.hid ha
  have hmax := ha.max
  obtain ⟨ao, ac, rfl⟩ := ha.form
  obtain ⟨ro, rn⟩ := r
  have HT := Lib.hid (show OneAt w #[.string ro, .string rn] (w.alloc (.cells #[.string ro, .string rn] 54)) from ⟨Blk.new w _ _, (Below.refl _ _).alloc (Nat.le_refl _) _⟩)
  clear ha hg
  by_cases h30 : 30 < l.length
  · have d1 : decide ((30 : Int) < (l.length : Int)) = true := by (rw [decide_eq_true_iff]; omega)
    go_enter Tryz.func5, Tryz.ntmps5
    go_wp2_with fail
    refine (HL.out _ HT.out.low).mono ?_
    rintro e w1 ⟨rfl, hb⟩
    have HB := Lib.hid (HT.out.low.trans (hb.mono HT.out.low.size))
    clear hb
    go_wp2
    go_ret
    exact ⟨rfl, HB.out⟩
  · have d1 : decide ((30 : Int) < (l.length : Int)) = false := by (rw [decide_eq_false_iff_not]; omega)
    have hl30 : l.length ≤ 30 := by omega
    clear h30
    go_enter Tryz.func5, Tryz.ntmps5
    go_wp2_with fail
    refine wp_region_held_drew (S := fun W => ∀ o, W.cell? ⟨w.heap.size, o, none⟩ = (#[.string ro, .string rn] : Array Value)[o]?) (by kernel_rfl) (HT.out.drew.a.1) (fun hHeld => ?_)
    have HT := Lib.hid HT.out.drew
    obtain ⟨W4, hW4⟩ : ∃ X, X = (w.alloc (.cells #[.string ro, .string rn] 54)).drew := ⟨_, rfl⟩
    rw [← hW4] at HT hHeld ⊢
    clear hW4
    (refine hyes 0 ?_); (refine hyes 2 ?_); (try simp only [Act.put, List.setIfInBounds_toArray, List.set])
    (refine held_call 1 rfl (by kernel_rfl) (fun K hK => ?_); go_simp)
    go_at_call 27; refine (pol_SortRolesO _ l _ (HA.out.below HT.out.low) (by omega)).mono ?_; rintro e w1 ⟨v1, rfl, ho1, hb1⟩
    have HT := Lib.hid (HT.out.later hb1)
    have H1 := Lib.hid (Sl.of_own ho1).a
    obtain ⟨b1, c1, rfl⟩ := own_form ho1
    clear ho1 hb1
    (refine hK.out _ _ HT.out.a.1 (fun hHeld => ?_); clear hK K; (try simp only [Act.put, List.setIfInBounds_toArray, List.set]))
    (refine held_call 3 rfl (by kernel_rfl) (fun K hK => ?_); go_simp)
    go_at_call 18; refine (ref5_Sort _ l _ (HA.out.below HT.out.low) (by omega)).mono ?_; rintro e w2 ⟨v2, rfl, ho2, hb2⟩
    have HT := Lib.hid (HT.out.later hb2)
    have H1 := Lib.hid (H1.out.below hb2)
    have H2 := Lib.hid ho2.a
    obtain ⟨b2, c2, rfl⟩ := ho2.form
    clear ho2 hb2
    (refine hK.out _ _ HT.out.a.1 (fun hHeld => ?_); clear hK K; (try simp only [Act.put, List.setIfInBounds_toArray, List.set]))
    have SM := Lib.hid (fun W (hb : Below w2.heap.size w2 W) => ref3_SameRolesE _ _ (insAllR [] l) (insAllR [] l) W (H1.out.below hb) (H2.out.below hb))
    rw [decide_eq_true (rfl : insAllR [] l = insAllR [] l)] at SM
    (refine held_call 4 rfl (by kernel_rfl) (fun K hK => ?_); go_simp)
    go_at_call 17; refine (SM.out _ (Below.refl _ _)).mono ?_; rintro e w3 ⟨rfl, hb3⟩
    have HT := Lib.hid (HT.out.later hb3)
    clear hb3 SM H1 H2
    (refine hK.out _ _ HT.out.a.1 (fun hHeld => ?_); clear hK K; (try simp only [Act.put, List.setIfInBounds_toArray, List.set]))
    (refine hyes 5 ?_); (refine hyes 6 ?_); (refine hyes 7 ?_); (refine hyes 9 ?_); (refine hyes 10 ?_); (try simp only [Act.put, List.setIfInBounds_toArray, List.set])
    have P1 := Lib.hid (fun W (hb : Below w3.heap.size w3 W) => policy_Has _ l ⟨ro, rn⟩ W ((HA.out.below HT.out.low).below hb))
    have P2 := Lib.hid (fun W (hb : Below w3.heap.size w3 W) => ref5_Has _ l ⟨ro, rn⟩ W ((HA.out.below HT.out.low).below hb))
    generalize hasR l ⟨ro, rn⟩ = hb0 at *
    (refine held_call 8 rfl (by kernel_rfl) (fun K hK => ?_); go_simp)
    go_at_call 28; refine (P1.out _ (Below.refl _ _)).mono ?_; rintro e w5 ⟨rfl, hb5⟩
    have HT5 := Lib.hid (HT.out.later hb5)
    have HB5 := Lib.hid hb5
    clear hb5
    (refine hK.out _ _ HT5.out.a.1 (fun hHeld => ?_); clear hK K; (try simp only [Act.put, List.setIfInBounds_toArray, List.set]))
    (refine held_call 11 rfl (by kernel_rfl) (fun K hK => ?_); go_simp)
    go_at_call 29; refine (P2.out _ HB5.out).mono ?_; rintro e w6 ⟨rfl, hb6⟩
    have HT6 := Lib.hid (HT5.out.later hb6)
    clear hb6 P1 P2
    (refine hK.out _ _ HT6.out.a.1 (fun hHeld => ?_); clear hK K; (try simp only [Act.put, List.setIfInBounds_toArray, List.set]))
    (refine hyes 12 ?_); (refine hyes 13 ?_); (refine hyes 14 ?_); (try simp only [Act.put, List.setIfInBounds_toArray, List.set])
    (refine held_call 15 rfl (by kernel_rfl) (fun K hK => ?_); go_simp)
    go_at_call 23; refine (HL.out _ HT6.out.low).mono ?_; rintro e w7 ⟨rfl, hb7⟩
    have HT7 := Lib.hid (HT6.out.later hb7)
    clear hb7
    (refine hK.out _ _ HT7.out.a.1 (fun hHeld => ?_); clear hK K; (try simp only [Act.put, List.setIfInBounds_toArray, List.set]))
    (refine hyes 16 ?_); (refine hyes 17 ?_); (try simp only [Act.put, List.setIfInBounds_toArray, List.set])
    refine wpAnyH_done (by kernel_rfl) ?_ _
    go_wp2
    go_ret
    exact ⟨rfl, HT7.out.low⟩
end Go.Proofs.YtnhkgfgbhedphaaGreatDoor
namespace Go.Proofs.YtnhkgfgbhedphaaGreatDoor
open Go.ChangeShapes Go.WideShapes Go.ChangeAt Go.RowKit

section
variable {H : Type} {enc : TypeId × Value → H} {w : World} {base fuel n : Nat} {sp : Nat → Bool} {held : Bool} {cs : List Value} {x : DataW H × List MemPlace} {v : Value} {d : DataW H} {ps : List MemPlace}
def dStr (H : Type) (s : ByteArray) : DataW H := .lit (.string s.data.toList)
def dRl (H : Type) (r : Rl) : DataW H := .agg [dStr H r.o, dStr H r.n]
theorem two_of (h : cs.length = 2) : ∃ a b, cs = [a, b] := by
  match cs, h with
  | [a, b], _ => exact ⟨a, b, rfl⟩
theorem trod_role (h : DataW.trod enc Tryz.prog w base sp held fuel 54 cs = some x) : ∃ r : Rl, cs = r.cells ∧ x = (dRl H r, []) ∧ r.le maxLen := by
  obtain ⟨xs, n, _, rfl, hl, hlen, hf⟩ := DataW.trod_struct Tryz.underlying54 h
  have hc : Tryz.prog.cellsOf 54 = 2 := by kernel_rfl
  have hs : Tryz.prog.cellsOf 9 = 1 := by kernel_rfl
  rw [hc] at hl
  obtain ⟨a, b, rfl⟩ := two_of hl
  have f0 : DataW.trod enc Tryz.prog w base sp held n 9 [a] = xs[0]? := by simpa [hs] using hf 0 _ rfl
  have f1 : DataW.trod enc Tryz.prog w base sp held n 9 [b] = xs[1]? := by simpa [hs] using hf 1 _ rfl
  match xs, hlen with
  | [y0, y1], _ =>
    simp only [List.getElem?_cons_zero, List.getElem?_cons_succ] at f0 f1
    obtain ⟨s0, e0, g0, l0⟩ := DataW.trod_string Tryz.underlying9 f0
    obtain ⟨s1, e1, g1, l1⟩ := DataW.trod_string Tryz.underlying9 f1
    simp only [List.cons.injEq, and_true] at e0 e1
    subst e0 e1 g0 g1
    exact ⟨⟨s0, s1⟩, rfl, rfl, l0, l1⟩
end
end Go.Proofs.YtnhkgfgbhedphaaGreatDoor
namespace Go.Proofs.YtnhkgfgbhedphaaGreatDoor
open Go.ChangeShapes Go.WideShapes Go.ChangeAt Go.RowKit Go.Deep

theorem laid_out : laidOutB Tryz.prog = true := by kernel_rfl
end Go.Proofs.YtnhkgfgbhedphaaGreatDoor
namespace Go.Proofs.YtnhkgfgbhedphaaGreatDoor
open Go.ChangeShapes Go.WideShapes Go.ChangeAt Go.RowKit Go.Deep

section
variable {H : Type} {enc : TypeId × Value → H} {w : World} {base : Nat} {held : Bool}
theorem open_rowOf {α : Type} [Inhabited α] (cells : α → List Value) (k : Nat) (hk : 0 < k) (hlen : ∀ x, (cells x).length = k) {t e : TypeId} (ht : Tryz.prog.underlying t = some (.slice e)) (hc : Tryz.prog.cellsOf e = k) (p : α → Prop)
    (each : ∀ n cs y, DataW.trod enc Tryz.prog w base (fun _ => true) held n e cs = some y → ∃ x : α, cs = cells x ∧ p x) {fuel : Nat} {c : Value} {y : DataW H × List MemPlace}
    (hf : DataW.trod enc Tryz.prog w base (fun _ => true) held fuel t [c] = some y) : ∃ l : List α, SlA w k c l.length (l.flatMap cells) ∧ ∀ x ∈ l, p x := by
  rcases open_slice ht hf with ⟨hcs, _⟩ | ⟨a, len, cap, m, n, D, Pl, hcs, _, hl, hm, hmm, _, hx⟩
  · simp only [List.cons.injEq, and_true] at hcs
    subst hcs
    exact ⟨[], (Sl.nil _ _).a, fun s hs => by cases hs⟩
  · simp only [List.cons.injEq, and_true] at hcs
    subst hcs
    simp only [if_true] at hmm
    subst hmm
    rw [hc] at hx
    have hex : ∀ i, i < m → ∃ s : α, w.cells? base (a.add (i * k)) k = some (cells s) ∧ p s := by
      intro i hi
      obtain ⟨cs', h1, h2⟩ := hx i hi
      obtain ⟨s, rfl, hs⟩ := each _ _ _ h2
      exact ⟨s, h1, hs⟩
    obtain ⟨S, hS⟩ := choose_lt hex
    obtain ⟨b, off, spot⟩ := a
    by_cases h0 : 0 < len
    · have hk0 : 0 < (cells (S 0)).length := by rw [hlen]; exact hk
      have c0 := (World.cells?_some (hS 0 (by omega)).1).2.2 0 hk
      rw [List.getElem?_eq_getElem hk0] at c0
      have hspot : spot = none := by simpa [Addr.add] using World.cell?_spot c0
      subst hspot
      have hlenl : ((List.range len).map S).length = len := by simp
      have hcell : ∀ j u, (((List.range len).map S).flatMap cells)[j]? = some u → w.cell? ⟨b, off + j, none⟩ = some u := by
        intro j u hu
        have hj : j < len * k := by
          have := (List.getElem?_eq_some_iff.1 hu).1
          rwa [flat_len cells k hlen, hlenl] at this
        have hf9 : j % k < k := Nat.mod_lt _ hk
        have hi : j / k < len := Nat.div_lt_of_lt_mul (by rwa [Nat.mul_comm])
        have e : j = j / k * k + j % k := by rw [Nat.mul_comm]; exact (Nat.div_add_mod j k).symm
        rw [e, flat_get cells k hlen _ (j / k) (j % k) hf9 (S (j / k)) (by simp [hi])] at hu
        have h1 := (World.cells?_some (hS (j / k) (by omega)).1).2.2 (j % k) hf9
        rw [add_add, add_plain, ← e] at h1
        exact h1.trans hu
      refine ⟨(List.range len).map S, .inl ?_, fun s hs => ?_⟩
      · rw [hlenl]
        refine ⟨by rw [flat_len cells k hlen, hlenl], by omega, .inr ⟨b, off, m, rfl, hl, hm, ?_, hcell⟩⟩
        rw [add_add, add_plain] at c0
        exact World.block_lt_of_cell? _ _ c0
      · obtain ⟨i, hi, rfl⟩ := List.mem_map.1 hs
        exact (hS i (by have := List.mem_range.1 hi; omega)).2
    · have hl0 : len = 0 := by omega
      subst hl0
      exact ⟨[], .inr ⟨⟨_, _, rfl⟩, rfl, rfl⟩, fun s hs => by cases hs⟩

theorem maxLen_eq : maxLen = 9223372036854775807 := by decide
theorem rle_max {r : Rl} (h : r.le maxLen) : r.le 9223372036854775807 := by rwa [maxLen_eq] at h
instance : Inhabited Rl := ⟨noR⟩
theorem open_rls {fuel : Nat} {c : Value} {y : DataW H × List MemPlace} (hf : DataW.trod enc Tryz.prog w base (fun _ => true) held fuel 23 [c] = some y) :
    ∃ l : List Rl, SlA w 2 c l.length (l.flatMap Rl.cells) ∧ ∀ x ∈ l, x.le 9223372036854775807 :=
  open_rowOf Rl.cells 2 (by decide) Rl.cells_len Tryz.underlying23 (by kernel_rfl) (fun s => s.le 9223372036854775807)
    (fun _ _ _ h => by obtain ⟨s, e, _, hs⟩ := trod_role h; exact ⟨s, e, rle_max hs⟩) hf
end
end Go.Proofs.YtnhkgfgbhedphaaGreatDoor
namespace Go.Proofs.YtnhkgfgbhedphaaGreatDoor
open Go.ChangeShapes Go.WideShapes Go.ChangeAt Go.RowKit
section
variable {H : Type} {enc : TypeId × Value → H} {w : World} {base b0 : Nat} {held : Bool} {r : Reach} {v : Value} {d : DataW H} {ps : List MemPlace}
set_option maxRecDepth 100000 in
theorem open_roleQ (hval : Value.okWide Tryz.prog w r b0 54 v) (hd : DataW.Trod enc Tryz.prog w base (fun _ => true) held 54 v d ps) : ∃ x : Rl, v = rv x ∧ x.le 9223372036854775807 := by
  obtain ⟨cs, rfl, _⟩ := okWide_struct Tryz.underlying54 hval
  obtain ⟨fuel, hf⟩ := hd
  obtain ⟨s, h, _, hs⟩ := trod_role hf
  refine ⟨s, ?_, rle_max hs⟩
  obtain ⟨l⟩ := cs
  simp only [Value.cells] at h
  rw [show l = s.cells from by simpa using h]; rfl
set_option maxRecDepth 100000 in
theorem open_rolesQ (hval : Value.okWide Tryz.prog w r b0 23 v) (hd : DataW.Trod enc Tryz.prog w base (fun _ => true) held 23 v d ps) : ∃ l : List Rl, SlA w 2 v l.length (l.flatMap Rl.cells) ∧ ∀ x ∈ l, x.le 9223372036854775807 := by
  obtain ⟨a0, len, cap, rfl⟩ := okWide_slice Tryz.underlying23 hval
  obtain ⟨fuel, hf⟩ := hd
  exact open_rls hf
end
end Go.Proofs.YtnhkgfgbhedphaaGreatDoor
