/- Package state: Minus and About. -/
import Derived.Test.YtmpanikeeeoikaaStFns
namespace Go.Proofs.Ytmpanikeeeoikaa
open Go.RowKit Go.Shelf

set_option maxHeartbeats 1000000 in
theorem state_Minus1 (c : Nat) (vb : Value) (m : List St) (x : St) (w : World) (hc : w.cell? ⟨c, 0, none⟩ = some vb) (hb : SlA w 9 vb m.length (m.flatMap St.cells)) :
    Calls Try.prog 38 #[sv x, .pointer (some ⟨c, 0, none⟩)] w fun e w' => e = .returned (.bool (!hasS m x)) ∧ Below w.heap.size w w' := by
  have H := Lib.hid (fun W h => state_Has vb m x W h)
  have HB := Lib.hid hb
  have hlt : c < w.heap.size := World.block_lt_of_cell? w _ hc
  generalize hasS m x = r at H ⊢
  obtain ⟨bo, bc, hvb⟩ := hb.form
  subst hvb
  obtain ⟨xk, ⟨x1, x2⟩, xw, ⟨x3, x4⟩, ⟨x5, x6⟩, xv⟩ := x
  clear hb
  go_enter Try.func38, Try.ntmps38
  go_wp2_with fail
  refine (H.out _ (HB.out.below ((Below.refl _ _).alloc (Nat.le_refl _) _))).mono ?_
  rintro e w1 ⟨rfl, hb1⟩
  have HB1 := Lib.hid (((Below.refl _ w).alloc (Nat.le_refl _) _).trans (hb1.mono (by simp)) : Below w.heap.size w w1)
  clear hb1
  go_wp2
  go_ret
  exact ⟨rfl, HB1.out⟩

set_option maxHeartbeats 1000000 in
theorem state_Minus (va vb : Value) (l m : List St) (w : World) (ha : SlA w 9 va l.length (l.flatMap St.cells)) (hb : SlA w 9 vb m.length (m.flatMap St.cells)) (hl : l.length ≤ 1000) :
    Calls Try.prog 21 #[va, vb] w fun e w' => ∃ v, e = .returned v ∧ Sl w' 9 v (ord (l.filter fun x => !hasS m x)).length ((ord (l.filter fun x => !hasS m x)).flatMap St.cells) ∧ Below w.heap.size w w' := by
  have eg : ∀ args w, (callFunc 38 args).run Try.prog w = .ok (.enter 38 args) w := enters_of Try.func38 (by kernel_rfl) rfl
  have hw : Below w.heap.size w (w.alloc (.cells #[vb] 22)) := (Below.refl _ _).alloc (Nat.le_refl _) _
  have O := Lib.hid (state_only va l (w.alloc (.cells #[vb] 22)) (ha.below hw) hl 38 #[.pointer (some ⟨w.heap.size, 0, none⟩)] (fun x => !hasS m x) eg (fun x W hW =>
    state_Minus1 w.heap.size vb m x W ((hW.cell (p := ⟨w.heap.size, 0, none⟩) (by simp)).trans (by rw [(Blk.new w #[vb] _).1]; rfl)) ((hb.below hw).below hW)))
  have HW := Lib.hid hw
  obtain ⟨bo, bc, hvb⟩ := hb.form
  subst hvb
  clear ha hb hw eg
  go_enter Try.func21, Try.ntmps21
  go_wp2_with fail
  refine O.out.mono ?_
  rintro e w1 ⟨v, rfl, hs, hb1⟩
  have HS := Lib.hid hs
  have HB := Lib.hid (HW.out.trans (hb1.mono HW.out.size))
  clear hs hb1
  go_wp2
  go_ret
  exact ⟨_, rfl, HS.out, HB.out⟩

set_option maxHeartbeats 1000000 in
theorem state_About1 (c : Nat) (r : Rl) (x : St) (w : World) (hc : w.cell? ⟨c, 0, none⟩ = some (.string r.o)) (hc1 : w.cell? ⟨c, 1, none⟩ = some (.string r.n)) :
    Calls Try.prog 49 #[sv x, .pointer (some ⟨c, 0, none⟩)] w fun e w' => e = .returned (.bool (eqRl x.h r)) ∧ Below w.heap.size w w' := by
  have hlt : c < w.heap.size := World.block_lt_of_cell? w _ hc
  have hEq := role_eql
  obtain ⟨r1, r2⟩ := r
  obtain ⟨xk, ⟨x1, x2⟩, xw, ⟨x3, x4⟩, ⟨x5, x6⟩, xv⟩ := x
  go_enter Try.func49, Try.ntmps49
  go_wp2
  go_ret
  exact ⟨rfl, (Below.refl _ _).alloc (Nat.le_refl _) _⟩
set_option maxHeartbeats 1000000 in
theorem state_About (va : Value) (l : List St) (r : Rl) (w : World) (ha : SlA w 9 va l.length (l.flatMap St.cells)) (hl : l.length ≤ 1000) :
    Calls Try.prog 29 #[va, rv r] w fun e w' => ∃ v, e = .returned v ∧ Sl w' 9 v (ord (l.filter fun x => eqRl x.h r)).length ((ord (l.filter fun x => eqRl x.h r)).flatMap St.cells) ∧ Below w.heap.size w w' := by
  have eg : ∀ args w, (callFunc 49 args).run Try.prog w = .ok (.enter 49 args) w := enters_of Try.func49 (by kernel_rfl) rfl
  obtain ⟨r1, r2⟩ := r
  have hw : Below w.heap.size w (w.alloc (.cells #[.string r1, .string r2] 28)) := (Below.refl _ _).alloc (Nat.le_refl _) _
  have O := Lib.hid (state_only va l (w.alloc (.cells #[.string r1, .string r2] 28)) (ha.below hw) hl 49 #[.pointer (some ⟨w.heap.size, 0, none⟩)] (fun x => eqRl x.h ⟨r1, r2⟩) eg (fun x W hW =>
    state_About1 w.heap.size ⟨r1, r2⟩ x W ((hW.cell (p := ⟨w.heap.size, 0, none⟩) (by simp)).trans (by rw [(Blk.new w #[.string r1, .string r2] _).1]; rfl)) ((hW.cell (p := ⟨w.heap.size, 1, none⟩) (by simp)).trans (by rw [(Blk.new w #[.string r1, .string r2] _).1]; rfl))))
  have HW := Lib.hid hw
  clear ha hw eg
  go_enter Try.func29, Try.ntmps29
  go_wp2_with fail
  refine O.out.mono ?_
  rintro e w1 ⟨v, rfl, hs, hb1⟩
  have HS := Lib.hid hs
  have HB := Lib.hid (HW.out.trans (hb1.mono HW.out.size))
  clear hs hb1
  go_wp2
  go_ret
  exact ⟨_, rfl, HS.out, HB.out⟩
end Go.Proofs.Ytmpanikeeeoikaa
