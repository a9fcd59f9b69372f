/- The statement SynRight: the walk of the law, and of its 'lives'. -/
import Derived.Test.YtmpanikeeeoikaaDoorSynParse
import Derived.Test.YtmpanikeeeoikaaDoorSynLight
import Derived.Deep.RegionHeld3
import Derived.Deep.DeepCutAuto
import Derived.KernelRfl
namespace Go.Proofs.YtmpanikeeeoikaaDoor
open Go.RowKit Go.Shelf

def livesS : St := ⟨4, ⟨⟨#[65]⟩, ⟨#[114]⟩⟩, emp, ⟨⟨#[65]⟩, ⟨#[115]⟩⟩, ⟨⟨#[66]⟩, ⟨#[115]⟩⟩, emp⟩
theorem lives_parse : parseS ⟨#[65, 46, 114, 32, 60, 45, 32, 66, 46, 115, 32, 38, 32, 65, 46, 115]⟩ = (livesS, 0, 0) := by kernel_rfl
theorem lives_printS : printS livesS = ⟨#[65, 46, 114, 32, 60, 45, 32, 65, 46, 115, 32, 38, 32, 66, 46, 115]⟩ := by kernel_rfl
theorem lives_right : rightS livesS = true := by kernel_rfl
theorem lives_le : livesS.le 4294967 := by
  simp only [livesS, St.le, Rl.le, ByteArray.size]; decide

set_option maxRecDepth 100000 in
set_option maxHeartbeats 1000000 in
theorem law3_lives (w : World) (hg : Gl w) : Calls Tryd.prog 5 #[] w fun e w' => e = .returned (.bool true) ∧ Below w.heap.size w w' := by
  have HP := Lib.hid (syn_Parse ⟨#[65, 46, 114, 32, 60, 45, 32, 66, 46, 115, 32, 38, 32, 65, 46, 115]⟩ w (by decide) hg)
  have H1 := Lib.hid fun W => syn_Print livesS W lives_le
  have H2 := Lib.hid fun W => syn_Right livesS W lives_le
  rw [lives_parse] at HP
  rw [lives_printS] at H1
  rw [lives_right] at H2
  simp only [livesS, sv, emp] at HP H1 H2
  go_enter Tryd.func5, Tryd.ntmps5
  go_wp2_with (first
    | (go_at_call 13; refine HP.out.mono ?_; rintro e w1 ⟨rfl, hb1⟩)
    | (go_at_call 14; refine (H1.out _).mono ?_; rintro e w2 ⟨rfl, hb2⟩; obtain ⟨ca, fa, za⟩ := keep1 hb2)
    | (go_at_call 15; refine (H2.out _).mono ?_; rintro e w3 ⟨rfl, hb3⟩))
  go_ret
  have hz1 := hb1.size
  have hz2 := hb2.size
  have hz3 := hb3.size
  simp at hz2
  refine ⟨rfl, ?_⟩
  (repeat' (first | with_reducible exact Below.refl _ _ | with_reducible assumption | with_reducible (refine Below.setCell ?_ ?_ _) | with_reducible (refine Below.alloc ?_ ?_ _) | with_reducible (refine below_drew ?_) | with_reducible (refine below_drewN ?_ _) | with_reducible (refine Below.trans ?_ (Below.mono (by assumption) ?_)) | omega | (simp; done) | (simp; omega)))

def roles1 (s : St) : List Rl := if 2 ≤ s.k ∧ s.k ≤ 4 then [s.h, s.a] else [s.h]
theorem roles1_yes {s : St} (h : 2 ≤ s.k) (h' : s.k ≤ 4) : roles1 s = [s.h] ++ [s.a] := if_pos ⟨h, h'⟩
theorem roles1_no {s : St} (h : ¬ (2 ≤ s.k ∧ s.k ≤ 4)) : roles1 s = [s.h] := if_neg h
theorem roles1_four {s : St} (h : s.k = 4) : rolesS s = roles1 s ++ [s.b] := by
  rw [rolesS_three h, roles1_yes (by omega) (by omega)]; rfl
theorem roles1_else {s : St} (h : ¬ s.k = 4) : rolesS s = roles1 s := by
  unfold rolesS roles1
  by_cases h2 : s.k = 2 ∨ s.k = 3
  · rw [if_pos h2, if_pos (by omega)]
  · rw [if_neg h2, if_neg h, if_neg (by omega)]
def Stop_ (p : Prop) : Prop := p
theorem stop_ {p : Prop} (h : Stop_ p) : p := h
def midQ (k : Int) : Bool := decide (2 ≤ k ∧ k ≤ 4)
theorem roles1_len (s : St) : (roles1 s).length ≤ 2 := by unfold roles1; split <;> simp
/-- The roles stand in a row of the call's own; the statement's block stands whole. -/
structure RolesAt (w : World) (cs : Array Value) (l : List Rl) (v : Value) (wx : World) : Prop where
  own : wx.ownsRow (w.heap.size + 1) 23 2 v l.length (l.flatMap Rl.cells)
  blk : Blk wx w.heap.size cs
  low : Below w.heap.size w wx
theorem rl_info : (Tryd.prog.info? 23).map (fun i => (i.zero, i.size, i.bytes)) = some (some (.agg #[.string ByteArray.empty, .string ByteArray.empty]), 2, 32) := by kernel_rfl
theorem rl_one (x y : ByteArray) : ∀ u ∈ [Value.string x, Value.string y], u.oneCell' = true := by
  intro u hu; simp at hu; rcases hu with rfl | rfl <;> rfl
theorem RolesAt.push {w wx w2 : World} {cs : Array Value} {l : List Rl} {v v' : Value} (h : RolesAt w cs l v wx) (x y : ByteArray) (o : Obj)
    (hown : w2.ownsRow (w.heap.size + 1) 23 2 v' (l.length + 1) (l.flatMap Rl.cells ++ [.string x, .string y])) (hg : (wx.alloc o).grownBy w2 v.ownBlock) : RolesAt w cs (l ++ [⟨x, y⟩]) v' w2 := by
  have hlt : ∀ k, v.ownBlock = some k → w.heap.size + 1 ≤ k := fun k hk => (h.own.lt k hk).1
  have hsz := h.low.size
  refine ⟨by simpa [List.flatMap_append, Rl.cells] using hown, (h.blk.alloc o).grown hg (fun e => by have := hlt _ e.symm; omega), ?_⟩
  exact (h.low.alloc hsz o).grown hg (by simp; omega) (fun k hk => by have := hlt k hk; omega)

end Go.Proofs.YtmpanikeeeoikaaDoor
