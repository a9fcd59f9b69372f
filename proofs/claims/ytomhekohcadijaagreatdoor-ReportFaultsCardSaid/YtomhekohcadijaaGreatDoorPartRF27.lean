/- A policy and its text, in plain Lean: its lines, what a line adds to a policy, what a text is as one. Plain laws of a policy's lines: what a line adds may be, and how few. A store into a block of slices leaves all rows of other things as they were. table.Table.RoleAt. Rules compared; the role of a number. Two blocks of a call's own that stand whole. table.Table.Rule (printed by gen_tabrule.py). Plain laws: which rules may be; the statement of a rule; rules and statements undo each other. Plain laws: the least model of rules, and of statements; worklists; rows of pairs. What lines of a policy come to, one behind the other, in plain Lean. A policy's text is parsed as that policy, in plain Lean. slices.Equal, Grow and Concat at rows of roles (printed by gen_rlall.py out of StSlices, StUnion). slices.IndexFunc and slices.DeleteFunc at rows of roles. The statement StateParts: the walk of the law. -/
import Derived.Test.YtomhekohcadijaaGreatDoorPartRF22
import Derived.Test.YtomhekohcadijaaGreatDoorPartRF26
import Derived.Test.YtomhekohcadijaaGreatDoorPartRF9
import Derived.Test.YtomhekohcadijaaGreatDoorPartRF12
import Derived.Test.YtomhekohcadijaaGreatDoorPartRF17
import Derived.Test.YtomhekohcadijaaGreatDoorPartRF5
import Derived.Test.YtomhekohcadijaaGreatDoorPartRF1
import Derived.Test.YtomhekohcadijaaGreatDoorPartRF15
import Derived.Test.YtomhekohcadijaaGreatDoorPartRF8
import Derived.Test.YtomhekohcadijaaGreatDoorPartRF25
import Derived.Test.YtomhekohcadijaaGreatDoorPartRF14
import Derived.Test.YtomhekohcadijaaGreatDoorPartRF16
namespace Go.Proofs.YtomhekohcadijaaGreatDoor
open Go.RowKit Go.Shelf

structure Pd where
  l : List St
  g : List Rl
  h : List Rl
  q : List Qd
def qz (z : Qd × Value) : Qv := ⟨z.1.k, z.1.a, z.1.b, z.2⟩
def dq (d : Qd) : Qv := ⟨d.k, d.a, d.b, nilV⟩
def prinsD (p : Pd) : List ByteArray := newB ((allRoles p.l p.g p.h (p.q.map dq)).map Rl.o ++ p.l.flatMap whoS ++ p.q.flatMap Qd.us)
def namesD (p : Pd) : List ByteArray := newB ((allRoles p.l p.g p.h (p.q.map dq)).map Rl.n ++ p.l.flatMap viaS)
def fitsD (p : Pd) : Bool := decide (p.l.length ≤ 80) && (decide (p.g.length ≤ 40) && (decide (p.h.length ≤ 40) && (decide (p.q.length ≤ 16) && (decide ((prinsD p).length ≤ 16) && decide ((namesD p).length ≤ 12)))))

structure OkP (p : Pd) : Prop where
  l : ∀ x ∈ p.l, rightS x = true
  g : ∀ x ∈ p.g, isRole x = true
  h : ∀ x ∈ p.h, isRole x = true
  q : ∀ x ∈ p.q, GoodQ x
structure RightD (p : Pd) : Prop where
  ok : OkP p
  l : p.l = insAll [] p.l
  g : p.g = insAllR [] p.g
  h : p.h = insAllR [] p.h
  f : fitsD p = true
theorem allRoles_dq (l : List St) (g h : List Rl) (zs : List (Qd × Value)) : allRoles l g h (zs.map qz) = allRoles l g h ((zs.map (·.1)).map dq) := by
  unfold allRoles
  congr 1
  induction zs with
  | nil => rfl
  | cons z zs ih => simp only [List.map_cons, List.flatMap_cons]; rw [ih]; rfl
theorem whoD (zs : List (Qd × Value)) (F : Qv → List ByteArray) (hF : ∀ z ∈ zs, F (qz z) = z.1.us) : (zs.map qz).flatMap F = (zs.map (·.1)).flatMap Qd.us := by
  induction zs with
  | nil => rfl
  | cons z zs ih =>
    simp only [List.map_cons, List.flatMap_cons]
    rw [ih (fun x hx => hF x (List.mem_cons_of_mem _ hx)), hF z (List.mem_cons_self ..)]
theorem fitsD_of (p : Pd) (zs : List (Qd × Value)) (F : Qv → List ByteArray) (hz : zs.map (·.1) = p.q) (hF : ∀ z ∈ zs, F (qz z) = z.1.us) (hl : p.l.length ≤ 80) (hg : p.g.length ≤ 40) (hh : p.h.length ≤ 40) :
    fitsD p = fitsP p.l p.g p.h (zs.map qz) F := by
  unfold fitsD fitsP prinsD namesD allPrins allNames
  rw [decide_eq_true hl, decide_eq_true hg, decide_eq_true hh, allRoles_dq, whoD zs F hF, hz, List.length_map, ← hz, List.length_map]
  simp
end Go.Proofs.YtomhekohcadijaaGreatDoor
namespace Go.Proofs.YtomhekohcadijaaGreatDoor
open Go.RowKit Go.Shelf

theorem rightS_le {s : St} (h : rightS s = true) : s.le 8 := by
  obtain ⟨k, ⟨h1, h2⟩, who, ⟨a1, a2⟩, ⟨b1, b2⟩, via⟩ := s
  have hP : ∀ {lo hi : Int} {x : ByteArray}, isP lo hi (bl x) = true → x.size ≤ 8 := fun h => by have := (isP_len h).2; rwa [bl_len] at this
  have h0 : emp.size ≤ 8 := by decide
  have hN : ∀ {x y : ByteArray}, (⟨x, y⟩ : Rl) = noR → x.size ≤ 8 ∧ y.size ≤ 8 := fun e => by cases e; exact ⟨h0, h0⟩
  simp only [rightS, Bool.and_eq_true, isRole_iff] at h
  obtain ⟨⟨ho, hn⟩, h⟩ := h
  refine ⟨⟨hP ho, hP hn⟩, ?_⟩
  show who.size ≤ 8 ∧ (a1.size ≤ 8 ∧ a2.size ≤ 8) ∧ (b1.size ≤ 8 ∧ b2.size ≤ 8) ∧ via.size ≤ 8
  by_cases k1 : k = 1
  · rw [if_pos k1] at h
    simp only [Bool.and_eq_true, eqRl, decide_eq_true_iff] at h
    obtain ⟨⟨⟨hw, ea⟩, eb⟩, rfl⟩ := h
    exact ⟨hP hw, hN ea, hN eb, h0⟩
  rw [if_neg k1] at h
  by_cases k2 : k = 2
  · rw [if_pos k2] at h
    simp only [Bool.and_eq_true, eqRl, decide_eq_true_iff, isRole_iff] at h
    obtain ⟨⟨⟨rfl, ha, hc⟩, eb⟩, rfl⟩ := h
    exact ⟨h0, ⟨hP ha, hP hc⟩, hN eb, h0⟩
  rw [if_neg k2] at h
  by_cases k3 : k = 3
  · rw [if_pos k3] at h
    simp only [Bool.and_eq_true, eqRl, decide_eq_true_iff, isRole_iff] at h
    obtain ⟨⟨⟨rfl, ha, hc⟩, eb⟩, hv⟩ := h
    exact ⟨h0, ⟨hP ha, hP hc⟩, hN eb, hP hv⟩
  rw [if_neg k3] at h
  by_cases k4 : k = 4
  · rw [if_pos k4] at h
    simp only [Bool.and_eq_true, decide_eq_true_iff, isRole_iff] at h
    obtain ⟨⟨⟨⟨rfl, ha, hc⟩, hd, he⟩, rfl⟩, _⟩ := h
    exact ⟨h0, ⟨hP ha, hP hc⟩, ⟨hP hd, hP he⟩, h0⟩
  · rw [if_neg k4] at h; cases h
theorem isRole_le {x : Rl} (h : isRole x = true) : x.le 8 := by
  obtain ⟨h1, h2⟩ := (isRole_iff x.o x.n).1 h
  exact ⟨isP_size' h1, isP_size' h2⟩
theorem good_us {q : Qd} (h : GoodQ q) : ∀ s ∈ q.us, s.size ≤ 8 := fun s hs => isP_size' (h.p s hs)
theorem good_a {q : Qd} (h : GoodQ q) : q.a.le 8 := isRole_le h.a
theorem good_b {q : Qd} (h : GoodQ q) : q.b.le 8 := by
  by_cases h5 : 5 ≤ q.k
  · exact isRole_le (h.two h5)
  · rw [h.one h5]; exact ⟨Nat.zero_le _, Nat.zero_le _⟩
end Go.Proofs.YtomhekohcadijaaGreatDoor
namespace Go.Proofs.YtomhekohcadijaaGreatDoor
open Go.RowKit Go.Shelf

theorem Blk.put {w : World} {g o : Nat} {cs : Array Value} {v : Value} (h : Blk w g cs) (ho : o < cs.size) : Blk (w.setCell ⟨g, o, none⟩ v) g (cs.setIfInBounds o v) := by
  refine ⟨fun i => ?_, fun i => by simpa using h.2.1 i, by simpa using h.2.2⟩
  by_cases e : i = o
  · subst e
    rw [World.cell?_setCell_same (u := cs[i]) _ _ _ (by rw [h.1 i]; exact Array.getElem?_eq_getElem ho)]
    simp [ho]
  · rw [set_far _ _ _ _ _ e, h.1 i, Array.getElem?_setIfInBounds, if_neg (fun h => e h.symm)]
def puts (w : World) (g : Nat) : Nat → List Value → World
  | _, [] => w
  | o, v :: vs => puts (w.setCell ⟨g, o, none⟩ v) g (o + 1) vs
end Go.Proofs.YtomhekohcadijaaGreatDoor
namespace Go.Proofs.YtomhekohcadijaaGreatDoor
open Go.RowKit Go.Shelf

end Go.Proofs.YtomhekohcadijaaGreatDoor
namespace Go.Proofs.YtomhekohcadijaaGreatDoor
open Go.RowKit Go.Shelf

end Go.Proofs.YtomhekohcadijaaGreatDoor
namespace Go.Proofs.YtomhekohcadijaaGreatDoor
open Go.RowKit Go.Shelf

structure TwoAt (w : World) (A B : Array Value) (wx : World) : Prop where
  a : Blk wx w.heap.size A
  b : Blk wx (w.heap.size + 1) B
  low : Below w.heap.size w wx
theorem TwoAt.later {w wx w' : World} {A B : Array Value} (h : TwoAt w A B wx) (hb : Below wx.heap.size wx w') : TwoAt w A B w' := ⟨h.a.below hb, h.b.below hb, h.low.trans (hb.mono h.low.size)⟩
end Go.Proofs.YtomhekohcadijaaGreatDoor
namespace Go.Proofs.YtomhekohcadijaaGreatDoor
open Go.RowKit Go.Shelf

end Go.Proofs.YtomhekohcadijaaGreatDoor
namespace Go.Proofs.YtomhekohcadijaaGreatDoor
open Go.RowKit Go.Shelf

def turned (y r : Ru) : Prop := y = r ∨ (r.k = 4 ∧ y.a = r.b ∧ y.b = r.a ∧ y.h = r.h)
end Go.Proofs.YtomhekohcadijaaGreatDoor
namespace Go.Proofs.YtomhekohcadijaaGreatDoor
open Go.RowKit Go.Shelf

end Go.Proofs.YtomhekohcadijaaGreatDoor
namespace Go.Proofs.YtomhekohcadijaaGreatDoor
open Go.RowKit Go.Shelf

end Go.Proofs.YtomhekohcadijaaGreatDoor
namespace Go.Proofs.YtomhekohcadijaaGreatDoor
open Go.RowKit Go.Shelf

theorem isP_ten {lo hi : Int} {w : List UInt8} (h : isP lo hi w = true) : ∀ c ∈ w, ¬ c = 10 := by
  match w, h with
  | c :: w, h =>
    simp only [isP, Bool.and_eq_true, decide_eq_true_iff] at h
    intro x hx e
    have := List.all_eq_true.1 h.2 x hx
    rw [e] at this
    exact absurd this (by decide)
theorem bl_app (a b : ByteArray) : bl (a ++ b) = bl a ++ bl b := by simp [bl]
theorem role_ten {x : Rl} (h : isRole x = true) : ∀ c ∈ bl (roleT x), ¬ c = 10 := by
  simp only [isRole, Bool.and_eq_true] at h
  have e : bl (roleT x) = bl x.o ++ 46 :: bl x.n := by simp [roleT, bl]
  intro c hc
  rw [e] at hc
  rcases List.mem_append.1 hc with hc | hc
  · exact isP_ten h.1 c hc
  rcases List.mem_cons.1 hc with rfl | hc
  · decide
  · exact isP_ten h.2 c hc
theorem tailL_ten : ∀ (xs : List ByteArray), (∀ x ∈ xs, ∀ c ∈ bl x, ¬ c = 10) → ∀ c ∈ tailL xs, ¬ c = 10
  | [], _ => fun c hc => by cases hc
  | x :: r, h => fun c hc => by
    rw [tailL_cons] at hc
    rcases List.mem_cons.1 hc with rfl | hc
    · decide
    rcases List.mem_append.1 hc with hc | hc
    · exact h x (by simp) c hc
    · exact tailL_ten r (fun y hy => h y (by simp [hy])) c hc
theorem words_ten (k : Int) : ∀ c ∈ tailL (wordsL k), ¬ c = 10 := by
  unfold wordsL
  split
  · decide
  split
  · decide
  split
  · decide
  split
  · decide
  split
  · decide
  split <;> decide
theorem textQ_ten (q : Qd) (h : GoodQ q) : ∀ c ∈ bl (textQ q), ¬ c = 10 := by
  unfold textQ
  rw [parts_line, lineQ_app]
  intro c hc
  rcases List.mem_append.1 hc with hc | hc
  · unfold headW at hc
    split at hc
    · exact isP_ten (word_isP' _ (by simp)) c hc
    · exact isP_ten (word_isP' _ (by simp)) c hc
  rcases List.mem_cons.1 hc with rfl | hc
  · decide
  rcases List.mem_append.1 hc with hc | hc
  · exact role_ten h.a c hc
  rcases List.mem_append.1 hc with hc | hc
  · exact words_ten _ c hc
  rcases List.mem_append.1 hc with hc | hc
  · refine tailL_ten _ (fun x hx => ?_) c hc
    split at hx
    · rename_i hs
      rw [List.mem_singleton.1 hx]
      refine role_ten (h.two ?_)
      unfold secB at hs
      simp only [Bool.or_eq_true, decide_eq_true_iff] at hs
      omega
    · cases hx
  · exact tailL_ten _ (fun x hx => isP_ten (h.p x hx)) c hc
theorem printS_ten (s : St) (h : rightS s = true) : ∀ c ∈ bl (printS s), ¬ c = 10 := by
  obtain ⟨k, hd, who, a, b, via⟩ := s
  have hr := h
  have c4 : ∀ c ∈ bl (⟨#[32, 60, 45, 32]⟩ : ByteArray), ¬ c = 10 := by decide
  have c3 : ∀ c ∈ bl (⟨#[32, 38, 32]⟩ : ByteArray), ¬ c = 10 := by decide
  have c1 : ∀ c ∈ bl (⟨#[46]⟩ : ByteArray), ¬ c = 10 := by decide
  unfold printS
  rw [if_pos hr]
  by_cases k1 : k = 1
  · subst k1
    rw [rightS1] at h
    simp only [Bool.and_eq_true] at h
    rw [if_neg (show ¬(1 : Int) = 2 by decide), if_neg (show ¬(1 : Int) = 3 by decide), if_neg (show ¬(1 : Int) = 4 by decide), bl_app, bl_app]
    intro c hc
    simp only [List.mem_append] at hc
    rcases hc with (hc | hc) | hc
    · exact role_ten h.1.1 c hc
    · exact c4 c hc
    · exact isP_ten h.1.2 c hc
  by_cases k2 : k = 2
  · subst k2
    rw [rightS2] at h
    simp only [Bool.and_eq_true] at h
    rw [if_pos rfl, bl_app, bl_app]
    intro c hc
    simp only [List.mem_append] at hc
    rcases hc with (hc | hc) | hc
    · exact role_ten h.1.1 c hc
    · exact c4 c hc
    · exact role_ten h.1.2 c hc
  by_cases k3 : k = 3
  · subst k3
    rw [rightS3] at h
    simp only [Bool.and_eq_true] at h
    rw [if_neg (show ¬(3 : Int) = 2 by decide), if_pos rfl, bl_app, bl_app, bl_app, bl_app]
    intro c hc
    simp only [List.mem_append] at hc
    rcases hc with (hc | hc) | ((hc | hc) | hc)
    · exact role_ten h.1.1.1 c hc
    · exact c4 c hc
    · exact role_ten h.1.1.2 c hc
    · exact c1 c hc
    · exact isP_ten h.1.2 c hc
  by_cases k4 : k = 4
  · subst k4
    rw [rightS4] at h
    simp only [Bool.and_eq_true] at h
    rw [if_neg (show ¬(4 : Int) = 2 by decide), if_neg (show ¬(4 : Int) = 3 by decide), if_pos rfl, bl_app, bl_app, bl_app, bl_app]
    intro c hc
    simp only [List.mem_append] at hc
    rcases hc with (hc | hc) | ((hc | hc) | hc)
    · exact role_ten h.1.1.1.1 c hc
    · exact c4 c hc
    · exact role_ten h.1.1.1.2 c hc
    · exact c3 c hc
    · exact role_ten h.1.1.2 c hc
  rw [rightS0 _ _ _ _ _ _ k1 k2 k3 k4] at hr
  cases hr
theorem lines_join : ∀ (L : List ByteArray), (∀ s ∈ L, ∀ c ∈ bl s, ¬ c = 10) → linesP (joinN L) = L.map (fun s => (bl s, true))
  | [], _ => rfl
  | s :: L, h => by
    have e : joinN (s :: L) = bl s ++ 10 :: joinN L := by unfold joinN; simp
    rw [e]
    have h1 := lines_at (bl s ++ 10 :: joinN L) (bl s).length (fun k hk => by
      rw [List.getElem?_append_left hk]
      intro h2
      obtain ⟨_, h3⟩ := List.getElem?_eq_some_iff.1 h2
      exact h s (by simp) _ (List.getElem_mem _) h3) (by simp)
    rw [h1, List.take_left, show (bl s ++ 10 :: joinN L).drop ((bl s).length + 1) = joinN L by rw [show bl s ++ 10 :: joinN L = (bl s ++ [10]) ++ joinN L by simp]; exact List.drop_left' (by simp)]
    rw [lines_join L (fun x hx => h x (by simp [hx]))]
    rfl
theorem linesB_join {L : List ByteArray} (h : ∀ s ∈ L, ∀ c ∈ bl s, ¬ c = 10) : linesB ⟨(joinN L).toArray⟩ = L := by
  unfold linesB
  rw [bl_mk, lines_join L h, List.map_map]
  conv => rhs; rw [← List.map_id L]
  refine List.map_congr_left fun s _ => ?_
  exact ba_bl s
end Go.Proofs.YtomhekohcadijaaGreatDoor
namespace Go.Proofs.YtomhekohcadijaaGreatDoor
open Go.RowKit Go.Shelf

theorem rl_Grow (n : Nat) (w : World) (hn : n ≤ 2000) : Calls Tryz.prog 293 #[.slice none 0 0, .int .i64 n] w fun e w' =>
    ∃ a cap, e = .returned (.slice a 0 cap) ∧ w'.ownsRow w.heap.size 78 2 (.slice a 0 cap) 0 [] ∧ Below w.heap.size w w' := by
  by_cases h0 : 0 < n
  · obtain ⟨inf, hinf, hz0, hz1, hz2⟩ := info_parts rl_info'
    refine (Any8.slices_Grow_grow Tryz.growR inf _ hinf hz0 (by omega) none 0 0 n [] w (Nat.le_refl _) (by omega) (by rw [hz2]; omega) (by omega) (by simp) (fun _ => rfl) (fun a h => by cases h)).mono ?_
    rintro e w' ⟨rfl, rfl⟩
    have hge := grownCap_ge w (0 + n) 0 78
    have hle := grownCap_le_maxLen w (0 + n) 0 78 (by simp only [maxLen]; omega)
    refine ⟨_, _, rfl, World.ownsRow_made w.drew _ _ (Nat.le_refl _) hle ?_, (below_drew (Below.refl _ _)).alloc (Nat.le_refl _) _⟩
    rw [Nat.zero_add] at hge hle ⊢
    simp [Builtin.zeroCells, Value.cells]
    rw [show Tryz.growR_ren.t 25 = 78 from rfl]
    omega
  · obtain rfl : n = 0 := by omega
    refine (Any8.slices_Grow_room Tryz.growR none 0 0 0 w (Nat.le_refl _) (by omega) (by omega) (by omega)).mono ?_
    rintro e w' ⟨rfl, rfl⟩
    exact ⟨_, _, rfl, World.ownsRow_nil _ _ _ _, Below.refl _ _⟩
set_option maxRecDepth 100000 in
set_option maxHeartbeats 4000000 in
theorem rl_Concat (g : Nat) (va vb : Value) (l m : List Rl) (w : World) (hg : Blk w g #[va, vb]) (ha : SlA w 2 va l.length (l.flatMap Rl.cells)) (hb : SlA w 2 vb m.length (m.flatMap Rl.cells)) (hl : l.length ≤ 1000) (hm : m.length ≤ 1000) :
    Calls Tryz.prog 254 #[.slice (some ⟨g, 0, none⟩) 2 2] w fun e w' => ∃ v, e = .returned v ∧ Sl w' 2 v (l ++ m).length ((l ++ m).flatMap Rl.cells) ∧ Below w.heap.size w w' := by
  have HA := Lib.hid ha
  have HB := Lib.hid hb
  have HG := Lib.hid hg
  obtain ⟨ao, ac, hva⟩ := ha.form
  obtain ⟨bo, bc, hvb⟩ := hb.form
  subst hva hvb
  have GR : Hid (∀ W, Calls Tryz.prog 293 #[.slice none 0 0, .int .i64 ((l.length : Int) + (m.length : Int))] W fun e w' =>
      ∃ a cap, e = .returned (.slice a 0 cap) ∧ w'.ownsRow W.heap.size 78 2 (.slice a 0 cap) 0 [] ∧ Below W.heap.size W w') := Lib.hid (fun W => by
    have h := rl_Grow (l.length + m.length) W (by omega)
    rw [Int.natCast_add] at h
    exact h)
  have c0 : w.cell? ⟨g, 0, none⟩ = some (.slice ao l.length ac) := (hg.1 0).trans rfl
  have c1 : w.cell? ⟨g, 1, none⟩ = some (.slice bo m.length bc) := (hg.1 1).trans rfl
  have hgw : g < w.heap.size := hg.2.2
  clear ha hb hg
  go_enter Tryz.func254, Tryz.ntmps254
  go_wp2
  go_loop [3, 11] (fun n i => (n = .int .i64 0 ∧ i = .int .i64 0) ∨ (n = .int .i64 l.length ∧ i = .int .i64 1) ∨ (n = .int .i64 ((l.length : Int) + (m.length : Int)) ∧ i = .int .i64 2)) (fun _ i => 2 - (intOf i).toNat)
  case atStart => exact .inl ⟨rfl, rfl⟩
  case round =>
    obtain ⟨rfl, rfl⟩ | ⟨rfl, rfl⟩ | ⟨rfl, rfl⟩ := hrel
    · have d : decide ((l.length : Int) < 0) = false := by (rw [decide_eq_false_iff_not]; omega)
      have hw : IntKind.i64.wrap ((0 : Int) + (l.length : Int)) = (l.length : Int) := by rw [Int.zero_add]; exact Go.IntWalk.i64_in _ (by omega)
      go_wp2
      exact ⟨.inr (.inl ⟨rfl, rfl⟩), by simp [intOf]⟩
    · have d : decide ((l.length : Int) + (m.length : Int) < 0) = false := by (rw [decide_eq_false_iff_not]; omega)
      have hw : IntKind.i64.wrap ((l.length : Int) + (m.length : Int)) = (l.length : Int) + (m.length : Int) := Go.IntWalk.i64_in _ (by omega)
      go_wp2
      exact ⟨.inr (.inr ⟨rfl, rfl⟩), by simp [intOf]⟩
    · go_wp2_with fail
      refine (GR.out _).mono ?_
      rintro e w1 ⟨a1, cap1, rfl, hown, hb1⟩
      have HO := Lib.hid hown
      have HB1 := Lib.hid hb1
      clear hown hb1 c0 c1 hgw
      go_wp2_with fail
      go_loopw [6, 27] (fun vo i wr => Hid (Below w.heap.size w wr) ∧ ((i = .int .i64 0 ∧ Hid (wr.ownsRow w.heap.size 78 2 vo 0 [])) ∨ (i = .int .i64 1 ∧ Hid (wr.ownsRow w.heap.size 78 2 vo l.length (l.flatMap Rl.cells))) ∨ (i = .int .i64 2 ∧ Hid (wr.ownsRow w.heap.size 78 2 vo (l.length + m.length) ((l ++ m).flatMap Rl.cells))))) (fun _ i _ => 2 - (intOf i).toNat)
      case atStart => exact ⟨HB1, .inl ⟨rfl, HO⟩⟩
      case round =>
        obtain ⟨HBR, ⟨rfl, HOR⟩ | ⟨rfl, HOR⟩ | ⟨rfl, HOR⟩⟩ := hrel
        · have hbk := HG.out.below HBR.out
          have c0 : wr.cell? ⟨g, 0, none⟩ = some (.slice ao l.length ac) := (hbk.1 0).trans rfl
          have hgw : g < wr.heap.size := hbk.2.2
          obtain ⟨xo, xc, rfl⟩ := own_form HOR.out
          clear hbk
          go_wp2_with (at_builtin; refine halt_ ?_)
          unfold Halt_
          refine app_row Tryz.underlying23 rl_info' rfl (by decide) (by decide) rfl _ _ rfl w.heap.size rfl HOR.out rfl (HA.out.below HBR.out) (rls_one _) (by omega) HBR.out.size ?_
          intro a' cap' w3 hown' hgrow
          have HO3 := Lib.hid (show w3.ownsRow w.heap.size 78 2 (.slice a' l.length cap') l.length (l.flatMap Rl.cells) by simpa using hown')
          have HB3 := Lib.hid (below_own HBR.out HOR.out hgrow HBR.out.size (Nat.le_refl _))
          clear hown' hgrow
          go_wp2_with fail
          exact ⟨⟨HB3, .inr (.inl ⟨rfl, HO3⟩)⟩, by simp [intOf]⟩
        · have hbk := HG.out.below HBR.out
          have c1 : wr.cell? ⟨g, 1, none⟩ = some (.slice bo m.length bc) := (hbk.1 1).trans rfl
          have hgw : g < wr.heap.size := hbk.2.2
          obtain ⟨xo, xc, rfl⟩ := own_form HOR.out
          clear hbk
          go_wp2_with (at_builtin; refine halt_ ?_)
          unfold Halt_
          refine app_row Tryz.underlying23 rl_info' rfl (by decide) (by decide) rfl _ _ rfl w.heap.size rfl HOR.out rfl (HB.out.below HBR.out) (rls_one _) (by omega) HBR.out.size ?_
          intro a' cap' w3 hown' hgrow
          have HO3 := Lib.hid (show w3.ownsRow w.heap.size 78 2 (.slice a' (l.length + m.length) cap') (l.length + m.length) ((l ++ m).flatMap Rl.cells) by rw [rl_flat]; exact hown')
          have HB3 := Lib.hid (below_own HBR.out HOR.out hgrow HBR.out.size (Nat.le_refl _))
          clear hown' hgrow
          go_wp2_with fail
          exact ⟨⟨HB3, .inr (.inr ⟨rfl, HO3⟩)⟩, by simp [intOf]⟩
        · obtain ⟨xo, xc, rfl⟩ := own_form HOR.out
          have HS := Lib.hid (Sl.of_own HOR.out)
          go_wp2_with fail
          go_ret
          exact ⟨_, rfl, by rw [List.length_append]; exact HS.out, HBR.out⟩
end Go.Proofs.YtomhekohcadijaaGreatDoor
namespace Go.Proofs.YtomhekohcadijaaGreatDoor
open Go.RowKit Go.Shelf

end Go.Proofs.YtomhekohcadijaaGreatDoor
namespace Go.Proofs.YtomhekohcadijaaGreatDoor
open Go.RowKit Go.Shelf

def minusS (l m : List St) : List St := ord (l.filter fun x => !hasS m x)
def unionS (l m : List St) : List St := ord (l ++ m)
theorem minus_mem (l m : List St) (x : St) : x ∈ minusS l m ↔ x ∈ l ∧ ¬ x ∈ m := by
  unfold minusS
  rw [ord_mem, List.mem_filter, Bool.not_eq_true', ← Bool.not_eq_true, hasS_mem]
theorem union_mem (l m : List St) (x : St) : x ∈ unionS l m ↔ x ∈ l ∨ x ∈ m := by
  unfold unionS; rw [ord_mem, List.mem_append]
theorem union_asc (l m : List St) : Asc (unionS l m) := ord_asc _
theorem minus_len (l m : List St) : (minusS l m).length ≤ l.length := Nat.le_trans (ord_len _) (List.length_filter_le _ _)
set_option maxHeartbeats 1000000 in
theorem state_GoneO (v0 v1 v2 v3 vc : Value) (l m : List St) (w : World) (_h1 : v1.oneCell' = true) (_h2 : v2.oneCell' = true) (_h3 : v3.oneCell' = true) (ha : SlA w 9 v0 l.length (l.flatMap St.cells)) (hb : SlA w 9 vc m.length (m.flatMap St.cells)) (hl : l.length ≤ 5000) :
    Calls Tryz.prog 83 #[pv v0 v1 v2 v3, vc] w fun e w' => ∃ v, e = .returned v ∧ w'.ownsRow w.heap.size 80 9 v (minusS l m).length ((minusS l m).flatMap St.cells) ∧ Below w.heap.size w w' := by
  have HW := Lib.hid ((Below.refl _ w).alloc (Nat.le_refl _) (.cells #[v0, v1, v2, v3] 26))
  have M := Lib.hid (state_MinusO v0 vc l m _ (ha.below HW.out) (hb.below HW.out) hl)
  obtain ⟨a0, c0, rfl⟩ := ha.form
  obtain ⟨ac, cc, rfl⟩ := hb.form
  clear ha hb
  go_enter Tryz.func83, Tryz.ntmps83
  go_wp2_with fail
  refine M.out.mono ?_
  rintro e w1 ⟨v, rfl, hs, hb1⟩
  have HS := Lib.hid (own_baseS hs HW.out.size)
  have HB := Lib.hid (HW.out.trans (hb1.mono HW.out.size))
  clear hs hb1
  go_wp2
  go_ret
  exact ⟨_, rfl, HS.out, HB.out⟩
set_option maxHeartbeats 1000000 in
theorem state_AddedO (v0 v1 v2 v3 vc : Value) (l m : List St) (w : World) (_h1 : v1.oneCell' = true) (_h2 : v2.oneCell' = true) (_h3 : v3.oneCell' = true) (ha : SlA w 9 v0 l.length (l.flatMap St.cells)) (hb : SlA w 9 vc m.length (m.flatMap St.cells)) (hm : m.length ≤ 5000) :
    Calls Tryz.prog 81 #[pv v0 v1 v2 v3, vc] w fun e w' => ∃ v, e = .returned v ∧ w'.ownsRow w.heap.size 80 9 v (minusS m l).length ((minusS m l).flatMap St.cells) ∧ Below w.heap.size w w' := by
  have HW := Lib.hid ((Below.refl _ w).alloc (Nat.le_refl _) (.cells #[v0, v1, v2, v3] 26))
  have M := Lib.hid ((state_MinusO vc v0 m l _ (hb.below HW.out) (ha.below HW.out) hm))
  obtain ⟨a0, c0, rfl⟩ := ha.form
  obtain ⟨ac, cc, rfl⟩ := hb.form
  clear ha hb
  go_enter Tryz.func81, Tryz.ntmps81
  go_wp2_with fail
  refine M.out.mono ?_
  rintro e w1 ⟨v, rfl, hs, hb1⟩
  have HS := Lib.hid (own_baseS hs HW.out.size)
  have HB := Lib.hid (HW.out.trans (hb1.mono HW.out.size))
  clear hs hb1
  go_wp2
  go_ret
  exact ⟨_, rfl, HS.out, HB.out⟩
end Go.Proofs.YtomhekohcadijaaGreatDoor
