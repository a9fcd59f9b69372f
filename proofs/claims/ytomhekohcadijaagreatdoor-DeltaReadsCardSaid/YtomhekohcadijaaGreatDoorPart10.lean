/- A range over a function whose iterator keeps its state in one cell of its own: what the iterator promises, and the statement's law (a body that never leaves the loop). delta.kind: which mark a line begins with; strings.CutPrefix; slices.Backward at texts. The reader of package syn: take, is, role, body. The reader of package syn: role, body. The package scan: what its functions return, for every argument. scan.Tokens returns the tokens of a line, or what is wrong first, and where. syn.Parse: what it returns, for every line. The reference of layer 2: what its small functions return, for every argument. The reference of layer 3: shapes, fits, End. The plain law: what the reader of package syn makes of any tokens is what the reference's shapes say. -/
import Derived.RangeFuncNested
import Derived.RangeFuncBound
import Derived.RangeFuncCalls
import Derived.RangeFuncLeaves
import Derived.Shelf.Abstract
import Derived.Shelf.RegionOpen
import Derived.WalkKit
import Derived.OwnWalkIn
import Derived.TacticsInMore
import Derived.LoopNIn
import Derived.LoopIn
import Derived.Test.YtomhekohcadijaaGreatDoorPart9
import Derived.Test.YtomhekohcadijaaGreatDoorShelf
import Derived.RangeFuncWrites
import Derived.Test.YtomhekohcadijaaGreatDoorPart3
import Derived.Test.YtomhekohcadijaaGreatDoorPart1
import Derived.Maps.AppendAt
import Derived.Test.YtomhekohcadijaaGreatDoorShelf2
import Derived.Lib.TrimByte
namespace Go.Proofs.YtomhekohcadijaaGreatDoor
open Go.RowKit Go.Shelf

end Go.Proofs.YtomhekohcadijaaGreatDoor
namespace Go.Proofs.YtomhekohcadijaaGreatDoor
open Go.RowKit Go.Shelf

attribute [local go_sem] Oper.semAt_some

def preB (s m : ByteArray) : Bool := Lib.hasPrefix s.data.toList m.data.toList
theorem preB_le {s m : ByteArray} (h : preB s m = true) : m.size ≤ s.size := by
  unfold preB Lib.hasPrefix at h
  have := (List.isPrefixOf_iff_prefix.1 h).length_le
  have e1 : m.data.toList.length = m.size := by rw [Array.length_toList]; rfl
  have e2 : s.data.toList.length = s.size := by rw [Array.length_toList]; rfl
  omega
theorem strl_CutPrefix (s m : ByteArray) (w : World) (_ : s.size ≤ 9223372036854775807) :
    Calls Tryz.prog 205 #[.string s, .string m] w fun e w' => e = .returned (.tuple #[.string (if preB s m = true then s.extract m.size s.size else s), .bool (preB s m)]) ∧ w' = w := by
  have HP := Lib.hid (Tryz.stringslite_HasPrefix s m w)
  rw [show Lib.hasPrefix s.data.toList m.data.toList = preB s m from rfl] at HP
  have LE := preB_le (s := s) (m := m)
  generalize preB s m = b at *
  cases b with
  | false =>
    clear LE
    go_enter Tryz.func205, Tryz.ntmps205
    go_wp2_with fail
    refine HP.out.mono ?_
    rintro e w1 ⟨rfl, rfl⟩
    go_wp2
    exact bodyPost_ret (v := .tuple #[.string s, .bool false]) (by simp [results, Tryz.results205, go_sem]) rfl ⟨rfl, rfl⟩
  | true =>
    have LE := LE rfl
    go_enter Tryz.func205, Tryz.ntmps205
    go_wp2_with fail
    refine HP.out.mono ?_
    rintro e w1 ⟨rfl, rfl⟩
    go_wp2
    exact bodyPost_ret (v := .tuple #[.string (s.extract m.size s.size), .bool true]) (by simp [results, Tryz.results205, go_sem]) rfl ⟨rfl, rfl⟩
theorem str_CutPrefix (s m : ByteArray) (w : World) (hs : s.size ≤ 9223372036854775807) :
    Calls Tryz.prog 139 #[.string s, .string m] w fun e w' => e = .returned (.tuple #[.string (if preB s m = true then s.extract m.size s.size else s), .bool (preB s m)]) ∧ w' = w := by
  have HC := Lib.hid (strl_CutPrefix s m w hs)
  generalize (if preB s m = true then s.extract m.size s.size else s) = t at *
  generalize preB s m = b at *
  go_enter Tryz.func139, Tryz.ntmps139
  go_wp2_with fail
  refine HC.out.mono ?_
  rintro e w1 ⟨rfl, rfl⟩
  go_wp2
  exact bodyPost_ret (v := .tuple #[.string t, .bool b]) (by simp [results, Tryz.results139, go_sem]) rfl ⟨rfl, rfl⟩

def bkF (zs : List ByteArray) (j : Nat) : Nat × ByteArray := (zs.length - 1 - j, zs[zs.length - 1 - j]?.getD emp)
def bkL (zs : List ByteArray) (k : Nat) : List (Nat × ByteArray) := (List.range k).map (bkF zs)
theorem bkL_succ (zs : List ByteArray) (k : Nat) : bkL zs (k + 1) = bkL zs k ++ [bkF zs k] := by simp [bkL, List.range_succ]
theorem bkL_len (zs : List ByteArray) (k : Nat) : (bkL zs k).length = k := by simp [bkL]
theorem sl_Backward (a : Option Addr) (n c : Nat) (w : World) : Calls Tryz.prog 154 #[.slice a n c] w fun e w' => e = .returned (.func (.func 219) #[] #[.pointer (some ⟨w.heap.size, 0, none⟩)]) ∧ w' = w.alloc (.cells #[.slice a n c] 27) := by
  go_enter Tryz.func154, Tryz.ntmps154
  go_wp2
  go_ret
  exact ⟨rfl, rfl⟩
set_option maxRecDepth 100000 in
set_option maxHeartbeats 4000000 in
theorem backward_stops (n : Nat) (hn : 1 ≤ n) (Bs n₀ b off cap : Nat) (zs : List ByteArray) (hz : zs.length ≤ 1000) (w : World) (hBs : Bs < w.heap.size) (hn₀ : n₀ ≤ w.heap.size) (hb : b < n₀)
    (hc : w.cell? ⟨Bs, 0, none⟩ = some (.slice (some ⟨b, off, none⟩) zs.length cap)) (hBn : Bs < n₀) (hx : ∀ j, j < zs.length → w.cell? ⟨b, off + j, none⟩ = some (.string (zs[j]?.getD emp))) :
    SeqStopsK Fence.wide n Tryz.prog 219 #[.pointer (some ⟨Bs, 0, none⟩)] (fun x : Nat × ByteArray => #[Value.int .i64 (x.1 : Int), Value.string x.2]) (Below n₀) (fun ys => ys = bkL zs zs.length) (fun pre => ∃ k, k ≤ zs.length ∧ pre = bkL zs k) zs.length w := fun l J Jx W hW _ _ hY h0 => by
  have hc' := (hW.cell (p := ⟨Bs, 0, none⟩) hBs).trans hc
  have hx' : ∀ j, j < zs.length → W.cell? ⟨b, off + j, none⟩ = some (.string (zs[j]?.getD emp)) := fun j hj => (hW.cell (p := ⟨b, off + j, none⟩) (Nat.lt_of_lt_of_le hb hn₀)).trans (hx j hj)
  clear hc hx hW
  show CallsIn Fence.wide n Tryz.prog 219 #[.func (.yield l) #[] #[], .pointer (some ⟨Bs, 0, none⟩)] W _
  refine callsIn_of_wp Tryz.func219 rfl trivial ?_ rfl
  simp only [Tryz.ntmps219, List.size_toArray, List.length_cons, List.length_nil, Nat.reduceAdd, Nat.reduceSub, Array.replicate_succ, Array.replicate_zero, List.push_toArray, List.append_toArray, List.nil_append, List.cons_append]
  have e0 : IntKind.i64.wrap ((zs.length : Int) - 1) = (zs.length : Int) - 1 := Go.IntWalk.i64_in _ (by omega)
  gi_wp2
  gi_loopw [3] (fun i wr => ∃ k : Nat, k ≤ zs.length ∧ i = .int .i64 ((zs.length : Int) - 1 - k) ∧ J (bkL zs k) wr ∧ Below n₀ W wr)
    (fun i _ => ((intOf i) + 1).toNat)
  case atStart => exact ⟨0, Nat.zero_le _, by simp, h0, Below.refl _ _⟩
  case round =>
    obtain ⟨k, hk, rfl, hJs, hnx⟩ := hrel
    have hcw := (hnx.cell (p := ⟨Bs, 0, none⟩) hBn).trans hc'
    by_cases hlt : k < zs.length
    · obtain ⟨m, hm⟩ : ∃ m, m = zs.length - 1 - k := ⟨_, rfl⟩
      have hmi : (zs.length : Int) - 1 - k = (m : Int) := by omega
      have hml : m < zs.length := by omega
      have hcx := (hnx.cell (p := ⟨b, off + m, none⟩) hb).trans (hx' m hml)
      have hbf : bkF zs k = (m, zs[m]?.getD emp) := by unfold bkF; rw [← hm]
      generalize zs[m]?.getD emp = y at hcx hbf
      obtain ⟨fn, tmps, assign, body, hy, hR⟩ := hY _ (m, y) wr hJs (by rw [bkL_len]; exact hlt)
      dsimp only at hy
      rw [hmi]
      clear hm
      have e1 : IntKind.i64.wrap ((m : Int) - 1) = (m : Int) - 1 := Go.IntWalk.i64_in _ (by omega)
      gi_wp2
      refine hR.mono ?_
      rintro e W3 (⟨rfl, hJ3, hk3⟩ | ⟨rfl, hJx3⟩)
      · gi_wp2
        go_roundw
        case rel => exact ⟨k + 1, by omega, by congr 1; omega, by rw [bkL_succ, hbf]; exact hJ3, hnx.trans hk3⟩
        case measure => simp [intOf]
      · gi_wp2
        refine bodyPost_ret (results_none rfl _ _ _) rfl ?_
        exact ⟨⟨_, rfl⟩, .inr ⟨_, ⟨k + 1, by omega, by rw [bkL_succ, hbf]⟩, hJx3⟩⟩
    · obtain rfl : k = zs.length := by omega
      have hmi : (zs.length : Int) - 1 - zs.length = -1 := by omega
      rw [hmi]
      gi_wp2
      go_end0
      exact ⟨⟨_, rfl⟩, .inl ⟨_, rfl, hJs⟩⟩
def kindL (s : ByteArray) : List (Nat × ByteArray) → Int × ByteArray
  | [] => (-1, emp)
  | x :: r => if preB s x.2 = true then ((x.1 : Int), s.extract x.2.size s.size) else kindL s r
def marksB : List ByteArray := [mk0, mk1, mk2, mk3, mk4, mk5]
def kindB (s : ByteArray) : Int × ByteArray := kindL s (bkL marksB 6)
theorem kindL_none (s : ByteArray) : ∀ (L : List (Nat × ByteArray)), (∀ x ∈ L, preB s x.2 = false) → kindL s L = (-1, emp)
  | [], _ => rfl
  | x :: r, h => by
    unfold kindL
    rw [if_neg (by rw [h x (by simp)]; decide)]
    exact kindL_none s r (fun y hy => h y (by simp [hy]))
theorem kindL_at (s : ByteArray) (x : Nat × ByteArray) (r : List (Nat × ByteArray)) (hx : preB s x.2 = true) : ∀ (L : List (Nat × ByteArray)), (∀ x ∈ L, preB s x.2 = false) → kindL s (L ++ x :: r) = ((x.1 : Int), s.extract x.2.size s.size)
  | [], _ => by
    show (if preB s x.2 = true then ((x.1 : Int), s.extract x.2.size s.size) else kindL s r) = _
    rw [if_pos hx]
  | y :: L, h => by
    show (if preB s y.2 = true then ((y.1 : Int), s.extract y.2.size s.size) else kindL s (L ++ x :: r)) = _
    rw [if_neg (by rw [h y (by simp)]; decide)]
    exact kindL_at s x r hx L (fun z hz => h z (by simp [hz]))
theorem bkL_split (zs : List ByteArray) {k n : Nat} (hk : k ≤ n) : ∃ r, bkL zs n = bkL zs k ++ r := by
  obtain ⟨m, rfl⟩ := Nat.exists_eq_add_of_le hk
  refine ⟨((List.range m).map (fun j => bkF zs (k + j))), ?_⟩
  unfold bkL
  rw [List.range_add, List.map_append, List.map_map]
  rfl
set_option maxRecDepth 100000 in
set_option maxHeartbeats 4000000 in
theorem delta_kind (s : ByteArray) (w : World) (hs : s.size ≤ 9223372036854775807) :
    Calls Tryz.prog 105 #[.string s] w fun e w' => e = .returned (.tuple #[.int .i64 (kindB s).1, .string (kindB s).2]) ∧ Below w.heap.size w w' := by
  refine (callsIn_wide (n := 5)).1 ?_
  refine callsIn_of_wp_marks Tryz.func105 rfl trivial ?_ rfl
  simp only [Tryz.ntmps105, List.size_toArray, List.length_cons, List.length_nil, Nat.reduceAdd, Nat.reduceSub, Array.replicate_succ, Array.replicate_zero, List.push_toArray, List.append_toArray, List.nil_append, List.cons_append]
  gi_wp2_with (first
    | (refine ⟨trivial, ?_⟩; gi_at_call 102; refine (callsIn_wide.2 (delta_marks _)).mono ?_; rintro e w' ⟨rfl, rfl⟩)
    | (refine ⟨trivial, ?_⟩; gi_at_call 154; refine (callsIn_wide.2 (sl_Backward _ _ _ _)).mono ?_; rintro e w' ⟨rfl, rfl⟩))
  obtain ⟨W0, hW0⟩ : ∃ W, W = ((((w.alloc (.cells #[.string s] 9)).alloc (.cells #[.int .i64 0] 3)).alloc (.cells #[.string ⟨#[]⟩] 9)).alloc (.cells #[.string mk0, .string mk1, .string mk2, .string mk3, .string mk4, .string mk5] 9)).alloc (.cells #[.slice (some ⟨w.heap.size + 1 + 1 + 1, 0, none⟩) 6 6] 27) := ⟨_, rfl⟩
  have hsz : W0.heap.size = w.heap.size + 1 + 1 + 1 + 1 + 1 := by rw [hW0]; simp
  have b0 : Boxed W0 w.heap.size 9 (.string s) := by rw [hW0]; exact ((((Boxed.new w _ _).alloc _).alloc _).alloc _).alloc _
  have b1 : Boxed W0 (w.heap.size + 1) 3 (.int .i64 0) := by
    rw [hW0]
    have h := Boxed.new (w.alloc (.cells #[.string s] 9)) 3 (.int .i64 0)
    rw [World.size_alloc] at h
    exact ((h.alloc _).alloc _).alloc _
  have b2 : Boxed W0 (w.heap.size + 1 + 1) 9 (.string ⟨#[]⟩) := by
    rw [hW0]
    have h := Boxed.new ((w.alloc (.cells #[.string s] 9)).alloc (.cells #[.int .i64 0] 3)) 9 (.string ⟨#[]⟩)
    rw [World.size_alloc, World.size_alloc] at h
    exact (h.alloc _).alloc _
  have b3 : Blk W0 (w.heap.size + 1 + 1 + 1) #[.string mk0, .string mk1, .string mk2, .string mk3, .string mk4, .string mk5] := by
    rw [hW0]
    have h := Blk.new (((w.alloc (.cells #[.string s] 9)).alloc (.cells #[.int .i64 0] 3)).alloc (.cells #[.string ⟨#[]⟩] 9)) #[.string mk0, .string mk1, .string mk2, .string mk3, .string mk4, .string mk5] 9
    rw [World.size_alloc, World.size_alloc, World.size_alloc] at h
    exact h.alloc _
  have b4 : Boxed W0 (w.heap.size + 1 + 1 + 1 + 1) 27 (.slice (some ⟨w.heap.size + 1 + 1 + 1, 0, none⟩) 6 6) := by
    rw [hW0]
    have h := Boxed.new ((((w.alloc (.cells #[.string s] 9)).alloc (.cells #[.int .i64 0] 3)).alloc (.cells #[.string ⟨#[]⟩] 9)).alloc (.cells #[.string mk0, .string mk1, .string mk2, .string mk3, .string mk4, .string mk5] 9)) 27 (.slice (some ⟨w.heap.size + 1 + 1 + 1, 0, none⟩) 6 6)
    rw [World.size_alloc, World.size_alloc, World.size_alloc, World.size_alloc] at h
    exact h
  have hB0 : Below w.heap.size w W0 := by
    rw [hW0]
    exact (((((Below.refl _ w).alloc (Nat.le_refl _) _).alloc (by simp) _).alloc (by simp; omega) _).alloc (by simp; omega) _).alloc (by simp; omega) _
  rw [← hW0]
  clear hW0
  have hseq := backward_stops 4 (by decide) (w.heap.size + 1 + 1 + 1 + 1) W0.heap.size (w.heap.size + 1 + 1 + 1) 0 6 marksB (by decide) W0 (by omega) (Nat.le_refl _) (by omega) b4.cell (by omega) (fun j hj => by
    rw [Nat.zero_add, b3.1]
    have hj6 : j < 6 := hj
    match j, hj6 with
    | 0, _ => rfl
    | 1, _ => rfl
    | 2, _ => rfl
    | 3, _ => rfl
    | 4, _ => rfl
    | 5, _ => rfl)
  have own1 : ∀ (b : Nat) (t : TypeId) (v : Value) {X Y : World} {row : Option Nat}, Boxed X b t v → X.grownBy Y row → (∀ r, row = some r → ∃ o : Obj, X.heap[r]? = some o ∧ o.isCells = false) → Boxed Y b t v := fun b t v X Y row h hg hr => boxed_own (β := Unit) b t (fun _ => v) () X Y row h hg hr
  refine wpIn_rangeFunc_ownG rfl (by decide) (gf := 219) (lb := #[.pointer (some ⟨w.heap.size + 1 + 1 + 1 + 1, 0, none⟩)]) rfl trivial (enters_of Tryz.func219 (by kernel_rfl) rfl)
    hseq belowK_t (belowK_b (Nat.le_refl _)) (Below.refl _ _) (fun _ => rfl)
    (fun pre W => (Boxed W w.heap.size 9 (.string s) ∧ Boxed W (w.heap.size + 1) 3 (.int .i64 0) ∧ Boxed W (w.heap.size + 1 + 1) 9 (.string ⟨#[]⟩) ∧ ∀ p ∈ pre, preB s p.2 = false) ∧ Below w.heap.size w W)
    (fun c pre W => (∃ ini last, pre = ini ++ [last] ∧ c = .ret ∧ (∀ p ∈ ini, preB s p.2 = false) ∧ preB s last.2 = true ∧ Boxed W (w.heap.size + 1) 3 (.int .i64 (last.1 : Int)) ∧ Boxed W (w.heap.size + 1 + 1) 9 (.string (s.extract last.2.size s.size))) ∧ Below w.heap.size w W)
    (OwnFrom.and (Own.from (fun st A B row hs hg hr => ⟨own1 _ _ _ hs.1 hg hr, own1 _ _ _ hs.2.1 hg hr, own1 _ _ _ hs.2.2.1 hg hr, hs.2.2.2⟩) _) (ownFrom_below (Nat.le_refl _) (by omega)))
    (fun c => OwnFrom.and (Own.from (fun st A B row hs hg hr => by obtain ⟨ini, last, e1, e2, e3, e4, e5, e6⟩ := hs; exact ⟨ini, last, e1, e2, e3, e4, own1 _ _ _ e5 hg hr, own1 _ _ _ e6 hg hr⟩) _) (ownFrom_below (Nat.le_refl _) (by omega)))
    ⟨⟨b0, b1, b2, by simp⟩, hB0⟩
    (fun x => { tmps := #[.string s, .pointer (some ⟨w.heap.size, 0, none⟩), .pointer (some ⟨w.heap.size + 1, 0, none⟩), .pointer (some ⟨w.heap.size + 1 + 1, 0, none⟩), .int .i64 (x.1 : Int), .string x.2, undef, undef, .slice (some ⟨w.heap.size + 1 + 1 + 1, 0, none⟩) 6 6, .func (.func 219) #[] #[.pointer (some ⟨w.heap.size + 1 + 1 + 1 + 1, 0, none⟩)], .int .i64 (x.1 : Int), .string x.2, undef, undef, undef, undef, undef, undef, undef, undef, undef], defers := [] }) ?assign ?body ?done ?stop
  case assign =>
    intro l x W K hK
    gi_wp2
    exact hK
  case body =>
    rintro l pre x W ⟨⟨h0, h1, h2, hp⟩, hB⟩ _
    have CP := Lib.hid (fun W => str_CutPrefix s x.2 W hs)
    have c0 := h0.cell
    have c1 := h1.cell
    have f1 := h1.frozen
    have c2 := h2.cell
    have f2 := h2.frozen
    generalize hpb : preB s x.2 = pb at CP
    cases pb with
    | false =>
      gi_wp2_with (refine ⟨trivial, ?_⟩; gi_at_call 139; refine (CallsIn.inRound l (callsIn_wide.2 (CP.out _))).mono ?_; rintro e w' ⟨rfl, rfl⟩)
      exact ⟨KeepsFrom.refl _ _, Below.refl _ _, ⟨h0, h1, h2, fun p hp' => (List.mem_append.1 hp').elim (hp p) (fun e => by rw [List.mem_singleton.1 e]; exact hpb)⟩, hB⟩
    | true =>
      rw [if_pos rfl] at CP
      gi_wp2_with (refine ⟨trivial, ?_⟩; gi_at_call 139; refine (CallsIn.inRound l (callsIn_wide.2 (CP.out _))).mono ?_; rintro e w' ⟨rfl, rfl⟩)
      exact ⟨((KeepsOthers.setCell _ _ _).trans (KeepsOthers.setCell _ _ _)).from _, ⟨pre, x, rfl, rfl, hp, hpb, (h1.set _).other (by omega) _, (h2.other (by omega) _).set _⟩, (hB.setCell (p := ⟨w.heap.size + 1, 0, none⟩) (by simp) _).setCell (p := ⟨w.heap.size + 1 + 1, 0, none⟩) (by simp; omega) _⟩
  case done =>
    rintro D ys W hD rfl ⟨⟨h0, h1, h2, hp⟩, hB⟩ hK
    have hk : kindB s = (-1, emp) := kindL_none s _ hp
    have c1 := h1.cell
    have f1 := h1.frozen
    have c2 := h2.cell
    have f2 := h2.frozen
    have hK' := ((KeepsOthers.setCell W ⟨w.heap.size + 1, 0, none⟩ (.int .i64 (-1))).trans (KeepsOthers.setCell _ ⟨w.heap.size + 1 + 1, 0, none⟩ (.string ⟨#[]⟩))).same D _ hK rfl
    have g1 := ((h1.set (.int .i64 (-1))).other (B' := w.heap.size + 1 + 1) (by omega) (.string ⟨#[]⟩))
    have g2 := ((h2.other (B' := w.heap.size + 1) (by omega) (.int .i64 (-1))).set (.string ⟨#[]⟩))
    have k1 := (own1 _ _ _ g1 (grownBy_putObj' _ D (.deferred none)) (fun r e => by cases e; exact ⟨_, hK', rfl⟩)).cell
    have k2 := (own1 _ _ _ g2 (grownBy_putObj' _ D (.deferred none)) (fun r e => by cases e; exact ⟨_, hK', rfl⟩)).cell
    have hBx := ((hB.setCell (p := ⟨w.heap.size + 1, 0, none⟩) (by simp) (.int .i64 (-1))).setCell (p := ⟨w.heap.size + 1 + 1, 0, none⟩) (by simp; omega) (.string ⟨#[]⟩)).trans (belowK_b (w := w) (Nat.le_refl _) _ D _ (.deferred none) (by omega) hK' rfl rfl)
    gi_wp2
    refine ⟨by simp, .inl ⟨_, _, rfl, run_takeDeferred hK', ?_⟩⟩
    exact ⟨.tuple #[.int .i64 (-1), .string ⟨#[]⟩], by simp [results, Tryz.results105, go_sem, k1, k2], by rw [hk], hBx⟩
  case stop =>
    rintro D c pre W hD ⟨k, hk, rfl⟩ ⟨⟨ini, last, e1, rfl, e3, e4, h1, h2⟩, hB⟩ hK
    have hkd : kindB s = ((last.1 : Int), s.extract last.2.size s.size) := by
      obtain ⟨r, hr⟩ := bkL_split marksB (k := k) (n := 6) hk
      unfold kindB
      rw [hr, e1, List.append_assoc]
      exact kindL_at s last r e4 ini e3
    have k1 := (own1 _ _ _ h1 (grownBy_putObj' _ D (.deferred none)) (fun r e => by cases e; exact ⟨_, hK, rfl⟩)).cell
    have k2 := (own1 _ _ _ h2 (grownBy_putObj' _ D (.deferred none)) (fun r e => by cases e; exact ⟨_, hK, rfl⟩)).cell
    gi_wp2
    refine ⟨by simp, .inl ⟨_, _, rfl, run_takeDeferred hK, ?_⟩⟩
    exact ⟨.tuple #[.int .i64 (last.1 : Int), .string (s.extract last.2.size s.size)], by simp [results, Tryz.results105, go_sem, k1, k2], by rw [hkd], hB.trans (belowK_b (w := w) (Nat.le_refl _) W D _ (.deferred none) (by omega) hK rfl rfl)⟩
end Go.Proofs.YtomhekohcadijaaGreatDoor
namespace Go.Proofs.YtomhekohcadijaaGreatDoor
open Go.RowKit Go.Shelf

structure Rd where
  l : List Tok
  e : Int
  p : Int
  why : Int
abbrev rdCells (lv : Value) (r : Rd) : Array Value := #[lv, .int .i64 r.e, .int .i64 r.p, .int .i64 r.why]
structure RdAt (w0 w : World) (g : Nat) (r : Rd) : Prop where
  low : w0.heap.size ≤ g
  below : Below w0.heap.size w0 w
  row : ∃ lv, Sl w0 3 lv r.l.length (r.l.flatMap Tok.cells) ∧ Blk w g (rdCells lv r)
theorem RdAt.grown {w0 w w' : World} {g : Nat} {r : Rd} {k : Option Nat} (h : RdAt w0 w g r) (hg : w.grownBy w' k) (hne : some g ≠ k) (hk : ∀ j, k = some j → w0.heap.size ≤ j) : RdAt w0 w' g r := by
  obtain ⟨lv, hs, hb⟩ := h.row
  exact ⟨h.low, h.below.grown hg h.below.size hk, lv, hs, hb.grown hg hne⟩
theorem RdAt.later {w0 w w' : World} {g : Nat} {r : Rd} (h : RdAt w0 w g r) (hb : Below w.heap.size w w') : RdAt w0 w' g r :=
  h.grown (gb_of_below (r := none) hb) (by simp) (by simp)

def Rd.fail (r : Rd) (p y : Int) : Rd := ⟨r.l, r.e, p, y⟩
def Rd.drop1 (r : Rd) : Rd := ⟨r.l.tail, r.e, r.p, r.why⟩
def Rd.take (r : Rd) (k : Int) : ByteArray × Rd :=
  if r.why ≠ 0 then (emp, r) else
  match r.l with
  | [] => (emp, r.fail r.e 3)
  | t :: _ => if t.kind = k then (⟨t.text.toArray⟩, r.drop1) else (emp, r.fail t.col 2)
def Rd.is (r : Rd) (k : Int) : Bool :=
  decide (r.why = 0) && match r.l with | [] => false | t :: _ => decide (t.kind = k)
theorem take_why (r : Rd) (k : Int) (h : r.why ≠ 0) : r.take k = (emp, r) := if_pos h
theorem take_nil (e p k : Int) : (Rd.mk [] e p 0).take k = (emp, ⟨[], e, e, 3⟩) := rfl
theorem take_no (t : Tok) (l : List Tok) (e p k : Int) (h : ¬ t.kind = k) : (Rd.mk (t :: l) e p 0).take k = (emp, ⟨t :: l, e, t.col, 2⟩) := by
  simp only [Rd.take, ne_eq, not_true_eq_false, if_false, if_neg h]; rfl
theorem take_yes (t : Tok) (l : List Tok) (e p k : Int) (h : t.kind = k) : (Rd.mk (t :: l) e p 0).take k = (⟨t.text.toArray⟩, ⟨l, e, p, 0⟩) := by
  simp only [Rd.take, ne_eq, not_true_eq_false, if_false, if_pos h]; rfl

theorem tk_head {w : World} {b off : Nat} {t : Tok} {l : List Tok} (h : ∀ j u, ((t :: l).flatMap Tok.cells)[j]? = some u → w.cell? ⟨b, off + j, none⟩ = some u) :
    w.cell? ⟨b, off, none⟩ = some (.int .i64 t.kind) ∧ w.cell? ⟨b, off + 1, none⟩ = some (.string ⟨t.text.toArray⟩) ∧ w.cell? ⟨b, off + 2, none⟩ = some (.int .i64 t.col) :=
  ⟨h 0 _ rfl, h 1 _ rfl, h 2 _ rfl⟩
theorem Sl.tail {w : World} {b off cap : Nat} {t : Tok} {l : List Tok} (hl : (t :: l).length ≤ cap) (hm : cap ≤ 9223372036854775807) (hlt : b < w.heap.size)
    (h : ∀ j u, ((t :: l).flatMap Tok.cells)[j]? = some u → w.cell? ⟨b, off + j, none⟩ = some u) : Sl w 3 (.slice (some ⟨b, off + 3, none⟩) l.length (cap - 1)) l.length (l.flatMap Tok.cells) := by
  simp only [List.length_cons] at hl
  refine ⟨flat_len _ _ Tok.cells_len l, by simp only [maxLen]; omega, .inr ⟨b, off + 3, cap - 1, rfl, by omega, by simp only [maxLen]; omega, hlt, fun j u hu => ?_⟩⟩
  have := h (j + 3) u (by rw [List.flatMap_cons, List.getElem?_append_right (by rw [Tok.cells_len]; omega), Tok.cells_len]; simpa using hu)
  rwa [show off + 3 + j = off + (j + 3) by omega]

set_option maxRecDepth 100000 in
set_option maxHeartbeats 1000000 in
theorem read_take (r : Rd) (w0 w : World) (g : Nat) (k : Int) (h : RdAt w0 w g r) :
    Calls Tryz.prog 157 #[.pointer (some ⟨g, 0, none⟩), .int .i64 k] w fun e w' => e = .returned (.string (r.take k).1) ∧ RdAt w0 w' g (r.take k).2 ∧ w.grownBy w' (some g) := by
  have H := Lib.hid h
  obtain ⟨hlow, hbel, lv, hs, hblk⟩ := h
  obtain ⟨l, e, p, why⟩ := r
  have hg := hblk.2.2
  have c0 := hblk.cell 0 lv rfl
  have c1 := hblk.cell 1 (.int .i64 e) rfl
  have c2 := hblk.cell 2 (.int .i64 p) rfl
  have c3 := hblk.cell 3 (.int .i64 why) rfl
  have f0 := hblk.2.1
  by_cases hw : why = 0
  · subst hw
    have hsz := hbel.size
    have HS := Lib.hid hs
    have HB := Lib.hid hblk
    have HBE := Lib.hid hbel
    cases l with
    | nil =>
      have E := Lib.hid (take_nil e p k)
      obtain ⟨a, cap, rfl⟩ := hs.form
      clear hs hblk hbel
      go_enter Tryz.func157, Tryz.ntmps157
      go_wp2
      go_ret
      rw [E.out]
      exact ⟨rfl, ⟨hlow, (HBE.out.setCell hlow _).setCell hlow _, _, HS.out, ((HB.out.set 3 _ (by simp)).set 2 _ (by simp))⟩, gb_setCell (gb_setCell (World.grownBy.refl _ _) _) _⟩
    | cons t tl =>
      obtain ⟨b, off, cap, rfl, hc, hm, hlt, hx⟩ := hs.pos (by simp)
      obtain ⟨t0, t1, t2⟩ := tk_head (Sl.cells_later hbel hlt hx)
      have HX := Lib.hid hx
      have hbg : ¬ b = g := by omega
      have hbw : b < w.heap.size := by omega
      by_cases hk : t.kind = k
      · have E := Lib.hid (take_yes t tl e p k hk)
        have d1 : (t.kind != k) = false := by simp [hk]
        have HL := Lib.hid hc
        have hlen : (t :: tl).length = tl.length + 1 := rfl
        clear hs hblk hbel hx hk
        go_enter Tryz.func157, Tryz.ntmps157
        go_wp2
        · go_ret
          rw [E.out]
          refine ⟨rfl, ⟨hlow, ?_, _, ?_, ((HB.out.set 0 _ (by simp)).alloc _)⟩, gb_alloc (gb_setCell (World.grownBy.refl _ _) _) _⟩
          · exact (HBE.out.setCell hlow _).alloc (by simpa [World.setCell] using hsz) _
          · obtain rfl : tl = [] := List.eq_nil_of_length_eq_zero (by have := HL.out; simp at this; omega)
            exact ⟨rfl, by simp [maxLen], .inr ⟨b, off, 0, rfl, Nat.le_refl _, by simp [maxLen], hlt, fun j u hu => by simp at hu⟩⟩
        · go_ret
          rw [E.out]
          refine ⟨rfl, ⟨hlow, ?_, _, ?_, ((HB.out.set 0 _ (by simp)).alloc _)⟩, gb_alloc (gb_setCell (World.grownBy.refl _ _) _) _⟩
          · exact (HBE.out.setCell hlow _).alloc (by simpa [World.setCell] using hsz) _
          · exact Sl.tail HL.out hm hlt HX.out
      · have E := Lib.hid (take_no t tl e p k hk)
        have d1 : (t.kind != k) = true := by simp [hk]
        clear hs hblk hbel hx hk
        go_enter Tryz.func157, Tryz.ntmps157
        go_wp2
        go_ret
        rw [E.out]
        exact ⟨rfl, ⟨hlow, (HBE.out.setCell hlow _).setCell hlow _, _, HS.out, ((HB.out.set 3 _ (by simp)).set 2 _ (by simp))⟩, gb_setCell (gb_setCell (World.grownBy.refl _ _) _) _⟩
  · have d : (why != 0) = true := by simp [hw]
    have E := Lib.hid (take_why ⟨l, e, p, why⟩ k hw)
    clear hw hs hblk hbel
    go_enter Tryz.func157, Tryz.ntmps157
    go_wp2
    go_ret
    rw [E.out]
    exact ⟨rfl, H.out, World.grownBy.refl _ _⟩
theorem is_why (r : Rd) (k : Int) (h : ¬ r.why = 0) : r.is k = false := by simp [Rd.is, h]
theorem is_nil (e p k : Int) : (Rd.mk [] e p 0).is k = false := rfl
theorem is_cons (t : Tok) (l : List Tok) (e p k : Int) : (Rd.mk (t :: l) e p 0).is k = (t.kind == k) := by simp [Rd.is]; try rfl
set_option maxRecDepth 100000 in
set_option maxHeartbeats 1000000 in
theorem read_is (r : Rd) (w0 w : World) (g : Nat) (k : Int) (h : RdAt w0 w g r) :
    Calls Tryz.prog 224 #[.pointer (some ⟨g, 0, none⟩), .int .i64 k] w fun e w' => e = .returned (.bool (r.is k)) ∧ w = w' := by
  obtain ⟨hlow, hbel, lv, hs, hblk⟩ := h
  obtain ⟨l, e, p, why⟩ := r
  have hg := hblk.2.2
  have c0 := hblk.cell 0 lv rfl
  have c3 := hblk.cell 3 (.int .i64 why) rfl
  have f0 := hblk.2.1
  by_cases hw : why = 0
  · subst hw
    have hsz := hbel.size
    cases l with
    | nil =>
      have E := Lib.hid (is_nil e p k)
      obtain ⟨a, cap, rfl⟩ := hs.form
      clear hs hblk hbel
      go_enter Tryz.func224, Tryz.ntmps224
      go_wp2
      go_ret
      exact ⟨ret_b (by rw [E.out]), rfl⟩
    | cons t tl =>
      obtain ⟨b, off, cap, rfl, hc, hm, hlt, hx⟩ := hs.pos (by simp)
      obtain ⟨t0, t1, t2⟩ := tk_head (Sl.cells_later hbel hlt hx)
      have E := Lib.hid (is_cons t tl e p k)
      clear hs hblk hbel hx
      have d1 : decide ((0 : Int) < (tl.length : Int) + 1) = true := by (rw [decide_eq_true_iff]; omega)
      go_enter Tryz.func224, Tryz.ntmps224
      go_wp2
      go_ret
      exact ⟨ret_b (by rw [E.out]), rfl⟩
  · have d : (why == 0) = false := by simp [hw]
    have E := Lib.hid (is_why ⟨l, e, p, why⟩ k hw)
    clear hw hs hblk hbel
    go_enter Tryz.func224, Tryz.ntmps224
    go_wp2
    go_ret
    exact ⟨ret_b (by rw [E.out]), rfl⟩
end Go.Proofs.YtomhekohcadijaaGreatDoor
namespace Go.Proofs.YtomhekohcadijaaGreatDoor
open Go.RowKit Go.Shelf

def Rd.role (r : Rd) : Rl × Rd := (⟨(r.take 1).1, (((r.take 1).2.take 3).2.take 2).1⟩, (((r.take 1).2.take 3).2.take 2).2)
theorem RdAt.alloc {w0 w : World} {g : Nat} {r : Rd} (h : RdAt w0 w g r) (o : Obj) : RdAt w0 (w.alloc o) g r := h.later ((Below.refl _ _).alloc (Nat.le_refl _) o)
theorem RdAt.set {w0 w : World} {g b o : Nat} {r : Rd} (h : RdAt w0 w g r) (v : Value) (hne : g ≠ b) (hlow : w0.heap.size ≤ b) : RdAt w0 (w.setCell ⟨b, o, none⟩ v) g r :=
  h.grown (gb_setCell (World.grownBy.refl _ _) v) (fun e => hne (by cases e; rfl)) (fun j e => by cases e; exact hlow)
theorem RdAt.lt {w0 w : World} {g : Nat} {r : Rd} (h : RdAt w0 w g r) : g < w.heap.size := by obtain ⟨lv, _, hb⟩ := h.row; exact hb.2.2
theorem take_pair {r : Rd} {k : Int} {x : ByteArray} {r' : Rd} (h : r.take k = (x, r')) (w0 w : World) (g : Nat) (ha : RdAt w0 w g r) :
    Calls Tryz.prog 157 #[.pointer (some ⟨g, 0, none⟩), .int .i64 k] w fun e w' => e = .returned (.string x) ∧ RdAt w0 w' g r' ∧ w.grownBy w' (some g) := by
  have := read_take r w0 w g k ha
  rw [h] at this
  exact this
set_option maxRecDepth 100000 in
set_option maxHeartbeats 1000000 in
theorem read_role (r : Rd) (w0 w : World) (g : Nat) (h : RdAt w0 w g r) :
    Calls Tryz.prog 156 #[.pointer (some ⟨g, 0, none⟩)] w fun e w' => e = .returned (rv r.role.1) ∧ RdAt w0 w' g r.role.2 ∧ w.grownBy w' (some g) := by
  have hlt := h.lt
  have hlow := h.below.size
  have E := Lib.hid (show r.role = (⟨(r.take 1).1, (((r.take 1).2.take 3).2.take 2).1⟩, (((r.take 1).2.take 3).2.take 2).2) from rfl)
  cases h1 : r.take 1 with | mk x1 r1 =>
  rw [h1] at E; dsimp only at E
  cases h2 : r1.take 3 with | mk x2 r2 =>
  rw [h2] at E; dsimp only at E
  cases h3 : r2.take 2 with | mk x3 r3 =>
  rw [h3] at E; dsimp only at E
  have T1 := Lib.hid (take_pair h1 w0)
  have T2 := Lib.hid (take_pair h2 w0)
  have T3 := Lib.hid (take_pair h3 w0)
  clear h1 h2 h3
  have hne : some w.heap.size ≠ some g := fun e => by cases e; omega
  have hng : g ≠ w.heap.size := fun e => by omega
  go_enter Tryz.func156, Tryz.ntmps156
  go_wp2_with (first
    | (go_at_call 157; (with_reducible refine (T1.out _ g ?_).mono ?_); exact h.alloc _; rintro e w1 ⟨rfl, hr1, hg1⟩; have HB1 := (Blk.new _ _ _).grown hg1 hne; obtain ⟨ca, fa, za⟩ := id HB1)
    | (go_at_call 157; (with_reducible refine (T2.out _ g ?_).mono ?_); exact hr1.set _ hng hlow; rintro e w2 ⟨rfl, hr2, hg2⟩; have HB2 := (HB1.set 0 (.string x1) Nat.zero_lt_two).grown hg2 hne; obtain ⟨ca2, fa2, za2⟩ := id HB2)
    | (go_at_call 157; (with_reducible refine (T3.out _ g ?_).mono ?_); exact hr2; rintro e w3 ⟨rfl, hr3, hg3⟩; have HB3 := HB2.grown hg3 hne; obtain ⟨ca3, fa3, za3⟩ := id HB3))
  refine bodyPost_ret (v := rv ⟨x1, x3⟩) (by simp [results, Tryz.results156, go_sem, ca3]) rfl ⟨by rw [E.out], ?_, ?_⟩
  · rw [E.out]
    exact ((hr3.set _ hng hlow).set _ hng hlow).set _ hng hlow
  · refine gb_new (gb_new (gb_new ?_ (Nat.le_refl _) _) (Nat.le_refl _) _) (Nat.le_refl _) _
    exact gb_trans (gb_trans (gb_new (gb_trans (gb_alloc (World.grownBy.refl _ _) _) hg1) (Nat.le_refl _) _) hg2) hg3

def Rd.body (r : Rd) (s : St) : St × Rd :=
  if (r.take 1).2.is 3 = false then ({ s with k := 1, who := (r.take 1).1 }, (r.take 1).2) else
  if ((((r.take 1).2.take 3).2.take 2).2).is 3 then
    ({ s with k := 3, a := ⟨(r.take 1).1, (((r.take 1).2.take 3).2.take 2).1⟩, via := (((((r.take 1).2.take 3).2.take 2).2.take 3).2.take 2).1 }, (((((r.take 1).2.take 3).2.take 2).2.take 3).2.take 2).2)
  else if ((((r.take 1).2.take 3).2.take 2).2).is 5 then
    ({ s with k := 4, a := ⟨(r.take 1).1, (((r.take 1).2.take 3).2.take 2).1⟩, b := ((((r.take 1).2.take 3).2.take 2).2.take 5).2.role.1 }, ((((r.take 1).2.take 3).2.take 2).2.take 5).2.role.2)
  else ({ s with k := 2, a := ⟨(r.take 1).1, (((r.take 1).2.take 3).2.take 2).1⟩ }, (((r.take 1).2.take 3).2.take 2).2)

theorem role_pair {r : Rd} {x : Rl} {r' : Rd} (h : r.role = (x, r')) (w0 w : World) (g : Nat) (ha : RdAt w0 w g r) :
    Calls Tryz.prog 156 #[.pointer (some ⟨g, 0, none⟩)] w fun e w' => e = .returned (rv x) ∧ RdAt w0 w' g r' ∧ w.grownBy w' (some g) := by
  have := read_role r w0 w g ha
  rw [h] at this
  exact this
theorem is_true {r : Rd} {k : Int} {b : Bool} (h : r.is k = b) (w0 w : World) (g : Nat) (ha : RdAt w0 w g r) :
    Calls Tryz.prog 224 #[.pointer (some ⟨g, 0, none⟩), .int .i64 k] w fun e w' => e = .returned (.bool b) ∧ w = w' := by
  have := read_is r w0 w g k ha
  rw [h] at this
  exact this

section
variable {r r1 r2 r3 r4 r5 : Rd} {x1 x2 x3 x4 x5 : ByteArray} {x : Rl}
theorem body1 (s : St) (h1 : r.take 1 = (x1, r1)) (i1 : r1.is 3 = false) : r.body s = ({ s with k := 1, who := x1 }, r1) := by simp [Rd.body, h1, i1]
theorem body2 (s : St) (h1 : r.take 1 = (x1, r1)) (i1 : r1.is 3 = true) (h2 : r1.take 3 = (x2, r2)) (h3 : r2.take 2 = (x3, r3)) (i3 : r3.is 3 = false) (i5 : r3.is 5 = false) :
    r.body s = ({ s with k := 2, a := ⟨x1, x3⟩ }, r3) := by simp [Rd.body, h1, i1, h2, h3, i3, i5]
theorem body3 (s : St) (h1 : r.take 1 = (x1, r1)) (i1 : r1.is 3 = true) (h2 : r1.take 3 = (x2, r2)) (h3 : r2.take 2 = (x3, r3)) (i3 : r3.is 3 = true) (h4 : r3.take 3 = (x4, r4)) (h5 : r4.take 2 = (x5, r5)) :
    r.body s = ({ s with k := 3, a := ⟨x1, x3⟩, via := x5 }, r5) := by simp [Rd.body, h1, i1, h2, h3, i3, h4, h5]
theorem body4 (s : St) (h1 : r.take 1 = (x1, r1)) (i1 : r1.is 3 = true) (h2 : r1.take 3 = (x2, r2)) (h3 : r2.take 2 = (x3, r3)) (i3 : r3.is 3 = false) (i5 : r3.is 5 = true) (h4 : r3.take 5 = (x4, r4)) (h5 : r4.role = (x, r5)) :
    r.body s = ({ s with k := 4, a := ⟨x1, x3⟩, b := x }, r5) := by simp [Rd.body, h1, i1, h2, h3, i3, i5, h4, h5]
end
set_option maxRecDepth 100000 in
set_option maxHeartbeats 4000000 in
theorem read_body (r : Rd) (s : St) (w0 w : World) (g b : Nat) (h : RdAt w0 w g r) (hb : Blk w b s.cells.toArray) (hgb : g ≠ b) (hlow : w0.heap.size ≤ b) :
    Calls Tryz.prog 158 #[.pointer (some ⟨g, 0, none⟩), .pointer (some ⟨b, 0, none⟩)] w
      fun e w' => e = .returned (.tuple #[]) ∧ RdAt w0 w' g (r.body s).2 ∧ Blk w' b (r.body s).1.cells.toArray := by
  obtain ⟨k, ⟨s1, s2⟩, who, ⟨a1, a2⟩, ⟨b1, b2⟩, via⟩ := s
  simp only [St.cells] at hb
  have hne : some b ≠ some g := fun e => hgb (by cases e; rfl)
  cases h1 : r.take 1 with | mk x1 r1 =>
  have T1 := Lib.hid (take_pair h1 w0)
  cases i1 : r1.is 3 with
  | false =>
    have I1 := Lib.hid (is_true i1 w0)
    have E := Lib.hid (body1 ⟨k, ⟨s1, s2⟩, who, ⟨a1, a2⟩, ⟨b1, b2⟩, via⟩ h1 i1)
    clear i1 h1
    go_enter Tryz.func158, Tryz.ntmps158
    go_wp2_with (first
      | (go_at_call 157; (with_reducible refine (T1.out _ g ?_).mono ?_); exact h; rintro e w1 ⟨rfl, hr1, hg1⟩; have HB1 := hb.grown hg1 hne; obtain ⟨ca, fa, za⟩ := id HB1)
      | (go_at_call 224; (with_reducible refine (I1.out _ g ?_).mono ?_); exact hr1; rintro e w2 ⟨rfl, rfl⟩))
    refine bodyPost_ret (results_none rfl _ _ _) rfl ?_
    rw [E.out]
    exact ⟨rfl, (hr1.set _ hgb hlow).set _ hgb hlow, (HB1.set 0 _ (by simp)).set 3 _ (by simp)⟩
  | true =>
    have I1 := Lib.hid (is_true i1 w0)
    cases h2 : r1.take 3 with | mk x2 r2 =>
    have T2 := Lib.hid (take_pair h2 w0)
    cases h3 : r2.take 2 with | mk x3 r3 =>
    have T3 := Lib.hid (take_pair h3 w0)
    cases i3 : r3.is 3 with
    | true =>
      have I3 := Lib.hid (is_true i3 w0)
      cases h4 : r3.take 3 with | mk x4 r4 =>
      have T4 := Lib.hid (take_pair h4 w0)
      cases h5 : r4.take 2 with | mk x5 r5 =>
      have T5 := Lib.hid (take_pair h5 w0)
      have E := Lib.hid (body3 ⟨k, ⟨s1, s2⟩, who, ⟨a1, a2⟩, ⟨b1, b2⟩, via⟩ h1 i1 h2 h3 i3 h4 h5)
      clear h1 i1 h2 h3 i3 h4 h5
      go_enter Tryz.func158, Tryz.ntmps158
      go_wp2_with (first
        | (go_at_call 157; (with_reducible refine (T1.out _ g ?_).mono ?_); exact h; rintro e w1 ⟨rfl, hr1, hg1⟩; have HB1 := hb.grown hg1 hne; obtain ⟨ca, fa, za⟩ := id HB1)
        | (go_at_call 224; (with_reducible refine (I1.out _ g ?_).mono ?_); exact hr1; rintro e w2 ⟨rfl, rfl⟩)
        | (go_at_call 157; (with_reducible refine (T2.out _ g ?_).mono ?_); exact hr1; rintro e w2 ⟨rfl, hr2, hg2⟩; have HB2 := HB1.grown hg2 hne; obtain ⟨ca2, fa2, za2⟩ := id HB2)
        | (go_at_call 157; (with_reducible refine (T3.out _ g ?_).mono ?_); exact hr2; rintro e w3 ⟨rfl, hr3, hg3⟩; have HB3 := HB2.grown hg3 hne; obtain ⟨ca3, fa3, za3⟩ := id HB3)
        | (go_at_call 224; (with_reducible refine (I3.out _ g ?_).mono ?_); exact ((hr3.set _ hgb hlow).set _ hgb hlow).set _ hgb hlow; rintro e w2 ⟨rfl, rfl⟩)
        | (go_at_call 157; (with_reducible refine (T4.out _ g ?_).mono ?_); exact ((hr3.set _ hgb hlow).set _ hgb hlow).set _ hgb hlow; rintro e w4 ⟨rfl, hr4, hg4⟩; have HB4 := (((HB3.set 0 _ (of_decide_eq_true rfl)).set 4 _ (of_decide_eq_true rfl)).set 5 _ (of_decide_eq_true rfl)).grown hg4 hne; obtain ⟨ca4, fa4, za4⟩ := id HB4)
        | (go_at_call 157; (with_reducible refine (T5.out _ g ?_).mono ?_); exact hr4; rintro e w5 ⟨rfl, hr5, hg5⟩; have HB5 := HB4.grown hg5 hne; obtain ⟨ca5, fa5, za5⟩ := id HB5))
      go_end0
      rw [E.out]
      exact ⟨rfl, (hr5.set _ hgb hlow).set _ hgb hlow, (HB5.set 0 _ (by simp)).set 8 _ (by simp)⟩
    | false =>
      have I3 := Lib.hid (is_true i3 w0)
      cases i5 : r3.is 5 with
      | true =>
        have I5 := Lib.hid (is_true i5 w0)
        cases h4 : r3.take 5 with | mk x4 r4 =>
        have T4 := Lib.hid (take_pair h4 w0)
        cases h5 : r4.role with | mk x5 r5 =>
        obtain ⟨y1, y2⟩ := x5
        have T5 := Lib.hid (role_pair h5 w0)
        have E := Lib.hid (body4 ⟨k, ⟨s1, s2⟩, who, ⟨a1, a2⟩, ⟨b1, b2⟩, via⟩ h1 i1 h2 h3 i3 i5 h4 h5)
        clear h1 i1 h2 h3 i3 h4 h5 i5
        go_enter Tryz.func158, Tryz.ntmps158
        go_wp2_with (first
          | (go_at_call 157; (with_reducible refine (T1.out _ g ?_).mono ?_); exact h; rintro e w1 ⟨rfl, hr1, hg1⟩; have HB1 := hb.grown hg1 hne; obtain ⟨ca, fa, za⟩ := id HB1)
          | (go_at_call 224; (with_reducible refine (I1.out _ g ?_).mono ?_); exact hr1; rintro e w2 ⟨rfl, rfl⟩)
          | (go_at_call 157; (with_reducible refine (T2.out _ g ?_).mono ?_); exact hr1; rintro e w2 ⟨rfl, hr2, hg2⟩; have HB2 := HB1.grown hg2 hne; obtain ⟨ca2, fa2, za2⟩ := id HB2)
          | (go_at_call 157; (with_reducible refine (T3.out _ g ?_).mono ?_); exact hr2; rintro e w3 ⟨rfl, hr3, hg3⟩; have HB3 := HB2.grown hg3 hne; obtain ⟨ca3, fa3, za3⟩ := id HB3)
          | (go_at_call 224; (with_reducible refine (I3.out _ g ?_).mono ?_); exact ((hr3.set _ hgb hlow).set _ hgb hlow).set _ hgb hlow; rintro e w2 ⟨rfl, rfl⟩)
          | (go_at_call 224; (with_reducible refine (I5.out _ g ?_).mono ?_); exact ((hr3.set _ hgb hlow).set _ hgb hlow).set _ hgb hlow; rintro e w2 ⟨rfl, rfl⟩)
          | (go_at_call 157; (with_reducible refine (T4.out _ g ?_).mono ?_); exact ((hr3.set _ hgb hlow).set _ hgb hlow).set _ hgb hlow; rintro e w4 ⟨rfl, hr4, hg4⟩; have HB4 := (((HB3.set 0 _ (of_decide_eq_true rfl)).set 4 _ (of_decide_eq_true rfl)).set 5 _ (of_decide_eq_true rfl)).grown hg4 hne; obtain ⟨ca4, fa4, za4⟩ := id HB4)
          | (go_at_call 156; (with_reducible refine (T5.out _ g ?_).mono ?_); exact hr4; rintro e w5 ⟨rfl, hr5, hg5⟩; have HB5 := HB4.grown hg5 hne; obtain ⟨ca5, fa5, za5⟩ := id HB5))
        go_end0
        rw [E.out]
        exact ⟨rfl, ((hr5.set _ hgb hlow).set _ hgb hlow).set _ hgb hlow, ((HB5.set 0 _ (by simp)).set 6 _ (by simp)).set 7 _ (by simp)⟩
      | false =>
        have I5 := Lib.hid (is_true i5 w0)
        have E := Lib.hid (body2 ⟨k, ⟨s1, s2⟩, who, ⟨a1, a2⟩, ⟨b1, b2⟩, via⟩ h1 i1 h2 h3 i3 i5)
        clear h1 i1 h2 h3 i3 i5
        go_enter Tryz.func158, Tryz.ntmps158
        go_wp2_with (first
          | (go_at_call 157; (with_reducible refine (T1.out _ g ?_).mono ?_); exact h; rintro e w1 ⟨rfl, hr1, hg1⟩; have HB1 := hb.grown hg1 hne; obtain ⟨ca, fa, za⟩ := id HB1)
          | (go_at_call 224; (with_reducible refine (I1.out _ g ?_).mono ?_); exact hr1; rintro e w2 ⟨rfl, rfl⟩)
          | (go_at_call 157; (with_reducible refine (T2.out _ g ?_).mono ?_); exact hr1; rintro e w2 ⟨rfl, hr2, hg2⟩; have HB2 := HB1.grown hg2 hne; obtain ⟨ca2, fa2, za2⟩ := id HB2)
          | (go_at_call 157; (with_reducible refine (T3.out _ g ?_).mono ?_); exact hr2; rintro e w3 ⟨rfl, hr3, hg3⟩; have HB3 := HB2.grown hg3 hne; obtain ⟨ca3, fa3, za3⟩ := id HB3)
          | (go_at_call 224; (with_reducible refine (I3.out _ g ?_).mono ?_); exact ((hr3.set _ hgb hlow).set _ hgb hlow).set _ hgb hlow; rintro e w2 ⟨rfl, rfl⟩)
          | (go_at_call 224; (with_reducible refine (I5.out _ g ?_).mono ?_); exact ((hr3.set _ hgb hlow).set _ hgb hlow).set _ hgb hlow; rintro e w2 ⟨rfl, rfl⟩))
        go_end0
        rw [E.out]
        exact ⟨rfl, ((hr3.set _ hgb hlow).set _ hgb hlow).set _ hgb hlow, ((HB3.set 0 _ (by simp)).set 4 _ (by simp)).set 5 _ (by simp)⟩
end Go.Proofs.YtomhekohcadijaaGreatDoor
namespace Go.Proofs.YtomhekohcadijaaGreatDoor
open Go.RowKit Go.Shelf

theorem scan_bare (s : ByteArray) (w : World) (hs : s.size < 4294967281) (hg : Gl w) :
    Calls Tryz.prog 179 #[.string s] w fun e w' => e = .returned (.string ⟨(bare (bl s)).toArray⟩) ∧ ∃ n, w' = w.drewN n := by
  obtain ⟨m, hm⟩ := hg
  have hcon := Tryz.strings_Cut s ⟨#[35]⟩ m w hs hm
  rw [show (⟨#[35]⟩ : ByteArray).data.toList = [35] from rfl, cut_bare] at hcon
  generalize (Lib.cut s.data.toList [35]).2.1 = x at hcon
  generalize (Lib.cut s.data.toList [35]).2.2 = y at hcon
  generalize bare (bl s) = r at hcon ⊢
  have H := Lib.hid hcon
  clear hcon hm
  go_enter Tryz.func179, Tryz.ntmps179
  go_wp2_with (go_at_call 91; refine H.out.mono ?_; rintro e w' ⟨rfl, n, rfl⟩)
  go_ret
  exact ⟨rfl, n, rfl⟩

set_option maxHeartbeats 400000 in
theorem scan_word (s : ByteArray) (a : Nat) (w : World) (hs : s.size ≤ 9223372036854775) (ha : a ≤ s.size) :
    Calls Tryz.prog 237 #[.string s, .int .i64 a] w fun e w' => e = .returned (.int .i64 (wordOf ((bl s).drop a)).length) ∧ w = w' := by
  go_enter Tryz.func237, Tryz.ntmps237
  go_wp2
  go_loop [5] (fun i => ∃ k : Nat, a + k ≤ s.size ∧ i = .int .i64 k ∧ ∀ c ∈ ((bl s).drop a).take k, alnum c = true) (fun i => s.size - (intOf i).toNat)
  case atStart => exact ⟨0, by omega, rfl, by simp⟩
  case round =>
    obtain ⟨k, hk, rfl, hal⟩ := hrel
    have HA := Lib.hid hal
    clear hal
    have hlen : k ≤ ((bl s).drop a).length := by rw [List.length_drop, bl_len]; omega
    by_cases hlt : a + k < s.size
    · have hc := bl_at s a k hlt
      have hb := bl_A s (a + k) hlt
      have HC := Lib.hid (names_IsPrin ({ data := #[65] } ++ s.extract (a + k) (a + k + 1)) w (by rw [size_A s _ hlt]; omega))
      cases hx : alnum s[a + k] with
      | true =>
        have HM := Lib.hid (word_more _ _ _ HA.out hc hx)
        have HB := Lib.hid ((congrArg (isP 65 90) hb).trans ((isP_A _).trans hx))
        clear hc hb hx hlen
        go_wp2_with (go_at_call 164; refine HC.out.mono ?_; rw [HB.out]; rintro e w' ⟨rfl, rfl⟩)
        exact ⟨⟨k + 1, by omega, by go_num, HM.out⟩, by simp [intOf]; omega⟩
      | false =>
        have HM := Lib.hid (word_stop _ _ HA.out hlen (fun c h => by rw [hc] at h; cases h; exact hx))
        have HB := Lib.hid ((congrArg (isP 65 90) hb).trans ((isP_A _).trans hx))
        clear hc hb hx hlen
        go_wp2_with (go_at_call 164; refine HC.out.mono ?_; rw [HB.out]; rintro e w' ⟨rfl, rfl⟩)
        go_ret
        exact ⟨ret_int (by rw [HM.out]), rfl⟩
    · have HM := Lib.hid (word_stop _ _ HA.out hlen (fun _ h => by rw [bl_at_end s a k hlt] at h; cases h))
      clear hlen
      go_wp2
      go_ret
      exact ⟨ret_int (by rw [HM.out]), rfl⟩


set_option maxHeartbeats 1000000 in
theorem scan_one (s : ByteArray) (a : Nat) (w : World) (hs : s.size ≤ 9223372036854775) (ha : a < s.size) :
    Calls Tryz.prog 180 #[.string s, .int .i64 a] w fun e w' => e = .returned (.agg (oneTok ((bl s).drop a) a).cells.toArray) ∧ Below w.heap.size w w' := by
  have hd := bl_drop s a ha
  have HP := Lib.hid (fun W => Tryz.strings_HasPrefix (s.extract a s.size) ⟨#[60, 45]⟩ W)
  have HW := Lib.hid (fun W => scan_word s a W hs (by omega))
  have h0 : 0 ≤ (s[a].toNat : Int) := by omega
  have HX := Lib.hid (str_eq (bl_one s a ha))
  by_cases h46 : s[a].toNat = 46
  · have e : (oneTok ((bl s).drop a) a) = ⟨3, [s[a]], a + 1⟩ := by rw [hd]; simp [oneTok, h46]
    have b46 : ((s[a].toNat : Int) == 46) = true := by rw [beq_iff_eq]; omega
    have E := Lib.hid e
    clear e hd h46
    go_enter Tryz.func180, Tryz.ntmps180
    go_wp2_with fail
    refine bodyPost_ret (v := .agg #[.int .i64 3, .string (s.extract a (a + 1)), .int .i64 (a + 1)]) (by simp [results, Tryz.results180, go_sem]) rfl ⟨?_, ?_⟩
    · rw [E.out, HX.out]; rfl
    · exact ((Below.refl _ _).alloc (Nat.le_refl _) _).alloc (by simp) _
  · have b46 : ((s[a].toNat : Int) == 46) = false := by rw [beq_eq_false_iff_ne]; omega
    by_cases h38 : s[a].toNat = 38
    · have e : (oneTok ((bl s).drop a) a) = ⟨5, [s[a]], a + 1⟩ := by rw [hd]; simp [oneTok, h38]
      have b38 : ((s[a].toNat : Int) == 38) = true := by rw [beq_iff_eq]; omega
      have E := Lib.hid e
      clear e hd h46 h38
      go_enter Tryz.func180, Tryz.ntmps180
      go_wp2_with fail
      refine bodyPost_ret (v := .agg #[.int .i64 5, .string (s.extract a (a + 1)), .int .i64 (a + 1)]) (by simp [results, Tryz.results180, go_sem]) rfl ⟨?_, ?_⟩
      · rw [E.out, HX.out]; rfl
      · exact ((Below.refl _ _).alloc (Nat.le_refl _) _).alloc (by simp) _
    · have b38 : ((s[a].toNat : Int) == 38) = false := by rw [beq_eq_false_iff_ne]; omega
      cases hp : Lib.hasPrefix (s.extract a s.size).data.toList [60, 45] with
      | true =>
        have hp' : [60, 45].isPrefixOf ((bl s).drop a) = true := by rw [← ssub s a]; exact hp
        have e : (oneTok ((bl s).drop a) a) = ⟨4, [60, 45], a + 1⟩ := by rw [hd] at hp' ⊢; simp only [oneTok, h46, h38, hp', if_false, if_true]
        have E := Lib.hid e
        have HH := Lib.hid hp
        clear e hd h46 h38 hp hp'
        go_enter Tryz.func180, Tryz.ntmps180
        go_wp2_with (go_at_call 236; refine (HP.out _).mono ?_; rw [show Lib.hasPrefix (s.extract a s.size).data.toList (⟨#[60, 45]⟩ : ByteArray).data.toList = true from HH.out]; rintro e w' ⟨rfl, rfl⟩)
        refine bodyPost_ret (v := .agg #[.int .i64 4, .string ⟨#[60, 45]⟩, .int .i64 (a + 1)]) (by simp [results, Tryz.results180, go_sem]) rfl ⟨?_, ?_⟩
        · rw [E.out]; rfl
        · exact ((Below.refl _ _).alloc (Nat.le_refl _) _).alloc (by simp) _
      | false =>
        have hp' : [60, 45].isPrefixOf ((bl s).drop a) = false := by rw [← ssub s a]; exact hp
        have HL := sword_le s a (by omega)
        have HS := Lib.hid (str_eq (sword s a))
        have HH := Lib.hid hp
        by_cases hb : 65 ≤ (s[a].toNat : Int) ∧ (s[a].toNat : Int) ≤ 90
        · obtain ⟨hb1, hb2⟩ := hb
          have e : (oneTok ((bl s).drop a) a) = ⟨1, wordOf ((bl s).drop a), a + 1⟩ := by
            have hbt : btw s[a].toNat 65 90 = true := by simp [btw]; omega
            rw [hd] at hp' ⊢; simp only [oneTok, h46, h38, hp', hbt, if_false, if_true]; rfl
          have E := Lib.hid e
          clear e hd h46 h38 hp hp'
          generalize hn : (wordOf ((bl s).drop a)).length = n at HW HL HS
          clear hn
          go_enter Tryz.func180, Tryz.ntmps180
          go_wp2_with (first | (go_at_call 236; refine (HP.out _).mono ?_; rw [show Lib.hasPrefix (s.extract a s.size).data.toList (⟨#[60, 45]⟩ : ByteArray).data.toList = false from HH.out]; rintro e w' ⟨rfl, rfl⟩) | (go_at_call 237; refine (HW.out _).mono ?_; rintro e w' ⟨rfl, rfl⟩))
          refine bodyPost_ret (v := .agg #[.int .i64 1, .string (s.extract a (a + n)), .int .i64 (a + 1)]) (by simp [results, Tryz.results180, go_sem]) rfl ⟨?_, ?_⟩
          · rw [E.out, HS.out]; rfl
          · exact ((Below.refl _ _).alloc (Nat.le_refl _) _).alloc (by simp) _
        · have hbt : btw s[a].toNat 65 90 = false := by simp [btw]; omega
          have hnb : 65 ≤ (s[a].toNat : Int) → 90 < (s[a].toNat : Int) := by omega
          by_cases hc : 97 ≤ (s[a].toNat : Int) ∧ (s[a].toNat : Int) ≤ 122
          · obtain ⟨hc1, hc2⟩ := hc
            have hb1 : 65 ≤ (s[a].toNat : Int) := by omega
            have hb2 : 90 < (s[a].toNat : Int) := by omega
            have e : (oneTok ((bl s).drop a) a) = ⟨2, wordOf ((bl s).drop a), a + 1⟩ := by
              have hct : btw s[a].toNat 97 122 = true := by simp [btw]; omega
              rw [hd] at hp' ⊢; simp only [oneTok, h46, h38, hp', hbt, hct, if_false, if_true]; rfl
            have E := Lib.hid e
            clear e hd h46 h38 hp hp' hbt hnb
            generalize hn : (wordOf ((bl s).drop a)).length = n at HW HL HS
            clear hn
            go_enter Tryz.func180, Tryz.ntmps180
            go_wp2_with (first | (go_at_call 236; refine (HP.out _).mono ?_; rw [show Lib.hasPrefix (s.extract a s.size).data.toList (⟨#[60, 45]⟩ : ByteArray).data.toList = false from HH.out]; rintro e w' ⟨rfl, rfl⟩) | (go_at_call 237; refine (HW.out _).mono ?_; rintro e w' ⟨rfl, rfl⟩))
            refine bodyPost_ret (v := .agg #[.int .i64 2, .string (s.extract a (a + n)), .int .i64 (a + 1)]) (by simp [results, Tryz.results180, go_sem]; decide) rfl ⟨?_, ?_⟩
            · rw [E.out, HS.out]; rfl
            · exact ((Below.refl _ _).alloc (Nat.le_refl _) _).alloc (by simp) _
          · have e : (oneTok ((bl s).drop a) a) = ⟨0, [s[a]], a + 1⟩ := by
              have hct : btw s[a].toNat 97 122 = false := by simp [btw]; omega
              rw [hd] at hp' ⊢; simp only [oneTok, h46, h38, hp', hbt, hct, if_false, Bool.false_eq_true]
            have E := Lib.hid e
            clear e hd h46 h38 hp hp' hbt
            by_cases hb1 : 65 ≤ (s[a].toNat : Int)
            · have hb2 := hnb hb1
              clear hnb
              by_cases hc1 : 97 ≤ (s[a].toNat : Int)
              · have hc2 : 122 < (s[a].toNat : Int) := by omega
                clear hc
                go_enter Tryz.func180, Tryz.ntmps180
                go_wp2_with (first | (go_at_call 236; refine (HP.out _).mono ?_; rw [show Lib.hasPrefix (s.extract a s.size).data.toList (⟨#[60, 45]⟩ : ByteArray).data.toList = false from HH.out]; rintro e w' ⟨rfl, rfl⟩) | (go_at_call 237; refine (HW.out _).mono ?_; rintro e w' ⟨rfl, rfl⟩))
                refine bodyPost_ret (v := .agg #[.int .i64 0, .string (s.extract a (a + 1)), .int .i64 (a + 1)]) (by simp [results, Tryz.results180, go_sem]) rfl ⟨?_, ?_⟩
                · rw [E.out, HX.out]; rfl
                · exact ((Below.refl _ _).alloc (Nat.le_refl _) _).alloc (by simp) _
              · clear hc
                go_enter Tryz.func180, Tryz.ntmps180
                go_wp2_with (first | (go_at_call 236; refine (HP.out _).mono ?_; rw [show Lib.hasPrefix (s.extract a s.size).data.toList (⟨#[60, 45]⟩ : ByteArray).data.toList = false from HH.out]; rintro e w' ⟨rfl, rfl⟩) | (go_at_call 237; refine (HW.out _).mono ?_; rintro e w' ⟨rfl, rfl⟩))
                refine bodyPost_ret (v := .agg #[.int .i64 0, .string (s.extract a (a + 1)), .int .i64 (a + 1)]) (by simp [results, Tryz.results180, go_sem]) rfl ⟨?_, ?_⟩
                · rw [E.out, HX.out]; rfl
                · exact ((Below.refl _ _).alloc (Nat.le_refl _) _).alloc (by simp) _
            · have hc1 : ¬ 97 ≤ (s[a].toNat : Int) := by omega
              clear hnb hc
              go_enter Tryz.func180, Tryz.ntmps180
              go_wp2_with (first | (go_at_call 236; refine (HP.out _).mono ?_; rw [show Lib.hasPrefix (s.extract a s.size).data.toList (⟨#[60, 45]⟩ : ByteArray).data.toList = false from HH.out]; rintro e w' ⟨rfl, rfl⟩) | (go_at_call 237; refine (HW.out _).mono ?_; rintro e w' ⟨rfl, rfl⟩))
              refine bodyPost_ret (v := .agg #[.int .i64 0, .string (s.extract a (a + 1)), .int .i64 (a + 1)]) (by simp [results, Tryz.results180, go_sem]) rfl ⟨?_, ?_⟩
              · rw [E.out, HX.out]; rfl
              · exact ((Below.refl _ _).alloc (Nat.le_refl _) _).alloc (by simp) _
end Go.Proofs.YtomhekohcadijaaGreatDoor
namespace Go.Proofs.YtomhekohcadijaaGreatDoor
open Go.RowKit Go.Shelf

theorem tok_info : (Tryz.prog.info? 164).map (fun i => (i.zero, i.size, i.bytes)) = some (some (.agg #[.int .i64 0, .string ByteArray.empty, .int .i64 0]), 3, 32) := by kernel_rfl

abbrev tokCells (kd : Int) (X : ByteArray) (co : Int) : List Value := [.int .i64 kd, .string X, .int .i64 co]
theorem tok_one (kd : Int) (X : ByteArray) (co : Int) : ∀ u ∈ tokCells kd X co, u.oneCell' = true := by
  intro u hu; simp at hu; rcases hu with rfl | rfl | rfl <;> rfl

def TokPost (r : List Tok × Int × Int) (w : World) (e : Ending) (w' : World) : Prop :=
  ∃ v, e = .returned (.tuple #[v, .int .i64 r.2.1, .int .i64 r.2.2]) ∧ w'.ownsRow w.heap.size 164 3 v r.1.length (r.1.flatMap Tok.cells) ∧ Below w.heap.size w w'

def TokRel (B : Nat) (w : World) (l : List UInt8) (v i : Value) (wr : World) : Prop :=
  ∃ (k f : Nat) (acc : List Tok), k ≤ l.length ∧ i = .int .i64 k ∧ l.length - k ≤ f ∧ acc.length ≤ k ∧ wr.ownsRow B 164 3 v acc.length (acc.flatMap Tok.cells) ∧
    toks l.length l 0 [] = toks f (l.drop k) k acc ∧ Below B w wr

set_option maxHeartbeats 1000000 in
theorem scan_Tokens (s : ByteArray) (w : World) (hs : s.size ≤ 200) (hg : Gl w) :
    Calls Tryz.prog 124 #[.string s] w (TokPost (tokens (bl s)) w) := by
  have ht : tokens (bl s) = toks (bare (bl s)).length (bare (bl s)) 0 [] := by unfold tokens; rw [if_neg (by rw [bl_len]; omega)]
  have HT := Lib.hid ht
  have HB := Lib.hid (scan_bare s w (by omega) hg)
  have hle := bare_le (bl s)
  rw [bl_len] at hle
  generalize hr : (⟨(bare (bl s)).toArray⟩ : ByteArray) = r at HB
  have hbr : bl r = bare (bl s) := by rw [← hr]
  have hrs : r.size ≤ 200 := by rw [← bl_len, hbr]; omega
  have HR := Lib.hid hbr
  clear hr hbr hle ht hg
  have h200 : decide (200 < (s.size : Int)) = false := by simp; omega
  go_enter Tryz.func124, Tryz.ntmps124
  go_wp2_with (go_at_call 179; refine HB.out.mono ?_; rintro e w' ⟨rfl, n, rfl⟩)
  go_loopw [2, 6] (TokRel w.heap.size w (bl r)) (fun _ i _ => r.size - (intOf i).toNat)
  case atStart => exact ⟨0, (bl r).length, [], by omega, rfl, by omega, by simp, World.ownsRow_nil _ _ _ _, rfl, below_of_drewN n⟩
  case round =>
    obtain ⟨k, f, acc, hk, rfl, hf, hacc, hown, htk, hb⟩ := hrel
    rw [bl_len] at hk hf
    have HK := Lib.hid htk
    clear htk
    by_cases hlt : k < r.size
    · obtain ⟨f, rfl⟩ : ∃ f', f = f' + 1 := ⟨f - 1, by omega⟩
      by_cases h32 : r[k].toNat = 32
      · have b32 : ((r[k].toNat : Int) == 32) = true := by rw [beq_iff_eq]; omega
        have HN := Lib.hid (HK.out.trans (toks_at_space r k f acc hlt h32))
        clear h32
        go_wp2
        exact ⟨⟨k + 1, f, acc, by rw [bl_len]; omega, by go_num, by rw [bl_len]; omega, by omega, hown, HN.out, hb⟩, by simp [intOf]; omega⟩
      · have b32 : ((r[k].toNat : Int) == 32) = false := by rw [beq_eq_false_iff_ne]; omega
        have HO := Lib.hid (fun W => scan_one r k W (by omega) hlt)
        have hroom := oneTok_room ((bl r).drop k) k
        rw [List.length_drop, bl_len] at hroom
        have hbad := toks_at_bad r k f acc hlt h32
        have hlong := toks_at_long r k f acc hlt h32
        have hgo := toks_at_go r k f acc hlt h32
        generalize oneTok ((bl r).drop k) k = t at HO hroom hbad hlong hgo
        obtain ⟨kd, tx, co⟩ := t
        dsimp only at hroom hbad hlong hgo
        simp only [Tok.cells] at HO
        have hX : (⟨tx.toArray⟩ : ByteArray).size = tx.length := by simp [ByteArray.size]
        rw [← hX] at hroom hlong hgo
        generalize hXe : (⟨tx.toArray⟩ : ByteArray) = X at HO hroom hlong hgo
        have HX := Lib.hid hXe
        clear hXe h32 hX
        by_cases hkd : kd = 0
        · have bk : (kd == 0) = true := by rw [beq_iff_eq]; exact hkd
          have HN := Lib.hid (HK.out.trans (hbad hkd))
          clear hbad hlong hgo hroom hkd
          go_wp2_with (go_at_call 180; refine (HO.out _).mono ?_; rintro e w1 ⟨rfl, hb1⟩)
          go_quiet (fail)
          go_wp2
          go_ret3
          rw [HT.out, ← HR.out, HN.out]
          exact ⟨_, rfl, World.ownsRow_nil _ _ _ _, below_drewN ((hb.trans (hb1.mono hb.size)).alloc (Nat.le_trans hb.size hb1.size) _) _⟩
        · have bk : (kd == 0) = false := by rw [beq_eq_false_iff_ne]; exact hkd
          obtain ⟨hr1, hr2⟩ := hroom hkd
          by_cases hl : 8 < X.size
          · have bl8 : decide (8 < (X.size : Int)) = true := by simp; omega
            have HN := Lib.hid (HK.out.trans (hlong hkd hl))
            clear hbad hlong hgo hroom hkd hl
            go_wp2_with (go_at_call 180; refine (HO.out _).mono ?_; rintro e w1 ⟨rfl, hb1⟩)
            go_quiet (fail)
            go_wp2
            go_ret3
            rw [HT.out, ← HR.out, HN.out]
            exact ⟨_, rfl, World.ownsRow_nil _ _ _ _, below_drewN ((hb.trans (hb1.mono hb.size)).alloc (Nat.le_trans hb.size hb1.size) _) _⟩
          · have bl8 : decide (8 < (X.size : Int)) = false := by simp; omega
            have HN := Lib.hid (HK.out.trans (hgo hkd hl))
            clear hbad hlong hgo hroom hkd
            go_wp2_with (first | (go_at_call 180; refine (HO.out _).mono ?_; rintro e w1 ⟨rfl, hb1⟩) | (at_builtin; refine app_own Tryz.underlying160 tok_info rfl (by decide) (by decide) rfl _ _ rfl w.heap.size rfl (((own_below hown hb1).alloc _).alloc _) (tokCells kd X co) rfl (heap_new2 _ _ _) rfl (tok_one _ _ _) ?_ ?_ ?_; omega; (have := hb1.size; have := hb.size; simp; omega); intro a' cap' w2 hown' hgrow; have hcx := grown_cell hown (u := .string X) (g := w1.heap.size) (o := 1) hgrow hb1.size (by simp [go_sem])))
            have hsz := hb1.size
            have hsz0 := hb.size
            refine ⟨⟨k + X.size, f, acc ++ [⟨kd, tx, co⟩], by rw [bl_len]; omega, by go_num, by rw [bl_len]; omega, by simp; omega, ?_, HN.out, ?_⟩, by simp [intOf]; omega⟩
            · rw [List.length_append, List.flatMap_append]
              simp only [List.flatMap_cons, List.flatMap_nil, List.append_nil, Tok.cells, HX.out]
              exact hown'
            · exact (((hb.trans (hb1.mono hsz0)).alloc (by omega) _).alloc (by simp; omega) _).grown hgrow (by simp; omega) (fun g hg => (hown.lt g hg).1)
    · have HN := Lib.hid (HK.out.trans (toks_at_end r k f acc hlt))
      go_wp2
      go_ret3
      rw [HT.out, ← HR.out, HN.out]
      exact ⟨u2, rfl, hown, hb⟩
theorem tokens_long (s : ByteArray) (h : ¬ s.size ≤ 200) : tokens (bl s) = ([], 201, 4) := by unfold tokens; rw [if_pos (by rw [bl_len]; omega)]
theorem scan_Tokens_any (s : ByteArray) (w : World) (hg : Gl w) (hs : s.size ≤ 9223372036854775807) : Calls Tryz.prog 124 #[.string s] w (TokPost (tokens (bl s)) w) := by
  by_cases h : s.size ≤ 200
  · exact scan_Tokens s w h hg
  · have HT := Lib.hid (tokens_long s h)
    have h200 : decide (200 < (s.size : Int)) = true := by simp; omega
    clear h
    go_enter Tryz.func124, Tryz.ntmps124
    go_wp2
    go_ret3
    rw [HT.out]
    exact ⟨_, rfl, World.ownsRow_nil _ _ _ _, Below.refl _ _⟩
end Go.Proofs.YtomhekohcadijaaGreatDoor
namespace Go.Proofs.YtomhekohcadijaaGreatDoor
open Go.RowKit Go.Shelf

def Rd.fin (r : Rd) (s : St) : St × Int × Int :=
  if r.why ≠ 0 then (noS, r.p, r.why) else match r.l with | [] => (normalS s, 0, 0) | t :: _ => (noS, t.col, 2)
theorem fin_bad {r : Rd} {s : St} (h : ¬ r.why = 0) : r.fin s = (noS, r.p, r.why) := if_pos h
def Rd.stmt (r : Rd) : St × Rd := (r.role.2.take 4).2.body ⟨0, r.role.1, emp, noR, noR, emp⟩
def parseT (t : List Tok × Int × Int) (e : Int) : St × Int × Int :=
  if t.2.2 ≠ 0 then (noS, t.2.1, t.2.2) else (Rd.mk t.1 e 0 0).stmt.2.fin (Rd.mk t.1 e 0 0).stmt.1
def endOf (s : ByteArray) : Int := ((Lib.trimRightB (bare (bl s)) 32).length : Int) + 1
def parseS (s : ByteArray) : St × Int × Int := parseT (tokens (bl s)) (endOf s)
theorem parseT_bad {t : List Tok × Int × Int} {e : Int} (h : t.2.2 ≠ 0) : parseT t e = (noS, t.2.1, t.2.2) := if_pos h
theorem parseT_good {t : List Tok × Int × Int} {e : Int} (h : t.2.2 = 0) : parseT t e = (Rd.mk t.1 e 0 0).stmt.2.fin (Rd.mk t.1 e 0 0).stmt.1 := if_neg (fun x => x h)
theorem trimRight_le (l : List UInt8) (c : UInt8) : (Lib.trimRightB l c).length ≤ l.length := by
  rw [Lib.trimRightB, List.length_reverse]
  exact Nat.le_trans (List.dropWhile_sublist _).length_le (by simp)

theorem scan_cut (s : ByteArray) (w : World) (hs : s.size < 4294967281) (hg : Gl w) :
    Calls Tryz.prog 91 #[.string s, .string ⟨#[35]⟩] w fun e w' => ∃ (x : ByteArray) (b : Bool), e = .returned (.tuple #[.string ⟨(bare (bl s)).toArray⟩, .string x, .bool b]) ∧ ∃ n, w' = w.drewN n := by
  obtain ⟨m, hm⟩ := hg
  have hcon := Tryz.strings_Cut s ⟨#[35]⟩ m w hs hm
  rw [show (⟨#[35]⟩ : ByteArray).data.toList = [35] from rfl, cut_bare] at hcon
  exact hcon.mono fun e w' ⟨h1, h2⟩ => ⟨_, _, h1, h2⟩
set_option maxRecDepth 100000 in
set_option maxHeartbeats 2000000 in
theorem syn_Parse (s : ByteArray) (w : World) (hs : s.size < 4294967281) (hg : Gl w) :
    Calls Tryz.prog 106 #[.string s] w fun e w' => e = .returned (.tuple #[sv (parseS s).1, .int .i64 (parseS s).2.1, .int .i64 (parseS s).2.2]) ∧ Below w.heap.size w w' := by
  have HG := Lib.hid hg
  have E := Lib.hid (show parseS s = parseT (tokens (bl s)) (endOf s) from rfl)
  have EO := Lib.hid (show endOf s = ((Lib.trimRightB (bare (bl s)) 32).length : Int) + 1 from rfl)
  have hcut := fun (W : World) (h : Gl W) => scan_cut s W hs h
  have HC := Lib.hid hcut
  have HT := Lib.hid (fun W => Tryz.strings_TrimRight_one (⟨(bare (bl s)).toArray⟩) 32 (by decide) W (by simp [ByteArray.size]; have := bare_le (bl s); rw [bl_len] at this; omega))
  have hend : endOf s ≤ 4294967282 := by have := trimRight_le (bare (bl s)) 32; have := bare_le (bl s); rw [bl_len] at this; unfold endOf; omega
  have hend0 : 0 ≤ endOf s := by unfold endOf; omega
  generalize hE : endOf s = en at *
  generalize hr : (⟨(Lib.trimRightB (bare (bl s)) 32).toArray⟩ : ByteArray) = tr at HT
  have htr : (tr.size : Int) + 1 = en := by rw [← hr, ← hE]; rfl
  clear hr EO hE
  generalize parseS s = res at E ⊢
  clear hg hcut
  go_enter Tryz.func106, Tryz.ntmps106
  go_wp2_with fail
  refine (scan_Tokens_any s _ (HG.out.below ((Below.refl _ _).alloc (Nat.le_refl _) _)) (by omega)).mono ?_
  rintro e w1 ⟨va, rfl, hown1, hb1⟩
  obtain ⟨sa, sc, rfl⟩ := own_form hown1
  have hsl1 := Lib.hid (Sl.of_own hown1)
  have hG1 := Lib.hid ((HG.out.below ((Below.refl _ _).alloc (Nat.le_refl _) _)).below hb1)
  have hres := (keep1 hb1)
  clear hown1
  generalize tokens (bl s) = t at hsl1 E ⊢
  obtain ⟨l, i, y⟩ := t
  dsimp only at hsl1 E ⊢
  by_cases hy : y = 0
  · subst hy
    replace E := Lib.hid (E.out.trans (parseT_good rfl))
    go_wp2_with fail
    refine (HC.out w1 hG1.out).mono ?_
    rintro e w' ⟨x, bb, rfl, n, rfl⟩
    go_wp2_with (go_at_call 155; refine (HT.out _).mono ?_; rintro e w' ⟨rfl, rfl⟩)
    have hr0 : RdAt w1 ((w1.drewN n).alloc (.cells (rdCells (.slice sa l.length sc) ⟨l, en, 0, 0⟩) 188)) w1.heap.size ⟨l, en, 0, 0⟩ :=
      ⟨Nat.le_refl _, (below_of_drewN n).alloc (Nat.le_refl _) _, _, hsl1.out, Blk.new (w1.drewN n) _ _⟩
    cases h1 : (Rd.mk l en 0 0).role with | mk x1 r1 =>
    obtain ⟨y1, y2⟩ := x1
    refine (role_pair h1 w1 _ _ hr0).mono ?_
    rintro e w2 ⟨rfl, hr1, hg1⟩
    go_wp2_with fail
    cases h2 : r1.take 4 with | mk x2 r2 =>
    refine (take_pair h2 w1 _ _ (hr1.alloc _)).mono ?_
    rintro e w3 ⟨rfl, hr2, hg2⟩
    have hlt1 := hr1.lt
    have hB2 := (Blk.new w2 #[.int .i64 0, .string y1, .string y2, .string emp, .string emp, .string emp, .string emp, .string emp, .string emp] 80).grown hg2 (fun e => by have := Option.some.inj e; omega)
    go_wp2_with fail
    refine (read_body r2 ⟨0, ⟨y1, y2⟩, emp, noR, noR, emp⟩ w1 w3 w1.heap.size w2.heap.size hr2 hB2 (by omega) (by omega)).mono ?_
    rintro e w4 ⟨rfl, hr3, hB3⟩
    have E3 : (Rd.mk l en 0 0).stmt = r2.body ⟨0, ⟨y1, y2⟩, emp, noR, noR, emp⟩ := by simp [Rd.stmt, h1, h2]
    rw [E3] at E
    clear E3 h1 h2 hr0 hr1 hr2 hg1 hg2 hB2
    generalize r2.body ⟨0, ⟨y1, y2⟩, emp, noR, noR, emp⟩ = z at hr3 hB3 E ⊢
    obtain ⟨⟨k3, ⟨s1, s2⟩, who, ⟨a1, a2⟩, ⟨b1, b2⟩, via⟩, ⟨l3, e3, p3, y3⟩⟩ := z
    dsimp only at hr3 hB3 E
    have hres4 := hres.below hr3.below
    simp only [St.cells] at hB3
    obtain ⟨ca, fa, za⟩ := id hres4
    obtain ⟨cb, fb, zb⟩ := id hB3
    have hbw4 : Below w.heap.size w w4 := (((Below.refl _ _).alloc (Nat.le_refl _) _).trans (hb1.mono (by simp))).trans (hr3.below.mono (Nat.le_of_lt hres.2.2))
    have HBW := Lib.hid hbw4
    clear hbw4
    have HR3 := Lib.hid hr3
    have HB3 := Lib.hid hB3
    have hzz := hres.2.2
    obtain ⟨hlow, hbel, lv, hs3, hblk⟩ := hr3
    have HBE := Lib.hid hbel
    have c0 := hblk.cell 0 lv rfl
    have c1 := hblk.cell 1 (.int .i64 e3) rfl
    have c2 := hblk.cell 2 (.int .i64 p3) rfl
    have c3 := hblk.cell 3 (.int .i64 y3) rfl
    have f0 := hblk.2.1
    have z0 := hblk.2.2
    by_cases hy3 : y3 = 0
    · subst hy3
      cases l3 with
      | nil =>
        obtain ⟨a, cap, rfl⟩ := hs3.form
        replace E := Lib.hid (E.out.trans (show Rd.fin ⟨[], e3, p3, 0⟩ _ = (normalS _, 0, 0) from rfl))
        clear hb1 hres hres4 hB3 hbel hs3 hblk
        go_wp2_with (go_at_call 159; refine (syn_Normal ⟨k3, ⟨s1, s2⟩, who, ⟨a1, a2⟩, ⟨b1, b2⟩, via⟩ _).mono ?_; rintro e w5 ⟨rfl, hb5⟩; have hres5 := Blk.below ⟨ca, fa, za⟩ hb5; generalize normalS ⟨k3, ⟨s1, s2⟩, who, ⟨a1, a2⟩, ⟨b1, b2⟩, via⟩ = nz at *; obtain ⟨nk, ⟨nh1, nh2⟩, nwho, ⟨na1, na2⟩, ⟨nb1, nb2⟩, nvia⟩ := nz; obtain ⟨cc, fc, zc⟩ := id hres5)
        refine bodyPost_ret (v := .tuple #[sv ⟨nk, ⟨nh1, nh2⟩, nwho, ⟨na1, na2⟩, ⟨nb1, nb2⟩, nvia⟩, .int .i64 0, .int .i64 0]) (by simp [results, Tryz.results106, go_sem, cc]) rfl ⟨by rw [E.out], ?_⟩
        have hb4 := HBW.out
        (repeat' (first | with_reducible exact Below.refl _ _ | with_reducible assumption | with_reducible (refine Below.setCell ?_ ?_ _) | with_reducible (refine Below.alloc ?_ ?_ _) | with_reducible (refine below_drew ?_) | with_reducible (refine below_drewN ?_ _) | with_reducible (refine Below.trans ?_ (Below.mono (by assumption) ?_)) | omega | (simp; done) | (simp; omega)))
      | cons t tl =>
        obtain ⟨b, off, cap, rfl, hc, hm, hlt, hx⟩ := hs3.pos (by simp)
        obtain ⟨t0, t1, t2⟩ := tk_head (Sl.cells_later hbel hlt hx)
        have d1 : decide ((0 : Int) < (tl.length : Int) + 1) = true := by (rw [decide_eq_true_iff]; omega)
        have hbg : ¬ b = w1.heap.size := by omega
        clear hb1 hres hres4 hB3 hbel hs3 hblk hx
        go_wp2_with fail
        go_region
        go_wp2
        refine bodyPost_ret (v := .tuple #[sv noS, .int .i64 t.col, .int .i64 2]) (by simp [results, Tryz.results106, go_sem, ca, noS, noR]) rfl ⟨by rw [E.out]; rfl, ?_⟩
        have hb4 := HBW.out
        (repeat' (first | with_reducible exact Below.refl _ _ | with_reducible assumption | with_reducible (refine Below.setCell ?_ ?_ _) | with_reducible (refine Below.alloc ?_ ?_ _) | with_reducible (refine below_drew ?_) | with_reducible (refine below_drewN ?_ _) | with_reducible (refine Below.trans ?_ (Below.mono (by assumption) ?_)) | omega | (simp; done) | (simp; omega)))
    · have d : (y3 != 0) = true := by simp [hy3]
      have d' : (y3 == 0) = false := by simp [hy3]
      replace hy3 := Lib.hid hy3
      clear hb1 hres hres4 hB3 hbel hs3 hblk
      go_wp2_with fail
      go_region
      go_wp2
      refine bodyPost_ret (v := .tuple #[sv noS, .int .i64 p3, .int .i64 y3]) (by simp [results, Tryz.results106, go_sem, ca, noS, noR]) rfl ⟨by rw [E.out, fin_bad hy3.out], ?_⟩
      have hb4 := HBW.out
      (repeat' (first | with_reducible exact Below.refl _ _ | with_reducible assumption | with_reducible (refine Below.setCell ?_ ?_ _) | with_reducible (refine Below.alloc ?_ ?_ _) | with_reducible (refine below_drew ?_) | with_reducible (refine below_drewN ?_ _) | with_reducible (refine Below.trans ?_ (Below.mono (by assumption) ?_)) | omega | (simp; done) | (simp; omega)))
  · replace E := Lib.hid (E.out.trans (parseT_bad hy))
    have d : (y != 0) = true := by simp [hy]
    clear hy
    obtain ⟨ca, fa, za⟩ := id hres
    go_wp2
    refine bodyPost_ret (v := .tuple #[sv noS, .int .i64 i, .int .i64 y]) (by simp [results, Tryz.results106, go_sem, ca, noS, noR]) rfl ⟨by rw [E.out], ?_⟩
    have hb4 := (((Below.refl _ _).alloc (Nat.le_refl _) _).trans (hb1.mono (by simp)) : Below w.heap.size w w1)
    (repeat' (first | with_reducible exact Below.refl _ _ | with_reducible assumption | with_reducible (refine Below.setCell ?_ ?_ _) | with_reducible (refine Below.alloc ?_ ?_ _) | with_reducible (refine below_drew ?_) | with_reducible (refine below_drewN ?_ _) | with_reducible (refine Below.trans ?_ (Below.mono (by assumption) ?_)) | omega | (simp; done) | (simp; omega)))
end Go.Proofs.YtomhekohcadijaaGreatDoor
namespace Go.Proofs.YtomhekohcadijaaGreatDoor
open Go.RowKit Go.Shelf

end Go.Proofs.YtomhekohcadijaaGreatDoor
namespace Go.Proofs.YtomhekohcadijaaGreatDoor
open Go.RowKit Go.Shelf

def fitsS : List Tok → List Int → Nat
  | t :: l, k :: s => if t.kind = k then fitsS l s + 1 else 0
  | _, _ => 0
def sh1 : List Int := [1, 3, 2, 4, 1]
def sh2 : List Int := [1, 3, 2, 4, 1, 3, 2]
def sh3 : List Int := [1, 3, 2, 4, 1, 3, 2, 3, 2]
def sh4 : List Int := [1, 3, 2, 4, 1, 3, 2, 5, 1, 3, 2]
theorem fits_end (l : List Tok) : fitsS l [] = 0 := by cases l <;> rfl
theorem fits_none (s : List Int) : fitsS [] s = 0 := by cases s <;> rfl
theorem fits_cons (t : Tok) (l : List Tok) (k : Int) (s : List Int) : fitsS (t :: l) (k :: s) = if t.kind = k then fitsS l s + 1 else 0 := rfl
end Go.Proofs.YtomhekohcadijaaGreatDoor
namespace Go.Proofs.YtomhekohcadijaaGreatDoor

def tx (l : List Tok) (i : Nat) : ByteArray := ⟨(l.getD i ⟨0, [], 0⟩).text.toArray⟩
def best (l : List Tok) : Nat := max (max (max (fitsS l sh1) (fitsS l sh2)) (fitsS l sh3)) (fitsS l sh4)
def refEnd (l : List Tok) (e : Int) : St × Int × Int := if best l = l.length then (noS, e, 3) else (noS, (l.getD (best l) ⟨0, [], 0⟩).col, 2)
def refS (l : List Tok) (e : Int) : St × Int × Int :=
  if fitsS l sh1 = l.length ∧ fitsS l sh1 = 5 then (⟨1, ⟨tx l 0, tx l 2⟩, tx l 4, noR, noR, emp⟩, 0, 0)
  else if fitsS l sh2 = l.length ∧ fitsS l sh2 = 7 then (⟨2, ⟨tx l 0, tx l 2⟩, emp, ⟨tx l 4, tx l 6⟩, noR, emp⟩, 0, 0)
  else if fitsS l sh3 = l.length ∧ fitsS l sh3 = 9 then (⟨3, ⟨tx l 0, tx l 2⟩, emp, ⟨tx l 4, tx l 6⟩, noR, tx l 8⟩, 0, 0)
  else if fitsS l sh4 = l.length ∧ fitsS l sh4 = 11 then (normalS ⟨4, ⟨tx l 0, tx l 2⟩, emp, ⟨tx l 4, tx l 6⟩, ⟨tx l 8, tx l 10⟩, emp⟩, 0, 0)
  else refEnd l e
def readS (l : List Tok) (e : Int) : St × Int × Int := (Rd.mk l e 0 0).stmt.2.fin (Rd.mk l e 0 0).stmt.1
theorem why_take (l : List Tok) (e p y k : Int) (h : y ≠ 0) : (Rd.mk l e p y).take k = (emp, ⟨l, e, p, y⟩) := take_why _ _ h
theorem why_is (l : List Tok) (e p y k : Int) (h : y ≠ 0) : (Rd.mk l e p y).is k = false := is_why _ _ h
theorem fin_why (l : List Tok) (e p y : Int) (s : St) (h : y ≠ 0) : (Rd.mk l e p y).fin s = (noS, p, y) := fin_bad h
theorem fin_nil (e p : Int) (s : St) : (Rd.mk [] e p 0).fin s = (normalS s, 0, 0) := rfl
theorem fin_cons (t : Tok) (l : List Tok) (e p : Int) (s : St) : (Rd.mk (t :: l) e p 0).fin s = (noS, t.col, 2) := rfl
theorem stmt_def (r : Rd) : r.stmt = (r.role.2.take 4).2.body ⟨0, r.role.1, emp, noR, noR, emp⟩ := rfl
theorem role_def (r : Rd) : r.role = (⟨(r.take 1).1, (((r.take 1).2.take 3).2.take 2).1⟩, (((r.take 1).2.take 3).2.take 2).2) := rfl
theorem normal1 (h : Rl) (w : ByteArray) (a b : Rl) (v : ByteArray) : normalS ⟨1, h, w, a, b, v⟩ = ⟨1, h, w, a, b, v⟩ := normal_no _ _ _ _ _ _ (by decide)
theorem normal2 (h : Rl) (w : ByteArray) (a b : Rl) (v : ByteArray) : normalS ⟨2, h, w, a, b, v⟩ = ⟨2, h, w, a, b, v⟩ := normal_no _ _ _ _ _ _ (by decide)
theorem normal3 (h : Rl) (w : ByteArray) (a b : Rl) (v : ByteArray) : normalS ⟨3, h, w, a, b, v⟩ = ⟨3, h, w, a, b, v⟩ := normal_no _ _ _ _ _ _ (by decide)
set_option maxHeartbeats 8000000 in
set_option maxRecDepth 100000 in
theorem law_parse (l : List Tok) (e : Int) : readS l e = refS l e := by
  unfold readS
  rcases l with _ | ⟨t0, l⟩
  rotate_left
  by_cases h0 : t0.kind = 1
  rcases l with _ | ⟨t1, l⟩
  rotate_left
  by_cases h1 : t1.kind = 3
  rcases l with _ | ⟨t2, l⟩
  rotate_left
  by_cases h2 : t2.kind = 2
  rcases l with _ | ⟨t3, l⟩
  rotate_left
  by_cases h3 : t3.kind = 4
  rcases l with _ | ⟨t4, l⟩
  rotate_left
  by_cases h4 : t4.kind = 1
  rcases l with _ | ⟨t5, l⟩
  rotate_left
  by_cases h5 : t5.kind = 3
  rcases l with _ | ⟨t6, l⟩
  rotate_left
  by_cases h6 : t6.kind = 2
  rcases l with _ | ⟨t7, l⟩
  rotate_left
  by_cases h7 : t7.kind = 3
  rcases l with _ | ⟨t8, l⟩
  rotate_left
  by_cases h8 : t8.kind = 2
  rcases l with _ | ⟨t9, l⟩
  rotate_left 3
  by_cases h7' : t7.kind = 5
  rcases l with _ | ⟨t8, l⟩
  rotate_left
  by_cases h8 : t8.kind = 1
  rcases l with _ | ⟨t9, l⟩
  rotate_left
  by_cases h9 : t9.kind = 3
  rcases l with _ | ⟨t10, l⟩
  rotate_left
  by_cases h10 : t10.kind = 2
  rcases l with _ | ⟨t11, l⟩
  all_goals simp [stmt_def, role_def, take_no, take_yes, take_nil, why_take, why_is, is_nil, is_cons, Rd.body, fin_why, fin_nil, fin_cons, normal1, normal2, normal3, refS, refEnd, best, fits_end, fits_none, fits_cons, sh1, sh2, sh3, sh4, tx, *]
end Go.Proofs.YtomhekohcadijaaGreatDoor
