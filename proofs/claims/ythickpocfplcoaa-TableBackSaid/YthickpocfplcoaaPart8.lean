/- table.Table: New, Prins, Links, Roles, Role. A store into a block of slices leaves all rows of other things as they were. table.Table.RoleAt. Rules compared; the role of a number. Two blocks of a call's own that stand whole. -/
import Derived.Test.YthickpocfplcoaaPart7
import Derived.Test.YthickpocfplcoaaPart6
import Derived.Test.YthickpocfplcoaaPart4
import Derived.Test.YthickpocfplcoaaPart2
import Derived.Test.YthickpocfplcoaaPart3
namespace Go.Proofs.Ythickpocfplcoaa
open Go.RowKit Go.Shelf

/-- A table of principals and names in a world. -/
structure TblAt (w : World) (t ba bb : Nat) (a b : List ByteArray) : Prop where
  c0 : w.cell? ⟨t, 0, none⟩ = some (.pointer (some ⟨ba, 0, none⟩))
  c1 : w.cell? ⟨t, 1, none⟩ = some (.pointer (some ⟨bb, 0, none⟩))
  lt : t < w.heap.size
  ta : TabAt w ba a
  tb : TabAt w bb b
  sa : AscB a
  sb : AscB b
  na : a.length ≤ 1000
  nb : b.length ≤ 1000
theorem TblAt.below {w w' : World} {t ba bb : Nat} {a b : List ByteArray} (h : TblAt w t ba bb a b) (hb : Below w.heap.size w w') : TblAt w' t ba bb a b :=
  ⟨(hb.cell (p := ⟨t, 0, none⟩) h.lt).trans h.c0, (hb.cell (p := ⟨t, 1, none⟩) h.lt).trans h.c1, Nat.lt_of_lt_of_le h.lt hb.size, h.ta.below hb, h.tb.below hb, h.sa, h.sb, h.na, h.nb⟩
set_option maxRecDepth 100000 in
set_option maxHeartbeats 1000000 in
theorem table_New (va vb : Value) (l m : List ByteArray) (w : World) (ha : SlA w 1 va l.length (strs l)) (hb : SlA w 1 vb m.length (strs m)) (hl : l.length ≤ 1000) (hm : m.length ≤ 1000) :
    Calls Try.prog 9 #[va, vb] w fun e w' => ∃ t ba bb, e = .returned (.pointer (some ⟨t, 0, none⟩)) ∧ TblAt w' t ba bb (newB l) (newB m) ∧ Below w.heap.size w w' := by
  have N1 := Lib.hid (names_New va l w ha (by omega))
  have N2 := Lib.hid (fun W (h : Below w.heap.size w W) => names_New vb m W (hb.below h) (by omega))
  obtain ⟨a0, c0, rfl⟩ := ha.form
  obtain ⟨a1, c1, rfl⟩ := hb.form
  clear ha hb
  go_enter Try.func9, Try.ntmps9
  go_wp2_with fail
  refine N1.out.mono ?_
  rintro e w1 ⟨b1, rfl, ht1, _, hb1⟩
  have HT1 := Lib.hid ht1
  have HB1 := Lib.hid hb1
  clear ht1 hb1
  go_wp2_with fail
  refine (N2.out _ HB1.out).mono ?_
  rintro e w2 ⟨b2, rfl, ht2, _, hb2⟩
  have HT2 := Lib.hid ht2
  have HT1 := Lib.hid (HT1.out.below hb2)
  have HB2 := Lib.hid (HB1.out.trans (hb2.mono HB1.out.size))
  clear ht2 hb2
  go_wp2
  go_ret
  have ha : Below w2.heap.size w2 (w2.alloc (.cells #[.pointer (some ⟨b1, 0, none⟩), .pointer (some ⟨b2, 0, none⟩)] 67)) := (Below.refl _ _).alloc (Nat.le_refl _) _
  exact ⟨w2.heap.size, b1, b2, rfl, ⟨(Blk.new w2 _ _).1 0, (Blk.new w2 _ _).1 1, by simp, HT1.out.below ha, HT2.out.below ha, new_asc l, new_asc m, Nat.le_trans (new_len l) hl, Nat.le_trans (new_len m) hm⟩, HB2.out.alloc HB2.out.size _⟩
section
variable {t ba bb : Nat} {a b : List ByteArray} {w : World}
theorem table_Prins (h : TblAt w t ba bb a b) : Calls Try.prog 16 #[.pointer (some ⟨t, 0, none⟩)] w fun e w' => e = .returned (.pointer (some ⟨ba, 0, none⟩)) ∧ w' = w := by
  have h0 := h.c0
  have h1 := h.lt
  clear h
  go_enter Try.func16, Try.ntmps16
  go_wp2
  go_ret
  exact ⟨rfl, rfl⟩
theorem table_Links (h : TblAt w t ba bb a b) : Calls Try.prog 18 #[.pointer (some ⟨t, 0, none⟩)] w fun e w' => e = .returned (.pointer (some ⟨bb, 0, none⟩)) ∧ w' = w := by
  have h0 := h.c1
  have h1 := h.lt
  clear h
  go_enter Try.func18, Try.ntmps18
  go_wp2
  go_ret
  exact ⟨rfl, rfl⟩
theorem table_Roles (h : TblAt w t ba bb a b) : Calls Try.prog 15 #[.pointer (some ⟨t, 0, none⟩)] w fun e w' => e = .returned (.int .i64 (a.length * b.length : Nat)) ∧ w' = w := by
  have P := Lib.hid (table_Prins h)
  have L := Lib.hid (table_Links h)
  have LA := Lib.hid (tab_Len ba a w h.ta)
  have LB := Lib.hid (tab_Len bb b w h.tb)
  have hm : a.length * b.length ≤ 1000 * 1000 := Nat.mul_le_mul h.na h.nb
  have e : IntKind.i64.wrap ((a.length : Int) * b.length) = ((a.length * b.length : Nat) : Int) := by rw [Int.natCast_mul]; exact Go.IntWalk.i64_in _ (by rw [← Int.natCast_mul]; omega)
  clear h
  go_enter Try.func15, Try.ntmps15
  go_wp2_with fail
  refine P.out.mono ?_
  rintro e w1 ⟨rfl, rfl⟩
  go_wp2_with fail
  refine LA.out.mono ?_
  rintro e w1 ⟨rfl, rfl⟩
  go_wp2_with fail
  refine L.out.mono ?_
  rintro e w1 ⟨rfl, rfl⟩
  go_wp2_with fail
  refine LB.out.mono ?_
  rintro e w1 ⟨rfl, rfl⟩
  go_wp2
  go_ret
  exact ⟨by simp, rfl⟩
end
set_option maxRecDepth 100000 in
set_option maxHeartbeats 4000000 in
theorem table_Role {t ba bb : Nat} {a b : List ByteArray} {w : World} (h : TblAt w t ba bb a b) (r : Rl) :
    Calls Try.prog 13 #[.pointer (some ⟨t, 0, none⟩), rv r] w fun e w' => e = .returned (.int .i64 (roleN a b r)) ∧ Below w.heap.size w w' := by
  have HT := Lib.hid h
  have P := Lib.hid (fun W (hb : Below w.heap.size w W) => table_Prins (h.below hb))
  have L := Lib.hid (fun W (hb : Below w.heap.size w W) => table_Links (h.below hb))
  have LB := Lib.hid (fun W (hb : Below w.heap.size w W) => tab_Len bb b W (h.tb.below hb))
  obtain ⟨r1, r2⟩ := r
  have F1 := Lib.hid (fun W (hb : Below w.heap.size w W) => tab_Find ba a r1 W (h.ta.below hb) h.sa (by have := h.na; omega))
  have F2 := Lib.hid (fun W (hb : Below w.heap.size w W) => tab_Find bb b r2 W (h.tb.below hb) h.sb (by have := h.nb; omega))
  have p1 := place_range a r1
  have p2 := place_range b r2
  have R := Lib.hid (show roleN a b ⟨r1, r2⟩ = if placeB a r1 < 0 ∨ placeB b r2 < 0 then -1 else placeB a r1 * b.length + placeB b r2 from rfl)
  have na := h.na
  have nb := h.nb
  generalize roleN a b ⟨r1, r2⟩ = res at R ⊢
  generalize placeB a r1 = x at F1 p1 R
  generalize placeB b r2 = y at F2 p2 R
  have T0 := Lib.hid (show OneAt w #[.string r1, .string r2] (w.alloc (.cells #[.string r1, .string r2] 24)) from ⟨Blk.new w _ _, (Below.refl _ _).alloc (Nat.le_refl _) _⟩)
  clear h
  go_enter Try.func13, Try.ntmps13
  go_wp2_with fail
  refine (P.out _ T0.out.low).mono ?_
  rintro e w1 ⟨rfl, rfl⟩
  go_wp2_with fail
  refine (L.out _ T0.out.low).mono ?_
  rintro e w1 ⟨rfl, rfl⟩
  go_wp2_with fail
  refine wp_region_held_drew (S := (fun W => ∀ o, W.cell? ⟨w.heap.size, o, none⟩ = (#[.string r1, .string r2] : Array Value)[o]?)) (by kernel_rfl) T0.out.drew.a.1 (fun hHeld => ?_)
  have HT := T0.out.drew
  (refine held_yes (v := ?_) 0 rfl (by kernel_rfl) (by kernel_rfl) (by kernel_rfl) (fun _ _ _ h => h) (by rfl) (by assumption) ?_ ?_; rotate_left; (focus ((intro w hSw); (try dsimp only at hSw); go_simp; (try with_reducible rfl))); (try simp only [Act.put, List.setIfInBounds_toArray, List.set_cons_zero, List.set_cons_succ])); (refine held_yes (v := ?_) 1 rfl (by kernel_rfl) (by kernel_rfl) (by kernel_rfl) (fun _ _ _ h => h) (by rfl) (by assumption) ?_ ?_; rotate_left; (focus ((intro w hSw); (try dsimp only at hSw); go_simp; (try with_reducible rfl))); (try simp only [Act.put, List.setIfInBounds_toArray, List.set_cons_zero, List.set_cons_succ])); (refine held_yes (v := ?_) 2 rfl (by kernel_rfl) (by kernel_rfl) (by kernel_rfl) (fun _ _ _ h => h) (by rfl) (by assumption) ?_ ?_; rotate_left; (focus ((intro w hSw); (try dsimp only at hSw); go_simp; (try with_reducible rfl))); (try simp only [Act.put, List.setIfInBounds_toArray, List.set_cons_zero, List.set_cons_succ])); (refine held_yes (v := ?_) 4 rfl (by kernel_rfl) (by kernel_rfl) (by kernel_rfl) (fun _ _ _ h => h) (by rfl) (by assumption) ?_ ?_; rotate_left; (focus ((intro w hSw); (try dsimp only at hSw); go_simp; (try with_reducible rfl))); (try simp only [Act.put, List.setIfInBounds_toArray, List.set_cons_zero, List.set_cons_succ])); (refine held_yes (v := ?_) 5 rfl (by kernel_rfl) (by kernel_rfl) (by kernel_rfl) (fun _ _ _ h => h) (by rfl) (by assumption) ?_ ?_; rotate_left; (focus ((intro w hSw); (try dsimp only at hSw); go_simp; (try with_reducible rfl))); (try simp only [Act.put, List.setIfInBounds_toArray, List.set_cons_zero, List.set_cons_succ])); (refine held_yes (v := ?_) 6 rfl (by kernel_rfl) (by kernel_rfl) (by kernel_rfl) (fun _ _ _ h => h) (by rfl) (by assumption) ?_ ?_; rotate_left; (focus ((intro w hSw); (try dsimp only at hSw); go_simp; (try with_reducible rfl))); (try simp only [Act.put, List.setIfInBounds_toArray, List.set_cons_zero, List.set_cons_succ]))
  (refine held_call 3 rfl (by kernel_rfl) (fun K hK => ?_); go_simp)
  go_at_call 36; refine (F1.out _ HT.low).mono ?_; rintro e wq ⟨rfl, rfl⟩
  (refine hK.out _ _ (HT.a.1) (fun hHeld => ?_); clear hK K; (try simp only [Act.put, List.setIfInBounds_toArray, List.set_cons_zero, List.set_cons_succ]))
  (refine held_call 7 rfl (by kernel_rfl) (fun K hK => ?_); go_simp)
  go_at_call 36; refine (F2.out _ HT.low).mono ?_; rintro e wq ⟨rfl, rfl⟩
  (refine hK.out _ _ (HT.a.1) (fun hHeld => ?_); clear hK K; (try simp only [Act.put, List.setIfInBounds_toArray, List.set_cons_zero, List.set_cons_succ]))
  (refine held_yes (v := ?_) 8 rfl (by kernel_rfl) (by kernel_rfl) (by kernel_rfl) (fun _ _ _ h => h) (by rfl) (by assumption) ?_ ?_; rotate_left; (focus ((intro w hSw); (try dsimp only at hSw); go_simp; (try with_reducible rfl))); (try simp only [Act.put, List.setIfInBounds_toArray, List.set_cons_zero, List.set_cons_succ])); (refine held_yes (v := ?_) 9 rfl (by kernel_rfl) (by kernel_rfl) (by kernel_rfl) (fun _ _ _ h => h) (by rfl) (by assumption) ?_ ?_; rotate_left; (focus ((intro w hSw); (try dsimp only at hSw); go_simp; (try with_reducible rfl))); (try simp only [Act.put, List.setIfInBounds_toArray, List.set_cons_zero, List.set_cons_succ]))
  refine wpAnyH_done (by kernel_rfl) ?_ _
  have HT := Lib.hid HT
  by_cases hx : x < 0
  · have d : decide (x < 0) = true := decide_eq_true hx
    have R2 := Lib.hid (R.out.trans (if_pos (.inl hx)))
    clear hx
    go_wp2
    go_ret
    exact ⟨by rw [R2.out]; rfl, HT.out.low⟩
  · have d : decide (x < 0) = false := decide_eq_false hx
    by_cases hy : y < 0
    · have d2 : decide (y < 0) = true := decide_eq_true hy
      have R2 := Lib.hid (R.out.trans (if_pos (.inr hy)))
      clear hx hy
      go_wp2
      go_ret
      exact ⟨by rw [R2.out]; rfl, HT.out.low⟩
    · have d2 : decide (y < 0) = false := decide_eq_false hy
      have R2 := Lib.hid (R.out.trans (if_neg (fun h => h.elim hx hy)))
      obtain ⟨n, rfl⟩ := Int.eq_ofNat_of_zero_le (by omega : 0 ≤ x)
      obtain ⟨m, rfl⟩ := Int.eq_ofNat_of_zero_le (by omega : 0 ≤ y)
      have hmul : n * b.length ≤ 1000 * 1000 := Nat.mul_le_mul (by omega) nb
      have e1 : IntKind.i64.wrap ((n : Int) * b.length) = (n : Int) * b.length := Go.IntWalk.i64_in _ (by rw [← Int.natCast_mul]; omega)
      have e2 : IntKind.i64.wrap ((n : Int) * b.length + m) = (n : Int) * b.length + m := Go.IntWalk.i64_in _ (by rw [← Int.natCast_mul]; omega)
      clear hx hy
      go_wp2_with fail
      refine (L.out _ HT.out.low).mono ?_
      rintro e w2 ⟨rfl, rfl⟩
      go_wp2_with fail
      refine (LB.out _ HT.out.low).mono ?_
      rintro e w2 ⟨rfl, rfl⟩
      go_wp2
      go_ret
      exact ⟨by rw [R2.out]; rfl, HT.out.low⟩
end Go.Proofs.Ythickpocfplcoaa
namespace Go.Proofs.Ythickpocfplcoaa
open Go.RowKit Go.Shelf

def isSl : Value → Bool
  | .slice .. => true
  | _ => false
/-- A block that holds slices alone stands whole. -/
def BlkS (w : World) (g n : Nat) : Prop := ∃ cs : Array Value, Blk w g cs ∧ cs.size = n ∧ ∀ c ∈ cs.toList, isSl c = true
theorem cell_far (w : World) (g g' o o' : Nat) (v : Value) (h : ¬ g = g') : (w.setCell ⟨g, o, none⟩ v).cell? ⟨g', o', none⟩ = w.cell? ⟨g', o', none⟩ :=
  World.cell?_setCell_other w ⟨g, o, none⟩ ⟨g', o', none⟩ v (fun e => h (by injection e))
theorem Blk.far {w : World} {g g' o : Nat} {cs : Array Value} {v : Value} (h : Blk w g' cs) (hne : ¬ g = g') : Blk (w.setCell ⟨g, o, none⟩ v) g' cs :=
  ⟨fun o' => (cell_far w g g' o o' v hne).trans (h.1 o'), fun o' => by simpa using h.2.1 o', by simpa using h.2.2⟩
theorem Blk.put {w : World} {g o : Nat} {cs : Array Value} {v : Value} (h : Blk w g cs) (ho : o < cs.size) : Blk (w.setCell ⟨g, o, none⟩ v) g (cs.setIfInBounds o v) := by
  refine ⟨fun i => ?_, fun i => by simpa using h.2.1 i, by simpa using h.2.2⟩
  by_cases e : i = o
  · subst e
    rw [World.cell?_setCell_same (u := cs[i]) _ _ _ (by rw [h.1 i]; exact Array.getElem?_eq_getElem ho)]
    simp [ho]
  · rw [set_far _ _ _ _ _ e, h.1 i, Array.getElem?_setIfInBounds, if_neg (fun h => e h.symm)]
theorem BlkS.put {w : World} {g n o : Nat} {v : Value} (h : BlkS w g n) (ho : o < n) (hv : isSl v = true) : BlkS (w.setCell ⟨g, o, none⟩ v) g n := by
  obtain ⟨cs, hb, rfl, hc⟩ := h
  refine ⟨_, hb.put ho, by simp, fun c hcm => ?_⟩
  rw [Array.toList_setIfInBounds] at hcm
  rcases List.mem_or_eq_of_mem_set hcm with h | rfl
  · exact hc c h
  · exact hv
/-- A row of what isn't a slice is the same behind a store into a block of slices. -/
theorem Sl.set {w : World} {size n g m o : Nat} {v x : Value} {xs : List Value} (h : Sl w size v n xs) (hg : BlkS w g m) (hx : ∀ u ∈ xs, isSl u = false) : Sl (w.setCell ⟨g, o, none⟩ x) size v n xs := by
  obtain ⟨h1, h2, h3⟩ := h
  refine ⟨h1, h2, ?_⟩
  rcases h3 with h3 | ⟨b, off, cap, hv, hc, hm, hb, hcell⟩
  · exact .inl h3
  · refine .inr ⟨b, off, cap, hv, hc, hm, by simpa using hb, fun j u hu => ?_⟩
    by_cases e : g = b
    · subst e
      obtain ⟨cs, hbk, _, hcs⟩ := hg
      have h4 := hcell j u hu
      rw [hbk.1] at h4
      have h5 := hcs u (Array.mem_toList_iff.2 (Array.mem_of_getElem? h4))
      rw [hx u (List.mem_of_getElem? hu)] at h5; cases h5
    · exact (cell_far _ _ _ _ _ _ e).trans (hcell j u hu)
theorem st_noSl (l : List St) : ∀ u ∈ l.flatMap St.cells, isSl u = false := by
  intro u hu
  obtain ⟨x, _, hx⟩ := List.mem_flatMap.1 hu
  simp only [St.cells, List.mem_cons, List.not_mem_nil, or_false] at hx
  rcases hx with rfl | rfl | rfl | rfl | rfl | rfl | rfl | rfl | rfl <;> rfl
theorem rl_noSl (l : List Rl) : ∀ u ∈ l.flatMap Rl.cells, isSl u = false := by
  intro u hu
  obtain ⟨x, _, hx⟩ := List.mem_flatMap.1 hu
  simp only [Rl.cells, List.mem_cons, List.not_mem_nil, or_false] at hx
  rcases hx with rfl | rfl <;> rfl
theorem below_put {n g o : Nat} {w w' : World} {v : Value} (h : Below n w w') (hg : n ≤ g) : Below n w (w'.setCell ⟨g, o, none⟩ v) :=
  ⟨h.os, h.tape, h.output, by simpa [World.setCell] using h.size, fun k hk => (Below.heap_setCell _ _ _ _ (by dsimp only; omega)).trans (h.block k hk)⟩
/-- A row of values stored into a block, one behind the other. -/
def puts (w : World) (g : Nat) : Nat → List Value → World
  | _, [] => w
  | o, v :: vs => puts (w.setCell ⟨g, o, none⟩ v) g (o + 1) vs
theorem BlkS.puts {g n : Nat} : ∀ (vs : List Value) (o : Nat) (w : World), BlkS w g n → o + vs.length ≤ n → (∀ v ∈ vs, isSl v = true) → BlkS (puts w g o vs) g n
  | [], _, _, h, _, _ => h
  | v :: vs, o, w, h, ho, hv => by
    rw [List.length_cons] at ho
    exact BlkS.puts vs (o + 1) _ (h.put (by omega) (hv v (by simp))) (by omega) (fun x hx => hv x (by simp [hx]))
theorem Sl.puts {size n g m : Nat} {v : Value} {xs : List Value} (hx : ∀ u ∈ xs, isSl u = false) : ∀ (vs : List Value) (o : Nat) (w : World), Sl w size v n xs → BlkS w g m → o + vs.length ≤ m → (∀ v ∈ vs, isSl v = true) → Sl (puts w g o vs) size v n xs
  | [], _, _, h, _, _, _ => h
  | y :: vs, o, w, h, hg, ho, hv => by
    rw [List.length_cons] at ho
    exact Sl.puts hx vs (o + 1) _ (h.set hg hx) (hg.put (by omega) (hv y (by simp))) (by omega) (fun x hx => hv x (by simp [hx]))
theorem below_puts {n g : Nat} {w0 : World} (hg : n ≤ g) : ∀ (vs : List Value) (o : Nat) (w : World), Below n w0 w → Below n w0 (puts w g o vs)
  | [], _, _, h => h
  | v :: vs, o, w, h => below_puts hg vs (o + 1) _ (below_put h hg)
theorem Blk.puts_far {g g' : Nat} {cs : Array Value} (hne : ¬ g = g') : ∀ (vs : List Value) (o : Nat) (w : World), Blk w g' cs → Blk (puts w g o vs) g' cs
  | [], _, _, h => h
  | v :: vs, o, w, h => Blk.puts_far hne vs (o + 1) _ (h.far hne)
end Go.Proofs.Ythickpocfplcoaa
namespace Go.Proofs.Ythickpocfplcoaa
open Go.RowKit Go.Shelf

theorem roleAt_no {a b : List ByteArray} {i : Int} (h : ¬ (0 ≤ i ∧ i.toNat < a.length * b.length)) : roleAt a b i = noR := by unfold roleAt; rw [dif_neg h]
theorem atB_get {l : List ByteArray} {k : Nat} (h : k < l.length) : atB l (k : Int) = l[k] := by unfold atB; rw [dif_pos (by simp; omega)]; rfl
theorem roleAt_yes {a b : List ByteArray} {k : Nat} (h : k < a.length * b.length) : roleAt a b (k : Int) = ⟨atB a ((k / b.length : Nat) : Int), atB b ((k % b.length : Nat) : Int)⟩ := by
  have h1 : k / b.length < a.length := Nat.div_lt_of_lt_mul (by rw [Nat.mul_comm]; exact h)
  have h2 : k % b.length < b.length := Nat.mod_lt _ (Nat.pos_of_ne_zero (fun e => by rw [e] at h; omega))
  rw [atB_get h1, atB_get h2]
  unfold roleAt
  rw [dif_pos ⟨by omega, by simpa using h⟩]
  rfl
set_option maxRecDepth 100000 in
set_option maxHeartbeats 4000000 in
theorem table_RoleAt {t ba bb : Nat} {a b : List ByteArray} {w : World} (h : TblAt w t ba bb a b) (i : Int) (hi : -9223372036854775808 ≤ i ∧ i ≤ 9223372036854775807) :
    Calls Try.prog 19 #[.pointer (some ⟨t, 0, none⟩), .int .i64 i] w fun e w' => e = .returned (rv (roleAt a b i)) ∧ Below w.heap.size w w' := by
  have HT := Lib.hid h
  have P := Lib.hid (fun W (hb : Below w.heap.size w W) => table_Prins (h.below hb))
  have L := Lib.hid (fun W (hb : Below w.heap.size w W) => table_Links (h.below hb))
  have RS := Lib.hid (fun W (hb : Below w.heap.size w W) => table_Roles (h.below hb))
  have LB := Lib.hid (fun W (hb : Below w.heap.size w W) => tab_Len bb b W (h.tb.below hb))
  have A1 := Lib.hid (fun k W (hb : Below w.heap.size w W) hk => tab_At ba a k W (h.ta.below hb) hk)
  have A2 := Lib.hid (fun k W (hb : Below w.heap.size w W) hk => tab_At bb b k W (h.tb.below hb) hk)
  have T0 := Lib.hid (show OneAt w #[.string ByteArray.empty, .string ByteArray.empty] (w.alloc (.cells #[.string ByteArray.empty, .string ByteArray.empty] 24)) from ⟨Blk.new w _ _, (Below.refl _ _).alloc (Nat.le_refl _) _⟩)
  by_cases hneg : i < 0
  · have R := Lib.hid (roleAt_no (a := a) (b := b) (i := i) (by omega))
    have d : decide (i < 0) = true := decide_eq_true hneg
    clear h hneg
    go_enter Try.func19, Try.ntmps19
    go_wp2
    refine bodyPost_ret (v := rv noR) (by simp [results, Try.results19, go_sem, noR, emp]) rfl ⟨by rw [R.out], ?_⟩
    exact (Below.refl _ _).alloc (Nat.le_refl _) _
  · obtain ⟨k, rfl⟩ := Int.eq_ofNat_of_zero_le (by omega : 0 ≤ i)
    have d : decide ((k : Int) < 0) = false := by rw [decide_eq_false_iff_not]; omega
    by_cases hk : k < a.length * b.length
    · have R := Lib.hid (roleAt_yes hk)
      have hb0 : 0 < b.length := Nat.pos_of_ne_zero (fun e => by rw [e] at hk; omega)
      have nb := h.nb
      have hq1 : k / b.length ≤ k := Nat.div_le_self _ _
      have hq2 : k % b.length ≤ k := Nat.mod_le _ _
      have hq1i : ((k / b.length : Nat) : Int) ≤ 9223372036854775807 := by omega
      have hq2i : ((k % b.length : Nat) : Int) ≤ 9223372036854775807 := by omega
      have hk9 : k ≤ 9223372036854775807 := by omega
      generalize hp : a.length * b.length = p at RS hk
      have d2 : decide ((p : Int) ≤ (k : Int)) = false := by rw [decide_eq_false_iff_not]; omega
      generalize hn : b.length = n at *
      have n0 : ¬ n = 0 := by omega
      have hx : (k : Int) / n = ((k / n : Nat) : Int) := (Int.natCast_ediv k n).symm
      have hy : (k : Int).tmod n = ((k % n : Nat) : Int) := by rw [Int.tmod_eq_emod_of_nonneg (by omega)]; rfl
      generalize k / n = x at *
      generalize k % n = y at *
      have e1 : IntKind.i64.wrap (x : Int) = x := Go.IntWalk.i64_in _ (by omega)
      have e2 : IntKind.i64.wrap (y : Int) = y := Go.IntWalk.i64_in _ (by omega)
      clear h hneg hp hn
      go_enter Try.func19, Try.ntmps19
      go_wp2_with fail
      refine (RS.out _ T0.out.low).mono ?_
      rintro e w1 ⟨rfl, rfl⟩
      go_wp2_with fail
      refine (L.out _ T0.out.low).mono ?_
      rintro e w1 ⟨rfl, rfl⟩
      go_wp2_with fail
      refine (LB.out _ T0.out.low).mono ?_
      rintro e w1 ⟨rfl, rfl⟩
      go_wp2_with fail
      refine wp_region_held_drew (S := (fun _ => True)) (by kernel_rfl) trivial (fun hHeld => ?_)
      have HT0 := T0.out.drew
      (refine held_yes (v := ?_) 0 rfl (by kernel_rfl) (by kernel_rfl) (by kernel_rfl) (fun _ _ _ h => h) (by rfl) (by assumption) ?_ ?_; rotate_left; (focus ((intro w hSw); (try dsimp only at hSw); go_simp; (try with_reducible rfl))); (try simp only [Act.put, List.setIfInBounds_toArray, List.set_cons_zero, List.set_cons_succ])); (refine held_yes (v := ?_) 2 rfl (by kernel_rfl) (by kernel_rfl) (by kernel_rfl) (fun _ _ _ h => h) (by rfl) (by assumption) ?_ ?_; rotate_left; (focus ((intro w hSw); (try dsimp only at hSw); go_simp; (try with_reducible rfl))); (try simp only [Act.put, List.setIfInBounds_toArray, List.set_cons_zero, List.set_cons_succ])); (refine held_yes (v := ?_) 3 rfl (by kernel_rfl) (by kernel_rfl) (by kernel_rfl) (fun _ _ _ h => h) (by rfl) (by assumption) ?_ ?_; rotate_left; (focus ((intro w hSw); (try dsimp only at hSw); go_simp; (try with_reducible rfl))); (try simp only [Act.put, List.setIfInBounds_toArray, List.set_cons_zero, List.set_cons_succ])); (refine held_yes (v := ?_) 4 rfl (by kernel_rfl) (by kernel_rfl) (by kernel_rfl) (fun _ _ _ h => h) (by rfl) (by assumption) ?_ ?_; rotate_left; (focus ((intro w hSw); (try dsimp only at hSw); go_simp; (try with_reducible rfl))); (try simp only [Act.put, List.setIfInBounds_toArray, List.set_cons_zero, List.set_cons_succ])); (refine held_yes (v := ?_) 6 rfl (by kernel_rfl) (by kernel_rfl) (by kernel_rfl) (fun _ _ _ h => h) (by rfl) (by assumption) ?_ ?_; rotate_left; (focus ((intro w hSw); (try dsimp only at hSw); go_simp; (try with_reducible rfl))); (try simp only [Act.put, List.setIfInBounds_toArray, List.set_cons_zero, List.set_cons_succ])); (refine held_yes (v := ?_) 8 rfl (by kernel_rfl) (by kernel_rfl) (by kernel_rfl) (fun _ _ _ h => h) (by rfl) (by assumption) ?_ ?_; rotate_left; (focus ((intro w hSw); (try dsimp only at hSw); go_simp; (try with_reducible rfl))); (try simp only [Act.put, List.setIfInBounds_toArray, List.set_cons_zero, List.set_cons_succ])); (refine held_yes (v := ?_) 9 rfl (by kernel_rfl) (by kernel_rfl) (by kernel_rfl) (fun _ _ _ h => h) (by rfl) (by assumption) ?_ ?_; rotate_left; (focus ((intro w hSw); (try dsimp only at hSw); go_simp; (try with_reducible rfl))); (try simp only [Act.put, List.setIfInBounds_toArray, List.set_cons_zero, List.set_cons_succ])); (refine held_yes (v := ?_) 10 rfl (by kernel_rfl) (by kernel_rfl) (by kernel_rfl) (fun _ _ _ h => h) (by rfl) (by assumption) ?_ ?_; rotate_left; (focus ((intro w hSw); (try dsimp only at hSw); go_simp; (try with_reducible rfl))); (try simp only [Act.put, List.setIfInBounds_toArray, List.set_cons_zero, List.set_cons_succ]))
      (refine held_call 1 rfl (by kernel_rfl) (fun K hK => ?_); go_simp)
      go_at_call 16; refine (P.out _ HT0.low).mono ?_; rintro e wq ⟨rfl, rfl⟩
      (refine hK.out _ _ (trivial) (fun hHeld => ?_); clear hK K; (try simp only [Act.put, List.setIfInBounds_toArray, List.set_cons_zero, List.set_cons_succ]))
      (refine held_call 5 rfl (by kernel_rfl) (fun K hK => ?_); go_simp)
      go_at_call 38; refine (A1.out _ _ HT0.low (by omega)).mono ?_; rintro e wq ⟨rfl, rfl⟩
      (refine hK.out _ _ (trivial) (fun hHeld => ?_); clear hK K; (try simp only [Act.put, List.setIfInBounds_toArray, List.set_cons_zero, List.set_cons_succ]))
      (refine held_call 7 rfl (by kernel_rfl) (fun K hK => ?_); go_simp)
      go_at_call 18; refine (L.out _ HT0.low).mono ?_; rintro e wq ⟨rfl, rfl⟩
      (refine hK.out _ _ (trivial) (fun hHeld => ?_); clear hK K; (try simp only [Act.put, List.setIfInBounds_toArray, List.set_cons_zero, List.set_cons_succ]))
      (refine held_call 11 rfl (by kernel_rfl) (fun K hK => ?_); go_simp)
      go_at_call 38; refine (A2.out _ _ HT0.low (by omega)).mono ?_; rintro e wq ⟨rfl, rfl⟩
      (refine hK.out _ _ (trivial) (fun hHeld => ?_); clear hK K; (try simp only [Act.put, List.setIfInBounds_toArray, List.set_cons_zero, List.set_cons_succ]))
      (refine held_yes (v := ?_) 12 rfl (by kernel_rfl) (by kernel_rfl) (by kernel_rfl) (fun _ _ _ h => h) (by rfl) (by assumption) ?_ ?_; rotate_left; (focus ((intro w hSw); (try dsimp only at hSw); go_simp; (try with_reducible rfl))); (try simp only [Act.put, List.setIfInBounds_toArray, List.set_cons_zero, List.set_cons_succ]))
      obtain ⟨cs, fs, zs⟩ := HT0.a
      (refine held_call 13 rfl (by kernel_rfl) (fun K hK => ?_); go_simp)
      (refine hK.out _ _ (trivial) (fun hHeld => ?_); clear hK K; (try simp only [Act.put, List.setIfInBounds_toArray, List.set_cons_zero, List.set_cons_succ]))
      refine wpAnyH_done (by kernel_rfl) ?_ _
      have HB := Lib.hid (below_drew ((Below.refl w.heap.size w).alloc (Nat.le_refl _) (.cells #[.string (atB a x), .string (atB b y)] 24)))
      go_wp2
      refine bodyPost_ret (v := rv ⟨atB a x, atB b y⟩) (by simp [results, Try.results19, go_sem]) rfl ⟨by rw [R.out], HB.out⟩
    · have R := Lib.hid (roleAt_no (a := a) (b := b) (i := (k : Int)) (by omega))
      generalize hp : a.length * b.length = p at RS hk
      have d2 : decide ((p : Int) ≤ (k : Int)) = true := by rw [decide_eq_true_iff]; omega
      clear h hneg hp
      go_enter Try.func19, Try.ntmps19
      go_wp2_with fail
      refine (RS.out _ T0.out.low).mono ?_
      rintro e w1 ⟨rfl, rfl⟩
      go_wp2
      refine bodyPost_ret (v := rv noR) (by simp [results, Try.results19, go_sem, noR, emp]) rfl ⟨by rw [R.out], ?_⟩
      exact (Below.refl _ _).alloc (Nat.le_refl _) _
end Go.Proofs.Ythickpocfplcoaa
namespace Go.Proofs.Ythickpocfplcoaa
open Go.RowKit Go.Shelf

def eqRu (x y : Ru) : Bool := decide (x = y)
set_option maxRecDepth 100000 in
set_option maxHeartbeats 4000000 in
theorem rule_equalIn (d : Nat) (k h u a b v k' h' u' a' b' v' : Int) (w : World) : (Op.equalIn (d + 2) 34 (.agg #[.int .i64 k, .int .i64 h, .int .i64 u, .int .i64 a, .int .i64 b, .int .i64 v]) (.agg #[.int .i64 k', .int .i64 h', .int .i64 u', .int .i64 a', .int .i64 b', .int .i64 v'])).run Try.prog w = .ok (eqRu ⟨k, h, u, a, b, v⟩ ⟨k', h', u', a', b', v'⟩) w := by
  have hS : Try.prog.underlying 34 = some (.struct (Try.prog.fieldsOf 34)) := by kernel_rfl
  have hp : Try.prog.stoodInHeld 34 = false := by kernel_rfl
  rw [run_equalIn_agg w (d + 1) 34 _ _ hS hp]
  simp only [Program.fieldsOf, Try.underlying34]
  go_simp
  simp only [eqRu, Ru.mk.injEq]
  by_cases e1 : k = k' <;> by_cases e2 : h = h' <;> by_cases e3 : u = u' <;> by_cases e4 : a = a' <;> by_cases e5 : b = b' <;> by_cases e6 : v = v' <;> simp [e1, e2, e3, e4, e5, e6]
theorem rule_eql (k h u a b v k' h' u' a' b' v' : Int) (w : World) : (binOp .eql 34 (.agg #[.int .i64 k, .int .i64 h, .int .i64 u, .int .i64 a, .int .i64 b, .int .i64 v]) (.agg #[.int .i64 k', .int .i64 h', .int .i64 u', .int .i64 a', .int .i64 b', .int .i64 v'])).run Try.prog w = .ok (.bool (eqRu ⟨k, h, u, a, b, v⟩ ⟨k', h', u', a', b', v'⟩)) w := by
  rw [run_eql_struct, show (10000 : Nat) = 9998 + 2 from rfl, rule_equalIn 9998]
  rfl
theorem rule_neq (k h u a b v k' h' u' a' b' v' : Int) (w : World) : (binOp .neq 34 (.agg #[.int .i64 k, .int .i64 h, .int .i64 u, .int .i64 a, .int .i64 b, .int .i64 v]) (.agg #[.int .i64 k', .int .i64 h', .int .i64 u', .int .i64 a', .int .i64 b', .int .i64 v'])).run Try.prog w = .ok (.bool (!eqRu ⟨k, h, u, a, b, v⟩ ⟨k', h', u', a', b', v'⟩)) w := by
  rw [run_neq_struct, show (10000 : Nat) = 9998 + 2 from rfl, rule_equalIn 9998]
  rfl
theorem eqRu_self (r : Ru) : eqRu r r = true := decide_eq_true rfl
theorem eqRl_self (r : Rl) : eqRl r r = true := decide_eq_true rfl
theorem roleAt_ij {a b : List ByteArray} {i j : Nat} (hi : i < a.length) (hj : j < b.length) : roleAt a b ((i : Int) * (b.length : Int) + (j : Int)) = ⟨a[i], b[j]⟩ := by
  have h : i * b.length + j < a.length * b.length := by
    have : i * b.length + b.length ≤ a.length * b.length := by rw [← Nat.succ_mul]; exact Nat.mul_le_mul_right _ hi
    omega
  have e : ((i : Int) * (b.length : Int) + (j : Int)) = ((i * b.length + j : Nat) : Int) := by rw [Int.natCast_add, Int.natCast_mul]
  have h0 : 0 < b.length := by omega
  have e1 : (i * b.length + j) / b.length = i := by rw [Nat.add_comm, Nat.add_mul_div_right _ _ h0, Nat.div_eq_of_lt hj, Nat.zero_add]
  have e2 : (i * b.length + j) % b.length = j := by rw [Nat.add_comm, Nat.add_mul_mod_self_right, Nat.mod_eq_of_lt hj]
  rw [e, roleAt_yes h, e1, e2, atB_get hi, atB_get hj]
end Go.Proofs.Ythickpocfplcoaa
namespace Go.Proofs.Ythickpocfplcoaa
open Go.RowKit Go.Shelf

/-- Both statements' blocks stand whole. -/
structure TwoAt (w : World) (A B : Array Value) (wx : World) : Prop where
  a : Blk wx w.heap.size A
  b : Blk wx (w.heap.size + 1) B
  low : Below w.heap.size w wx
theorem TwoAt.later {w wx w' : World} {A B : Array Value} (h : TwoAt w A B wx) (hb : Below wx.heap.size wx w') : TwoAt w A B w' := ⟨h.a.below hb, h.b.below hb, h.low.trans (hb.mono h.low.size)⟩
theorem TwoAt.alloc {w wx : World} {A B : Array Value} (h : TwoAt w A B wx) (o : Obj) : TwoAt w A B (wx.alloc o) := h.later ((Below.refl _ _).alloc (Nat.le_refl _) o)
theorem TwoAt.drew {w wx : World} {A B : Array Value} (h : TwoAt w A B wx) : TwoAt w A B wx.drew := h.later (below_drew (Below.refl _ _))
end Go.Proofs.Ythickpocfplcoaa
