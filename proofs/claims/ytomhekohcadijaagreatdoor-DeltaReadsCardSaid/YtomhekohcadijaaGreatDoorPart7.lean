/- slices.SortFunc, slices.Clone at rows of roles; policy.SortRoles (printed by gen_rlall.py out of SynSort). slices.Equal, Grow and Concat at rows of roles (printed by gen_rlall.py out of StSlices, StUnion). slices.IndexFunc and slices.DeleteFunc at rows of roles. crupperref10.Of. The statement StateRows: the walk of the law. The statement StateParts: the walk of the law. How two policies differ, in plain Lean. Package delta: without, with, Back, Empty, Same. Two blocks of a call's own that stand whole. Whether two differences are the same (printed by gen_dlsame.py). crupperref32.Out: roles that aren't among others, in order (printed by gen_rlall.py out of StOf). Package state: Reaches; the reference's MayCome and Reaches. Package state's Reaches, and the reference's MayCome and Reaches. The reference's Reaches. The statement StateReaches: the walk of the law. A region that draws its order, walked by hand: an operation that is taken first, and one whose guard says no. A store into a block of slices leaves all rows of other things as they were. -/
import Derived.Test.YtomhekohcadijaaGreatDoorPart6
import Derived.Test.YtomhekohcadijaaGreatDoorPart5
import Derived.Test.YtomhekohcadijaaGreatDoorPart3
import Derived.Deep.RegionHeld3
namespace Go.Proofs.YtomhekohcadijaaGreatDoor
open Go.RowKit Go.Shelf Go.Lib Go.Sort

instance rlInh : Inhabited Rl := ⟨⟨ByteArray.empty, ByteArray.empty⟩⟩
def OwnR (w w' : World) (v : Value) (l : List Rl) : Prop :=
  (v = .slice none 0 0 ∧ l = []) ∨ ∃ g cap, v = .slice (some ⟨g, 0, none⟩) l.length cap ∧ w.heap.size ≤ g ∧ g < w'.heap.size ∧ l.length ≤ cap ∧ cap ≤ 9223372036854775807 ∧ (∀ j u, (l.flatMap Rl.cells)[j]? = some u → w'.cell? ⟨g, 0 + j, none⟩ = some u) ∧ ∀ i, w'.frozen? ⟨g, i, none⟩ = false
theorem rlc_one (s : Rl) : ∀ u ∈ s.cells, u.oneCell' = true := fun u hu => rls_one [s] u (by simpa using hu)
set_option maxHeartbeats 1000000 in
theorem syn_LessG (x y : Rl) (w : World) : Calls Tryz.prog 109 #[rv x, rv y] w fun e w' => e = .returned (.bool (decide (cmpR x y < 0))) ∧ Gr w w' := by
  have O := Lib.hid (fun W => syn_orderG x y W)
  generalize cmpR x y = c at O ⊢
  obtain ⟨a, b⟩ := x
  obtain ⟨c1, d⟩ := y
  go_enter Tryz.func109, Tryz.ntmps109
  go_wp2_with (go_at_call 161; refine (O.out _).mono ?_; rintro e w1 ⟨rfl, hg⟩)
  go_ret
  exact ⟨rfl, (((Gr.refl w).alloc _).alloc _).trans hg⟩
set_option maxHeartbeats 1000000 in
theorem pol_Sort1 (s t : Rl) (w : World) : Calls Tryz.prog 188 #[rv s, rv t] w fun e w' => e = .returned (.int .i64 (cmpR s t)) ∧ Gr w w' := by
  have A1 := Lib.hid (fun W => syn_LessG s t W)
  have A2 := Lib.hid (fun W => syn_LessG t s W)
  have E1 := Lib.hid (fun (h : cmpR s t < 0) => show cmpR s t = -1 by have := sgn_rl s t; unfold sgn at this; omega)
  have E2 := Lib.hid (fun (h : cmpR t s < 0) => show cmpR s t = 1 by have := sgn_rl s t; have := wcmp_rl.neg s t; unfold sgn at *; omega)
  have E3 := Lib.hid (fun (h : ¬ cmpR s t < 0) (h' : ¬ cmpR t s < 0) => show cmpR s t = 0 by have := wcmp_rl.neg s t; omega)
  obtain ⟨h1, h2⟩ := s
  obtain ⟨h1', h2'⟩ := t
  have HG := Lib.hid (show Gr w ((w.alloc (.cells #[.string h1, .string h2] 78)).alloc (.cells #[.string h1', .string h2'] 78)) from ((Gr.refl w).alloc _).alloc _)
  generalize cmpR ⟨h1, h2⟩ ⟨h1', h2'⟩ = c at A1 E1 E2 E3 ⊢
  generalize cmpR ⟨h1', h2'⟩ ⟨h1, h2⟩ = d at A2 E2 E3
  go_enter Tryz.func188, Tryz.ntmps188
  go_wp2_with fail
  refine (A1.out _).mono ?_
  rintro e w1 ⟨rfl, hg⟩
  have HG1 := Lib.hid (HG.out.trans hg)
  obtain ⟨⟨ca, fa, za⟩, ⟨cb, fb, zb⟩⟩ := keep2 hg.below
  clear hg
  by_cases hc : c < 0
  · have dc : decide (c < 0) = true := decide_eq_true hc
    have R := Lib.hid (E1.out hc)
    rw [dc]
    clear hc
    go_wp2
    go_ret
    exact ⟨by rw [R.out]; rfl, HG1.out⟩
  · have dc : decide (c < 0) = false := decide_eq_false hc
    have HC := Lib.hid hc
    rw [dc]
    clear hc
    go_wp2_with fail
    refine (A2.out _).mono ?_
    rintro e w2 ⟨rfl, hg⟩
    have HG2 := Lib.hid (HG1.out.trans hg)
    clear hg
    by_cases hd : d < 0
    · have dd : decide (d < 0) = true := decide_eq_true hd
      have R := Lib.hid (E2.out hd)
      rw [dd]
      clear hd
      go_wp2
      go_ret
      exact ⟨by rw [R.out]; rfl, HG2.out⟩
    · have dd : decide (d < 0) = false := decide_eq_false hd
      have R := Lib.hid (E3.out (by have := HC.out; omega) (by omega))
      rw [dd]
      clear hd
      go_wp2
      go_ret
      exact ⟨by rw [R.out]; rfl, HG2.out⟩
theorem swo_stR : SWO (ltOf cmpR) where
  irrefl x := decide_eq_false (lt_irrefl'R x)
  trans x y z h h' := decide_eq_true (lt_trans'R (of_decide_eq_true h) (of_decide_eq_true h'))
  ntrans x y z h h' := by
    have h1 := of_decide_eq_false h
    have h2 := of_decide_eq_false h'
    have n1 := wcmp_rl.neg x y
    have n2 := wcmp_rl.neg y z
    have n3 := wcmp_rl.neg x z
    obtain ⟨a, _⟩ := wcmp_rl.le z y x (by omega) (by omega)
    exact decide_eq_false (by omega)
theorem tot_stR (x y : Rl) (h : ltOf cmpR x y = false) (h' : ltOf cmpR y x = false) : x = y := by
  have h1 := of_decide_eq_false h
  have h2 := of_decide_eq_false h'
  have n1 := wcmp_rl.neg x y
  exact (cmpR_zero x y).1 (by omega)
def sortSR (l : List Rl) : List Rl := l.mergeSort fun x y => !(ltOf cmpR) y x
theorem sort_leR (l : List Rl) : (sortSR l).Pairwise fun x y => cmpR x y ≤ 0 := by
  have h : (sortSR l).Pairwise fun x y => (!(ltOf cmpR) y x) = true := by
    refine List.pairwise_mergeSort ?_ ?_ l
    · intro a b c h1 h2
      simp only [Bool.not_eq_true'] at h1 h2 ⊢
      exact swo_stR.ntrans c b a h2 h1
    · intro a b
      cases h : ltOf cmpR b a with
      | false => simp
      | true => simp [swo_stR.asymmA h]
  refine h.imp fun {x y} h => ?_
  simp only [Bool.not_eq_true'] at h
  have h1 := of_decide_eq_false h
  have n1 := wcmp_rl.neg x y
  omega
theorem dedup_sortR (l : List Rl) : dedupR (sortSR l) = insAllR [] l := by
  refine asc_uniqueR _ _ (dedup_ascR _ (sort_leR l)) (insAll_ascR l [] List.Pairwise.nil) fun z => ?_
  rw [dedup_memR, insAll_memR]
  simp [sortSR]
theorem sort_lenR (l : List Rl) : (sortSR l).length = l.length := by simp [sortSR]
theorem cmpLays_stR (blk off size : Nat) (w : World) : CmpLays Tryz.prog 188 #[] Rl.cells 2 cmpR blk off size w :=
  fun _ _ _ _ x y => (pol_Sort1 x y _).mono fun _ _ ⟨he, hg⟩ => ⟨he, gr_grow hg⟩
theorem flatK_getR (l : List Rl) (j : Nat) (u : Value) (h : (l.flatMap Rl.cells)[j]? = some u) : j < l.length * 2 ∧ (flatK Rl.cells 2 l.toArray)[j]! = u := by
  have hj : j < l.length * 2 := by rw [← flat_len Rl.cells 2 Rl.cells_len l]; exact (List.getElem?_eq_some_iff.1 h).1
  refine ⟨hj, ?_⟩
  have hi : j / 2 < l.length := by omega
  have hf : j % 2 < 2 := Nat.mod_lt _ (by decide)
  rw [get_flatK _ _ _ _ (by simpa using hj)]
  have e : j = j / 2 * 2 + j % 2 := by omega
  have h' := h
  rw [e, flat_get Rl.cells 2 Rl.cells_len l (j / 2) (j % 2) hf _ (List.getElem?_eq_getElem hi)] at h'
  have e1 : l.toArray[j / 2]! = l[j / 2] := by rw [getElem!_pos l.toArray (j / 2) (by simpa using hi)]; simp
  rw [e1, List.getElem!_eq_getElem?_getD, h']
  rfl
theorem holds_stR {w : World} {b o : Nat} {l : List Rl} (hx : ∀ j u, (l.flatMap Rl.cells)[j]? = some u → w.cell? ⟨b, o + j, none⟩ = some u) (hf : ∀ i, w.frozen? ⟨b, i, none⟩ = false) : HoldsK Rl.cells 2 w b o l.toArray := by
  intro j hj
  rw [size_flatK] at hj
  have hj' : j < (l.flatMap Rl.cells).length := by rw [flat_len Rl.cells 2 Rl.cells_len]; simpa using hj
  have hu := List.getElem?_eq_getElem hj'
  refine ⟨?_, hf _⟩
  rw [hx j _ hu, ← (flatK_getR l j _ hu).2]
  rfl
theorem cells_stR {w : World} {b o : Nat} {l : List Rl} (h : HoldsK Rl.cells 2 w b o l.toArray) (j : Nat) (u : Value) (hu : (l.flatMap Rl.cells)[j]? = some u) : w.cell? ⟨b, o + j, none⟩ = some u := by
  obtain ⟨hj, he⟩ := flatK_getR l j u hu
  have := (h j (by rw [size_flatK]; simpa using hj)).1
  rw [he] at this
  exact this
theorem sort_grownR (w : World) (blk off n : Nat) (d : Array Rl) (os : Array Obj) : w.grownBy (sortWorldK Rl.cells 2 w blk off n d os) (some blk) := by
  refine ⟨rfl, rfl, rfl, ?_, fun k hk hne => ?_⟩
  · unfold sortWorldK; rw [Go.Sort.size_grow, size_putRowK]; exact Nat.le_add_right _ _
  · have hkb : ¬ blk = k := fun e => hne (by rw [e])
    show ((w.heap.modify blk _) ++ os)[k]? = w.heap[k]?
    rw [Array.getElem?_append_left (by simpa using hk)]
    simp [Array.getElem?_modify, hkb]
theorem sort_frozenR (w : World) (blk off n : Nat) (d : Array Rl) (os : Array Obj) (hb : blk < w.heap.size) (i : Nat) : (sortWorldK Rl.cells 2 w blk off n d os).frozen? ⟨blk, i, none⟩ = w.frozen? ⟨blk, i, none⟩ := by
  unfold sortWorldK
  rw [Go.Sort.frozen?_grow _ _ _ (by rw [size_putRowK]; exact hb)]
  unfold putRowK
  rw [frozen?_putRow]
  rfl
theorem st_SortFuncR (b o cap : Nat) (l : List Rl) (w : World) (hl : l.length ≤ 1000) (hb : b < w.heap.size)
    (hx : ∀ j u, (l.flatMap Rl.cells)[j]? = some u → w.cell? ⟨b, o + j, none⟩ = some u) (hf : ∀ i, w.frozen? ⟨b, i, none⟩ = false) :
    Calls Tryz.prog 187 #[.slice (some ⟨b, o, none⟩) l.length cap, .func (.func 188) #[] #[]] w fun e w' =>
      e = .returned (.tuple #[]) ∧ (∀ j u, ((sortSR l).flatMap Rl.cells)[j]? = some u → w'.cell? ⟨b, o + j, none⟩ = some u) ∧ (∀ i, w'.frozen? ⟨b, i, none⟩ = false) ∧ w.grownBy w' (some b) ∧ ShK w w' b := by
  have eg : ∀ args w, (callFunc 188 args).run Tryz.prog w = .ok (.enter 188 args) w := enters_of Tryz.func188 (by kernel_rfl) rfl
  have hH := holds_stR hx hf
  have h := AnyQ.slices_SortFunc_total (α := Rl) Tryz.sortR 2 Tryz.isAgg78 Tryz.sizeOf78 Rl.cells Rl.cells_len rlc_one cmpR swo_stR 188 #[] b o cap l.toArray w eg (cmpLays_stR b o _ w) hH hb (by simp; omega) tot_stR
  have hs : l.toArray.size = l.length := by simp
  rw [hs] at h
  refine h.mono ?_
  rintro e w' ⟨he, n, os, rfl⟩
  refine ⟨he, ?_, fun i => (sort_frozenR w b o n _ os hb i).trans (hf i), sort_grownR w b o n _ os, sh_sort _ _ _ _ _ _ _ _ _⟩
  exact cells_stR (holdsK_sortWorldK_c Rl.cells 2 w b o l.toArray _ n os hH hb (by simp))
theorem st_SortFunc_noneR (p : Option Addr) (cap : Nat) (fv : Value) (w : World) : Calls Tryz.prog 187 #[.slice p 0 cap, fv] w fun e w' => e = .returned (.tuple #[]) ∧ w' = w :=
  AnyF.slices_SortFunc_none Tryz.sortR p cap fv w
theorem st_Compact_nilR (cap : Nat) (w : World) : Calls Tryz.prog 189 #[.slice none 0 cap] w fun e w' => e = .returned (.slice none 0 cap) ∧ w' = w := by
  go_enter Tryz.func189, Tryz.ntmps189
  go_wp2
  go_ret
  exact ⟨rfl, rfl⟩
set_option maxRecDepth 100000 in
theorem st_CloneRW (va : Value) (l : List Rl) (w : World) (ha : SlA w 2 va l.length (l.flatMap Rl.cells)) (hl : l.length ≤ 1000) :
    Calls Tryz.prog 186 #[va] w fun e w' => Below w.heap.size w w' ∧ ∃ v, e = .returned v ∧ w'.ownsRow w.heap.size 78 2 v l.length (l.flatMap Rl.cells) := by
  have hmax : maxLen = 9223372036854775807 := by decide
  rcases ha with ha | ⟨⟨a, c, rfl⟩, hn, -⟩
  case inr =>
    obtain rfl : l = [] := List.eq_nil_of_length_eq_zero hn
    obtain ⟨inf, hinf, hz0, hz1, hz2⟩ := info_parts rl_info'
    have HINF := Lib.hid hinf
    have q22 : ∀ (w : World) (a : Option Addr) (n c n' c' : Nat), (binOp .eql 23 (.slice a n c) (.slice none n' c')).run Tryz.prog w = .ok (.bool a.isNone) w := fun w a n c n' c' => Lib.run_eql_slice_nil w _ _ a n c n' c' Tryz.underlying23
    clear hn hl hinf
    go_enter Tryz.func186, Tryz.ntmps186
    go_wp2_with (at_builtin; refine halt_ ?_)
    unfold Halt_
    refine app_zero _ rfl _ _ 23 rfl 78 inf Tryz.underlying23 HINF.out (some ⟨w.heap.size, 0, none⟩) 0 0 (Nat.le_refl _) rfl _ _ rfl ?_
    go_wp2
    go_ret
    exact ⟨(Below.refl _ _).alloc (Nat.le_refl _) _, _, rfl, by simp, .inr ⟨w.heap.size, 0, #[], rfl, Nat.le_refl _, heap_new1 _ _, Nat.le_refl _, by omega, by simp, by simp⟩⟩
  rcases ha.2.2 with ⟨rfl, h0⟩ | ⟨b, off, cap, rfl, hc, hm, hlt, hx⟩
  · refine (AnyE.slices_Clone_nil Tryz.cloneR 0 0 w).mono ?_
    rintro e w' ⟨rfl, rfl⟩
    exact ⟨Below.refl _ _, _, rfl, by obtain rfl : l = [] := List.eq_nil_of_length_eq_zero h0; exact World.ownsRow_nil _ _ _ _⟩
  · obtain ⟨inf, hinf, hz0, hz1, hz2⟩ := info_parts rl_info'
    refine (AnyE.slices_Clone Tryz.cloneR inf _ 2 32 hinf hz0 hz1 hz2 rfl (by decide) Tryz.sizeOf78 b off l.length cap (l.flatMap Rl.cells) w (flat_len _ _ Rl.cells_len _) ha.2.1 (by omega) hx (rls_one l)).mono ?_
    rintro e w' ⟨v', rfl, hown, hnn, hb⟩
    exact ⟨hb, v', rfl, hown⟩

set_option maxRecDepth 100000 in
set_option maxHeartbeats 4000000 in
theorem pol_SortRolesO (va : Value) (l : List Rl) (w : World) (ha : SlA w 2 va l.length (l.flatMap Rl.cells)) (hl : l.length ≤ 1000) :
    Calls Tryz.prog 127 #[va] w fun e w' => ∃ v, e = .returned v ∧ w'.ownsRow w.heap.size 78 2 v (insAllR [] l).length ((insAllR [] l).flatMap Rl.cells) ∧ Below w.heap.size w w' := by
  have hmax : maxLen = 9223372036854775807 := by decide
  have C := Lib.hid (st_CloneRW va l w ha hl)
  have F := Lib.hid (fun g cap W h1 h2 h3 => st_SortFuncR g 0 cap l W hl h1 h2 h3)
  have K := Lib.hid (fun g cap W => rl_Compact g 0 cap (sortSR l) W)
  have DS := dedup_sortR l
  have DL := dedup_lenR (sortSR l)
  rw [sort_lenR, DS] at DL
  simp only [sort_lenR, DS] at K
  clear DS ha
  go_enter Tryz.func127, Tryz.ntmps127
  go_wp2_with fail
  refine C.out.mono ?_
  rintro e w1 ⟨hb1, v1, rfl, hr⟩
  have HB1 := Lib.hid hb1
  have HOWN := Lib.hid hr
  rcases hr.2 with ⟨rfl, hr0⟩ | ⟨g, cap, cur, rfl, hwg, hgc, hlc, hcm, hcs, _⟩
  · obtain rfl : l = [] := List.eq_nil_of_length_eq_zero hr0
    clear hb1 hr hr0 HOWN
    go_wp2_with fail
    refine (st_SortFunc_noneR _ _ _ _).mono ?_
    rintro e w2 ⟨rfl, rfl⟩
    go_wp2_with fail
    refine (st_Compact_nilR _ _).mono ?_
    rintro e w2 ⟨rfl, rfl⟩
    go_wp2
    go_ret
    exact ⟨_, rfl, World.ownsRow_nil _ _ _ _, HB1.out⟩
  · have hg : g < w1.heap.size := (Array.getElem?_eq_some_iff.1 hgc).1
    rw [hmax] at hcm
    have HX := Lib.hid (show ∀ j u, (l.flatMap Rl.cells)[j]? = some u → w1.cell? ⟨g, 0 + j, none⟩ = some u from fun j u hu => by
      have := hr.cells (g := g) rfl j u hu
      rwa [addr_add] at this)
    have HF := Lib.hid (show ∀ i, w1.frozen? ⟨g, i, none⟩ = false from fun i => by simp [World.frozen?, hgc])
    have HGC := Lib.hid hgc
    have HCS := Lib.hid hcs
    clear hb1 hr hgc hcs HOWN
    go_wp2_with fail
    refine (F.out g cap _ hg HX.out HF.out).mono ?_
    rintro e w2 ⟨rfl, hx2, hf2, hg2, hs2⟩
    have HS2 := Lib.hid hs2
    clear hs2
    have HX2 := Lib.hid hx2
    have HF2 := Lib.hid hf2
    have HG2 := Lib.hid hg2
    clear hx2 hf2 hg2
    go_wp2_with fail
    refine (K.out g cap _ hl hlc hcm (Nat.lt_of_lt_of_le hg HG2.out.size) HX2.out HF2.out).mono ?_
    rintro e w3 ⟨rfl, hx3, hg3, hf3, hs3⟩
    have HS3 := Lib.hid (HS2.out.trans hs3)
    clear hs3
    have HF3 := Lib.hid hf3
    have HX3 := Lib.hid hx3
    have HG3 := Lib.hid (gb_trans HG2.out hg3)
    clear hx3 hg3 hf3
    go_wp2
    go_ret
    exact ⟨_, rfl, own_of_sh HGC.out HCS.out HS3.out hwg (by omega) (by rw [hmax]; omega) (flat_len _ _ Rl.cells_len _) HX3.out, HB1.out.grown HG3.out HB1.out.size (by rintro k ⟨⟩; exact hwg)⟩
theorem ownR_of {w w' : World} {v : Value} {l : List Rl} (h : w'.ownsRow w.heap.size 78 2 v l.length (l.flatMap Rl.cells)) : OwnR w w' v l := by
  rcases h.2 with ⟨rfl, h0⟩ | ⟨g, cap, cur, rfl, hbg, hg, hnc, hm, hs, ht⟩
  · exact .inl ⟨rfl, List.eq_nil_of_length_eq_zero h0⟩
  · refine .inr ⟨g, cap, rfl, hbg, (Array.getElem?_eq_some_iff.1 hg).1, hnc, by rw [show maxLen = 9223372036854775807 by decide] at hm; exact hm, fun j u hu => ?_, fun i => by simp [World.frozen?, hg]⟩
    have := h.cells (g := g) rfl j u hu
    rwa [addr_add] at this
theorem pol_SortRoles (va : Value) (l : List Rl) (w : World) (ha : SlA w 2 va l.length (l.flatMap Rl.cells)) (hl : l.length ≤ 1000) :
    Calls Tryz.prog 127 #[va] w fun e w' => ∃ v, e = .returned v ∧ OwnR w w' v (insAllR [] l) ∧ Below w.heap.size w w' :=
  (pol_SortRolesO va l w ha hl).mono fun _ _ ⟨v, he, ho, hb⟩ => ⟨v, he, ownR_of ho, hb⟩
end Go.Proofs.YtomhekohcadijaaGreatDoor
namespace Go.Proofs.YtomhekohcadijaaGreatDoor
open Go.RowKit Go.Shelf

theorem rl_Grow (n : Nat) (w : World) (hn : n ≤ 2000) : Calls Tryz.prog 293 #[.slice none 0 0, .int .i64 n] w fun e w' =>
    ∃ a cap, e = .returned (.slice a 0 cap) ∧ w'.ownsRow w.heap.size 78 2 (.slice a 0 cap) 0 [] ∧ Below w.heap.size w w' := by
  by_cases h0 : 0 < n
  · obtain ⟨inf, hinf, hz0, hz1, hz2⟩ := info_parts rl_info'
    refine (Any8.slices_Grow_grow Tryz.growR inf _ hinf hz0 (by omega) none 0 0 n [] w (Nat.le_refl _) (by omega) (by rw [hz2]; omega) (by omega) (by simp) (fun _ => rfl) (fun a h => by cases h)).mono ?_
    rintro e w' ⟨rfl, rfl⟩
    have hge := grownCap_ge w (0 + n) 0 78
    have hle := grownCap_le_maxLen w (0 + n) 0 78 (by simp only [maxLen]; omega)
    refine ⟨_, _, rfl, World.ownsRow_made w.drew _ _ (Nat.le_refl _) hle ?_, (below_drew (Below.refl _ _)).alloc (Nat.le_refl _) _⟩
    rw [Nat.zero_add] at hge hle ⊢
    simp [Builtin.zeroCells, Value.cells]
    rw [show Tryz.growR_ren.t 25 = 78 from rfl]
    omega
  · obtain rfl : n = 0 := by omega
    refine (Any8.slices_Grow_room Tryz.growR none 0 0 0 w (Nat.le_refl _) (by omega) (by omega) (by omega)).mono ?_
    rintro e w' ⟨rfl, rfl⟩
    exact ⟨_, _, rfl, World.ownsRow_nil _ _ _ _, Below.refl _ _⟩
set_option maxRecDepth 100000 in
set_option maxHeartbeats 4000000 in
theorem rl_Concat (g : Nat) (va vb : Value) (l m : List Rl) (w : World) (hg : Blk w g #[va, vb]) (ha : SlA w 2 va l.length (l.flatMap Rl.cells)) (hb : SlA w 2 vb m.length (m.flatMap Rl.cells)) (hl : l.length ≤ 1000) (hm : m.length ≤ 1000) :
    Calls Tryz.prog 254 #[.slice (some ⟨g, 0, none⟩) 2 2] w fun e w' => ∃ v, e = .returned v ∧ Sl w' 2 v (l ++ m).length ((l ++ m).flatMap Rl.cells) ∧ Below w.heap.size w w' := by
  have HA := Lib.hid ha
  have HB := Lib.hid hb
  have HG := Lib.hid hg
  obtain ⟨ao, ac, hva⟩ := ha.form
  obtain ⟨bo, bc, hvb⟩ := hb.form
  subst hva hvb
  have GR : Hid (∀ W, Calls Tryz.prog 293 #[.slice none 0 0, .int .i64 ((l.length : Int) + (m.length : Int))] W fun e w' =>
      ∃ a cap, e = .returned (.slice a 0 cap) ∧ w'.ownsRow W.heap.size 78 2 (.slice a 0 cap) 0 [] ∧ Below W.heap.size W w') := Lib.hid (fun W => by
    have h := rl_Grow (l.length + m.length) W (by omega)
    rw [Int.natCast_add] at h
    exact h)
  have c0 : w.cell? ⟨g, 0, none⟩ = some (.slice ao l.length ac) := (hg.1 0).trans rfl
  have c1 : w.cell? ⟨g, 1, none⟩ = some (.slice bo m.length bc) := (hg.1 1).trans rfl
  have hgw : g < w.heap.size := hg.2.2
  clear ha hb hg
  go_enter Tryz.func254, Tryz.ntmps254
  go_wp2
  go_loop [3, 11] (fun n i => (n = .int .i64 0 ∧ i = .int .i64 0) ∨ (n = .int .i64 l.length ∧ i = .int .i64 1) ∨ (n = .int .i64 ((l.length : Int) + (m.length : Int)) ∧ i = .int .i64 2)) (fun _ i => 2 - (intOf i).toNat)
  case atStart => exact .inl ⟨rfl, rfl⟩
  case round =>
    obtain ⟨rfl, rfl⟩ | ⟨rfl, rfl⟩ | ⟨rfl, rfl⟩ := hrel
    · have d : decide ((l.length : Int) < 0) = false := by (rw [decide_eq_false_iff_not]; omega)
      have hw : IntKind.i64.wrap ((0 : Int) + (l.length : Int)) = (l.length : Int) := by rw [Int.zero_add]; exact Go.IntWalk.i64_in _ (by omega)
      go_wp2
      exact ⟨.inr (.inl ⟨rfl, rfl⟩), by simp [intOf]⟩
    · have d : decide ((l.length : Int) + (m.length : Int) < 0) = false := by (rw [decide_eq_false_iff_not]; omega)
      have hw : IntKind.i64.wrap ((l.length : Int) + (m.length : Int)) = (l.length : Int) + (m.length : Int) := Go.IntWalk.i64_in _ (by omega)
      go_wp2
      exact ⟨.inr (.inr ⟨rfl, rfl⟩), by simp [intOf]⟩
    · go_wp2_with fail
      refine (GR.out _).mono ?_
      rintro e w1 ⟨a1, cap1, rfl, hown, hb1⟩
      have HO := Lib.hid hown
      have HB1 := Lib.hid hb1
      clear hown hb1 c0 c1 hgw
      go_wp2_with fail
      go_loopw [6, 27] (fun vo i wr => Hid (Below w.heap.size w wr) ∧ ((i = .int .i64 0 ∧ Hid (wr.ownsRow w.heap.size 78 2 vo 0 [])) ∨ (i = .int .i64 1 ∧ Hid (wr.ownsRow w.heap.size 78 2 vo l.length (l.flatMap Rl.cells))) ∨ (i = .int .i64 2 ∧ Hid (wr.ownsRow w.heap.size 78 2 vo (l.length + m.length) ((l ++ m).flatMap Rl.cells))))) (fun _ i _ => 2 - (intOf i).toNat)
      case atStart => exact ⟨HB1, .inl ⟨rfl, HO⟩⟩
      case round =>
        obtain ⟨HBR, ⟨rfl, HOR⟩ | ⟨rfl, HOR⟩ | ⟨rfl, HOR⟩⟩ := hrel
        · have hbk := HG.out.below HBR.out
          have c0 : wr.cell? ⟨g, 0, none⟩ = some (.slice ao l.length ac) := (hbk.1 0).trans rfl
          have hgw : g < wr.heap.size := hbk.2.2
          obtain ⟨xo, xc, rfl⟩ := own_form HOR.out
          clear hbk
          go_wp2_with (at_builtin; refine halt_ ?_)
          unfold Halt_
          refine app_row Tryz.underlying23 rl_info' rfl (by decide) (by decide) rfl _ _ rfl w.heap.size rfl HOR.out rfl (HA.out.below HBR.out) (rls_one _) (by omega) HBR.out.size ?_
          intro a' cap' w3 hown' hgrow
          have HO3 := Lib.hid (show w3.ownsRow w.heap.size 78 2 (.slice a' l.length cap') l.length (l.flatMap Rl.cells) by simpa using hown')
          have HB3 := Lib.hid (below_own HBR.out HOR.out hgrow HBR.out.size (Nat.le_refl _))
          clear hown' hgrow
          go_wp2_with fail
          exact ⟨⟨HB3, .inr (.inl ⟨rfl, HO3⟩)⟩, by simp [intOf]⟩
        · have hbk := HG.out.below HBR.out
          have c1 : wr.cell? ⟨g, 1, none⟩ = some (.slice bo m.length bc) := (hbk.1 1).trans rfl
          have hgw : g < wr.heap.size := hbk.2.2
          obtain ⟨xo, xc, rfl⟩ := own_form HOR.out
          clear hbk
          go_wp2_with (at_builtin; refine halt_ ?_)
          unfold Halt_
          refine app_row Tryz.underlying23 rl_info' rfl (by decide) (by decide) rfl _ _ rfl w.heap.size rfl HOR.out rfl (HB.out.below HBR.out) (rls_one _) (by omega) HBR.out.size ?_
          intro a' cap' w3 hown' hgrow
          have HO3 := Lib.hid (show w3.ownsRow w.heap.size 78 2 (.slice a' (l.length + m.length) cap') (l.length + m.length) ((l ++ m).flatMap Rl.cells) by rw [rl_flat]; exact hown')
          have HB3 := Lib.hid (below_own HBR.out HOR.out hgrow HBR.out.size (Nat.le_refl _))
          clear hown' hgrow
          go_wp2_with fail
          exact ⟨⟨HB3, .inr (.inr ⟨rfl, HO3⟩)⟩, by simp [intOf]⟩
        · obtain ⟨xo, xc, rfl⟩ := own_form HOR.out
          have HS := Lib.hid (Sl.of_own HOR.out)
          go_wp2_with fail
          go_ret
          exact ⟨_, rfl, by rw [List.length_append]; exact HS.out, HBR.out⟩
end Go.Proofs.YtomhekohcadijaaGreatDoor
namespace Go.Proofs.YtomhekohcadijaaGreatDoor
open Go.RowKit Go.Shelf

def IdxP (l : List Rl) (p : Rl → Bool) (i : Int) : Prop :=
  (i = -1 ∧ ∀ x ∈ l, p x = false) ∨ ∃ k : Nat, ∃ hk : k < l.length, i = k ∧ p l[k] = true ∧ ∀ j (hj : j < l.length), j < k → p l[j] = false

set_option maxRecDepth 100000 in
set_option maxHeartbeats 2000000 in
theorem rl_IndexFunc (va : Value) (l : List Rl) (w : World) (ha : SlA w 2 va l.length (l.flatMap Rl.cells)) (g : Nat) (cb : Array Value) (p : Rl → Bool)
    (eg : ∀ args w, (callFunc g args).run Tryz.prog w = .ok (.enter g args) w)
    (hp : ∀ x W, x ∈ l → Below w.heap.size w W → Calls Tryz.prog g (#[rv x] ++ cb) W fun e w' => e = .returned (.bool (p x)) ∧ Below W.heap.size W w') :
    Calls Tryz.prog 217 #[va, .func (.func g) #[] cb] w fun e w' => (∃ i : Int, e = .returned (.int .i64 i) ∧ IdxP l p i) ∧ Below w.heap.size w w' := by
  have HP := Lib.hid hp
  have HA := Lib.hid ha
  have hmax := ha.max
  obtain ⟨ao, cap, hva⟩ := ha.form
  subst hva
  clear ha hp
  go_enter Tryz.func217, Tryz.ntmps217
  go_wp2
  go_loopw [8] (fun i wr => ∃ k : Nat, k ≤ l.length ∧ i = .int .i64 k ∧ Hid (Below w.heap.size w wr) ∧ Hid (∀ j (hj : j < l.length), j < k → p l[j] = false)) (fun i _ => l.length - (intOf i).toNat)
  case atStart => exact ⟨0, by omega, rfl, Lib.hid (Below.refl _ _), Lib.hid (fun _ _ h => absurd h (by omega))⟩
  case round =>
    obtain ⟨k, hk, rfl, HB, HJ⟩ := hrel
    by_cases hlt : k < l.length
    · obtain ⟨b1, o1, c1, he1, hc1, hm1, hb1, hx1⟩ := HA.out.pos (by omega)
      simp only [Value.slice.injEq, true_and] at he1
      obtain ⟨rfl, rfl⟩ := he1
      obtain ⟨p0, p1⟩ := rl_cell (w := wr) (fun j u hu => (HB.out.cell (p := ⟨b1, o1 + j, none⟩) hb1).trans (hx1 j u hu)) k hlt
      have hbr : b1 < wr.heap.size := Nat.lt_of_lt_of_le hb1 HB.out.size
      have PC := Lib.hid (fun W h => HP.out l[k] W (List.getElem_mem hlt) h)
      have YES : Hid (p l[k] = true → IdxP l p k) := Lib.hid (fun h => .inr ⟨k, hlt, rfl, h, HJ.out⟩)
      have HJ2 : Hid (p l[k] = false → ∀ j (hj : j < l.length), j < k + 1 → p l[j] = false) := Lib.hid (fun hpk j hj hjk => by
        by_cases h : j < k
        · exact HJ.out j hj h
        · obtain rfl : j = k := by omega
          exact hpk)
      clear hx1
      generalize p l[k] = px at PC YES HJ2
      generalize l[k] = x at *
      obtain ⟨x1, x2⟩ := x
      go_wp2_with fail
      refine (PC.out _ HB.out).mono ?_
      rintro e w2 ⟨rfl, hb2⟩
      have HB2 := Lib.hid (HB.out.trans (hb2.mono HB.out.size))
      clear hb2
      cases px with
      | true =>
        have R := Lib.hid (YES.out rfl)
        go_wp2
        go_ret
        exact ⟨⟨(k : Int), rfl, R.out⟩, HB2.out⟩
      | false =>
        have HJ3 := Lib.hid (HJ2.out rfl)
        go_wp2
        exact ⟨⟨k + 1, by omega, by go_num, HB2, HJ3⟩, by simp [intOf]; omega⟩
    · have R : Hid (IdxP l p (-1)) := Lib.hid (.inl ⟨rfl, fun x hx => by
        obtain ⟨j, hj, rfl⟩ := List.getElem_of_mem hx
        exact HJ.out j hj (by omega)⟩)
      go_wp2
      go_ret
      exact ⟨⟨-1, rfl, R.out⟩, HB.out⟩

structure HalfF (w : World) (b o : Nat) (l : List Rl) (np : Rl → Bool) (j i : Nat) : Prop where
  len : ((l.take j).filter np).length = i
  low : ∀ k (hk : k < ((l.take j).filter np).length), Two w b (o + k * 2) ((l.take j).filter np)[k]
  high : ∀ k (hk : k < l.length), j ≤ k → Two w b (o + k * 2) l[k]
  all : ∀ k, k < l.length → ∃ s0, Two w b (o + k * 2) s0
theorem HalfF.move {w w' : World} {b o j i : Nat} {l : List Rl} {np : Rl → Bool} (h : HalfF w b o l np j i) (hw : ∀ i, w'.cell? ⟨b, i, none⟩ = w.cell? ⟨b, i, none⟩) : HalfF w' b o l np j i :=
  ⟨h.len, fun k hk => (h.low k hk).drop1 (fun _ _ _ => hw _), fun k hk hj => (h.high k hk hj).drop1 (fun _ _ _ => hw _), fun k hk => (h.all k hk).elim fun s0 h0 => ⟨s0, h0.drop1 (fun _ _ _ => hw _)⟩⟩
theorem HalfF.skip {w : World} {b o j i : Nat} {l : List Rl} {np : Rl → Bool} (h : HalfF w b o l np j i) (hj : j < l.length) (e : np l[j] = false) : HalfF w b o l np (j + 1) i := by
  have hd := filter_noR hj e
  exact ⟨by rw [hd]; exact h.len, fun k hk => by simp only [hd]; exact h.low k (by rw [← hd]; exact hk), fun k hk hjk => h.high k hk (by omega), h.all⟩
theorem HalfF.put {w : World} {b o j i : Nat} {l : List Rl} {np : Rl → Bool} (h : HalfF w b o l np j i) (hj : j < l.length) (hij : i ≤ j) (e : np l[j] = true) : HalfF (W2 w b (o + i * 2) l[j]) b o l np (j + 1) (i + 1) := by
  have hd := filter_yesR hj e
  refine ⟨by rw [hd, List.length_append, h.len]; rfl, fun k hk => ?_, fun k hk hjk => ?_, fun k hk => ?_⟩
  · rw [hd, List.length_append, h.len] at hk
    simp only [List.length_cons, List.length_nil] at hk
    by_cases hik : k < i
    · have e1 : ((l.take (j + 1)).filter np)[k]'(by rw [hd, List.length_append, h.len]; simp; omega) = ((l.take j).filter np)[k]'(by rw [h.len]; exact hik) := by
        simp only [hd]; rw [List.getElem_append_left]
      rw [e1]
      exact (h.low k (by rw [h.len]; exact hik)).drop1 (fun _ _ _ => w2_far _ _ _ _ _ (by omega))
    · obtain rfl : k = i := by omega
      have e1 : ((l.take (j + 1)).filter np)[k]'(by rw [hd, List.length_append, h.len]; simp) = l[j] := by
        simp only [hd]; rw [List.getElem_append_right (by rw [h.len]; exact Nat.le_refl _)]; simp [h.len]
      rw [e1]
      obtain ⟨s0, h0⟩ := h.all k (by omega)
      exact w2_new _ _ h0
  · exact (h.high k hk (by omega)).drop1 (fun _ _ _ => w2_far _ _ _ _ _ (by omega))
  · obtain ⟨s0, h0⟩ := h.all k hk
    by_cases hik : k = i
    · subst hik; exact ⟨_, w2_new _ _ h0⟩
    · exact ⟨s0, h0.drop1 (fun _ _ _ => w2_far _ _ _ _ _ (by omega))⟩
theorem HalfF.start {w : World} {b o k : Nat} {l : List Rl} {np : Rl → Bool} (hx : ∀ j u, (l.flatMap Rl.cells)[j]? = some u → w.cell? ⟨b, o + j, none⟩ = some u) (hk : k < l.length) (h0 : np l[k] = false) (h1 : ∀ j (hj : j < l.length), j < k → np l[j] = true) : HalfF w b o l np (k + 1) k := by
  have hd : (l.take (k + 1)).filter np = l.take k := by
    rw [filter_noR hk h0, List.filter_eq_self]
    intro x hx
    obtain ⟨j, hj, rfl⟩ := List.getElem_of_mem hx
    rw [List.getElem_take]
    rw [List.length_take] at hj
    exact h1 j (by omega) (by omega)
  refine ⟨by rw [hd, List.length_take]; omega, fun i hi => ?_, fun i hi _ => rl_cell (w := w) hx i hi, fun i hi => ⟨_, rl_cell (w := w) hx i hi⟩⟩
  have hi' : i < l.length := by rw [hd, List.length_take] at hi; omega
  have e : ((l.take (k + 1)).filter np)[i] = l[i] := by simp only [hd, List.getElem_take]
  rw [e]
  exact rl_cell (w := w) hx i hi'
theorem HalfF.done {w : World} {b o j i : Nat} {l : List Rl} {np : Rl → Bool} (h : HalfF w b o l np j i) (hj : j = l.length) : (l.filter np).length = i ∧ ∀ k (hk : k < (l.filter np).length), Two w b (o + k * 2) (l.filter np)[k] := by
  subst hj
  obtain ⟨h1, h2, _, _⟩ := h
  simp only [List.take_of_length_le (Nat.le_refl _)] at h1 h2
  exact ⟨h1, h2⟩
theorem HalfF.some {w : World} {b o j i : Nat} {l : List Rl} {np : Rl → Bool} (h : HalfF w b o l np j i) (hi : i ≤ l.length) : ∀ k, k < (l.length - i) * 2 → (w.cell? ⟨b, o + i * 2 + k, none⟩).isSome = true := by
  intro k hk
  obtain ⟨s0, h0⟩ := h.all (i + k / 2) (by omega)
  have := two_someR h0 (k % 2) (Nat.mod_lt _ (by decide))
  rwa [show o + (i + k / 2) * 2 + k % 2 = o + i * 2 + k by omega] at this
set_option maxRecDepth 100000 in
set_option maxHeartbeats 8000000 in
theorem rl_DeleteFunc (b o cap : Nat) (l : List Rl) (w : World) (_ : l.length ≤ 1000) (hc : l.length ≤ cap) (hcm : cap ≤ 9223372036854775807) (hb : b < w.heap.size)
    (hx : ∀ j u, (l.flatMap Rl.cells)[j]? = some u → w.cell? ⟨b, o + j, none⟩ = some u) (hf : ∀ i, w.frozen? ⟨b, i, none⟩ = false)
    (g : Nat) (cb : Array Value) (p : Rl → Bool) (eg : ∀ args w, (callFunc g args).run Tryz.prog w = .ok (.enter g args) w)
    (hp : ∀ x W, w.grownBy W (some b) → Calls Tryz.prog g (#[rv x] ++ cb) W fun e w' => e = .returned (.bool (p x)) ∧ Below W.heap.size W w') :
    Calls Tryz.prog 151 #[.slice (some ⟨b, o, none⟩) l.length cap, .func (.func g) #[] cb] w fun e w' =>
      e = .returned (.slice (some ⟨b, o, none⟩) (l.filter fun x => !p x).length cap) ∧ (∀ j u, ((l.filter fun x => !p x).flatMap Rl.cells)[j]? = some u → w'.cell? ⟨b, o + j, none⟩ = some u) ∧ w.grownBy w' (some b) := by
  have hmax : maxLen = 9223372036854775807 := by decide
  have HX := Lib.hid hx
  have HP := Lib.hid hp
  have HF := Lib.hid hf
  have IDX := Lib.hid (rl_IndexFunc (.slice (some ⟨b, o, none⟩) l.length cap) l w (Sl.a ⟨flat_len _ _ Rl.cells_len _, by omega, .inr ⟨b, o, cap, rfl, hc, by omega, hb, hx⟩⟩) g cb p eg (fun x W _ hW => hp x W (grown_of_below hW _)))
  clear hx hp hf
  go_enter Tryz.func151, Tryz.ntmps151
  go_wp2_with fail
  refine IDX.out.mono ?_
  rintro e w1 ⟨⟨i, rfl, hidx⟩, hb1⟩
  have HB1 := Lib.hid hb1
  rcases hidx with ⟨rfl, hno⟩ | ⟨k, hk, rfl, hyes, hbef⟩
  · have R := Lib.hid (show (l.filter fun x => !p x) = l by rw [List.filter_eq_self]; intro x hx; rw [hno x hx]; rfl)
    clear hno hb1
    go_wp2
    go_ret
    exact ⟨by rw [R.out]; rfl, by rw [R.out]; exact fun j u hu => (HB1.out.cell (p := ⟨b, o + j, none⟩) hb).trans (HX.out j u hu), grown_of_below HB1.out _⟩
  · have d1 : ((k : Int) == -1) = false := by rw [beq_eq_false_iff_ne]; omega
    have H0 := Lib.hid (HalfF.start (np := fun x => !p x) (w := w1) (b := b) (o := o) (fun j u hu => (HB1.out.cell (p := ⟨b, o + j, none⟩) hb).trans (HX.out j u hu)) hk (by rw [hyes]; rfl) (fun j hj hjk => by rw [hbef j hj hjk]; rfl))
    have F0 := Lib.hid (fun i => (HB1.out.frozen (p := ⟨b, i, none⟩) hb).trans (HF.out i))
    have hb1s : b < w1.heap.size := Nat.lt_of_lt_of_le hb HB1.out.size
    clear hyes hbef hb1
    go_wp2_with fail
    go_loopw [5, 6] (fun iv jv wr => ∃ i j : Nat, i < j ∧ j ≤ l.length ∧ iv = .int .i64 i ∧ jv = .int .i64 j ∧ Hid (HalfF wr b o l (fun x => !p x) j i) ∧ Hid (w.grownBy wr (some b)) ∧ Hid (∀ i, wr.frozen? ⟨b, i, none⟩ = false) ∧ b < wr.heap.size) (fun _ jv _ => l.length - (intOf jv).toNat)
    case atStart => exact ⟨k, k + 1, by omega, by omega, rfl, by go_num, H0, Lib.hid (grown_of_below HB1.out _), F0, hb1s⟩
    case round =>
      obtain ⟨i, j, hij, hj, rfl, rfl, HH, HG, HFR, hbr⟩ := hrel
      by_cases hlt : j < l.length
      · obtain ⟨p0, p1⟩ := HH.out.high j hlt (Nat.le_refl _)
        have hil : i < l.length := by omega
        obtain ⟨s0, q0, q1⟩ := HH.out.all i hil
        have PC := Lib.hid (fun W h => HP.out l[j] W h)
        have YES : Hid (∀ W, HalfF W b o l (fun x => !p x) j i → p l[j] = false → HalfF (W2 W b (o + i * 2) l[j]) b o l (fun x => !p x) (j + 1) (i + 1)) := Lib.hid (fun W h e => h.put hlt (by omega) (by rw [e]; rfl))
        have NO : Hid (∀ W, HalfF W b o l (fun x => !p x) j i → p l[j] = true → HalfF W b o l (fun x => !p x) (j + 1) i) := Lib.hid (fun W h e => h.skip hlt (by rw [e]; rfl))
        generalize p l[j] = px at PC YES NO
        generalize l[j] = x at *
        obtain ⟨x1, x2⟩ := x
        have HGA := Lib.hid (gb_alloc HG.out (.cells #[.string x1, .string x2] 78))
        go_wp2_with fail
        refine (PC.out _ HGA.out).mono ?_
        rintro e w2 ⟨rfl, hb2a⟩
        have HBK := Lib.hid (keep1 hb2a)
        have hb2 : Below wr.heap.size wr w2 := ((Below.refl _ _).alloc (Nat.le_refl _) _).trans (hb2a.mono (by simp))
        have HB2 := Lib.hid hb2
        obtain ⟨cx, fx, zx⟩ := HBK.out
        have hc2 := Lib.hid (fun i => hb2.cell (p := ⟨b, i, none⟩) hbr)
        have f2 : ∀ i, w2.frozen? ⟨b, i, none⟩ = false := fun i => (hb2.frozen (p := ⟨b, i, none⟩) hbr).trans (HFR.out i)
        have p0' := (hc2.out _).trans p0
        have p1' := (hc2.out _).trans p1
        have q0' := (hc2.out _).trans q0
        have q1' := (hc2.out _).trans q1
        have hbr2 : b < w2.heap.size := Nat.lt_of_lt_of_le hbr hb2.size
        have HG2 := Lib.hid (gb_trans HG.out (gb_of_below (r := some b) hb2))
        have HM := Lib.hid (HH.out.move hc2.out)
        clear hb2 hb2a p0 p1 q0 q1
        cases px with
        | true =>
          have R := Lib.hid (NO.out _ HM.out rfl)
          go_wp2
          exact ⟨⟨i, j + 1, by omega, by omega, rfl, by go_num, R, HG2, Lib.hid f2, hbr2⟩, by simp [intOf]; omega⟩
        | false =>
          have R := Lib.hid (YES.out _ HM.out rfl)
          go_wp2
          refine ⟨⟨i + 1, j + 1, by omega, by omega, by go_num, by go_num, Lib.hid ?_, Lib.hid ?_, Lib.hid ?_, ?_⟩, by simp [intOf]; omega⟩
          · have h := R.out
            unfold W2 at h
            with_reducible exact h
          · have h := grown_w9R (b := b) (a := o + i * 2) (s := ⟨x1, x2⟩) HG2.out
            unfold W2 at h
            with_reducible exact h
          · intro i
            simpa using f2 i
          · simpa using hbr2
      · obtain ⟨hlen, hlow⟩ := HH.out.done (by omega)
        have HLEN := Lib.hid hlen
        have HLOW := Lib.hid hlow
        have hil : i < l.length := by omega
        have hic : i < cap := by omega
        obtain ⟨W', hW, hclr⟩ : ∃ W', W' = wr.setCells b (o + i * 2) (Builtin.zeroCells zeroRl.cells (l.length - i)).toList ∧ ∀ ty, Sem.run Tryz.prog (Builtin.clear_ #[23] ty #[.slice (some ⟨b, o + i * 2, none⟩) (l.length - i) (cap - i)]) wr = .ok (.tuple #[]) W' :=
          ⟨_, rfl, fun ty => run_clear2R wr _ 78 ty zeroRl Tryz.underlying23 rl_zero b (o + i * 2) (l.length - i) (cap - i) (by omega) rfl (HH.out.some (by omega)) (fun j => HFR.out _) (zero_oneR _)⟩
        have HOUT : Hid (∀ k, k < o + i * 2 → W'.cell? ⟨b, k, none⟩ = wr.cell? ⟨b, k, none⟩) := Lib.hid (fun k hk => by rw [hW]; exact World.cell?_setCells_out b _ _ _ _ (fun _ _ => .inl hk))
        have HGW : Hid (w.grownBy W' (some b)) := Lib.hid (by rw [hW]; exact grown_sets _ _ _ HG.out)
        clear hlen hlow hW
        go_wp2_with fail
        go_ret
        refine ⟨by rw [HLEN.out]; rfl, ?_, HGW.out⟩
        refine two_cellsR (fun k hk => (HLOW.out k hk).drop1 (fun j h1 h2 => HOUT.out j ?_))
        have := HLEN.out
        omega
set_option maxHeartbeats 1000000 in
theorem rl_DeleteNil (w : World) (g : Nat) (cb : Array Value) (eg : ∀ args w, (callFunc g args).run Tryz.prog w = .ok (.enter g args) w) :
    Calls Tryz.prog 151 #[.slice none 0 0, .func (.func g) #[] cb] w fun e w' => e = .returned (.slice none 0 0) ∧ Below w.heap.size w w' := by
  have IDX := Lib.hid (rl_IndexFunc (.slice none 0 0) [] w (Sl.nil _ _).a g cb (fun _ => false) eg (fun x W hx _ => by cases hx))
  go_enter Tryz.func151, Tryz.ntmps151
  go_wp2_with fail
  refine IDX.out.mono ?_
  rintro e w1 ⟨⟨i, rfl, hidx⟩, hb1⟩
  have HB1 := Lib.hid hb1
  rcases hidx with ⟨rfl, _⟩ | ⟨k, hk, _⟩
  · clear hb1
    go_wp2
    go_ret
    exact ⟨rfl, HB1.out⟩
  · exact absurd hk (by simp)
end Go.Proofs.YtomhekohcadijaaGreatDoor
namespace Go.Proofs.YtomhekohcadijaaGreatDoor
open Go.RowKit Go.Shelf

set_option maxRecDepth 100000 in
set_option maxHeartbeats 4000000 in
theorem ref10_OfO (va vb : Value) (l0 m : List St) (w : World) (ha0 : SlA w 9 va l0.length (l0.flatMap St.cells)) (hb0 : SlA w 9 vb m.length (m.flatMap St.cells)) (hl0 : l0.length ≤ 1000) :
    Calls Tryz.prog 63 #[va, vb, .bool false] w fun e w' => ∃ v base, e = .returned v ∧ w.heap.size ≤ base ∧ base ≤ w'.heap.size ∧ w'.ownsRow base 80 9 v ((ord l0).filter fun x => !hasS m x).length (((ord l0).filter fun x => !hasS m x).flatMap St.cells) ∧ Below w.heap.size w w' := by
  have RS := Lib.hid (ref3_Sort va l0 w ha0 hl0)
  have hlen := ord_len l0
  have HBM := Lib.hid hb0
  obtain ⟨bo, bc, hvb⟩ := hb0.form
  subst hvb
  have RH := Lib.hid (fun x W h => ref3_Has (.slice bo m.length bc) m x W h)
  obtain ⟨a0, ac0, hva⟩ := ha0.form
  subst hva
  change Hid (Calls Tryz.prog 16 _ w fun e w' => ∃ v, e = .returned v ∧ Sl w' 9 v (ord l0).length ((ord l0).flatMap St.cells) ∧ Below w.heap.size w w') at RS
  generalize ord l0 = l at RS hlen ⊢
  generalize hp : (fun x => !hasS m x) = p
  have PE := Lib.hid (show ∀ x, p x = !hasS m x from fun x => by rw [← hp])
  clear ha0 hb0 hp
  go_enter Tryz.func63, Tryz.ntmps63
  go_wp2_with fail
  refine RS.out.mono ?_
  rintro e w1 ⟨va, rfl, hs1, hb1⟩
  have HA := Lib.hid hs1
  have HB0 := Lib.hid hb1
  have HBM := Lib.hid (HBM.out.below hb1)
  have hmax := hs1.max
  obtain ⟨ao, cap, hva⟩ := hs1.form
  subst hva
  clear hs1 hb1
  go_wp2_with fail
  go_loopw [7, 13] (fun vo i wr => ∃ k : Nat, k ≤ l.length ∧ i = .int .i64 k ∧ Hid (Below w1.heap.size w1 wr) ∧ Hid (wr.ownsRow w1.heap.size 80 9 vo ((l.take k).filter p).length (((l.take k).filter p).flatMap St.cells))) (fun _ i _ => l.length - (intOf i).toNat)
  case atStart => exact ⟨0, by omega, rfl, Lib.hid (Below.refl _ _), Lib.hid (World.ownsRow_nil _ _ _ _)⟩
  case round =>
    obtain ⟨k, hk, rfl, HB, HO⟩ := hrel
    obtain ⟨oo, oc, rfl⟩ := own_form HO.out
    by_cases hlt : k < l.length
    · obtain ⟨b1, o1, c1, he1, hc1, hm1, hb1, hx1⟩ := HA.out.pos (by omega)
      simp only [Value.slice.injEq, true_and] at he1
      obtain ⟨rfl, rfl⟩ := he1
      obtain ⟨p0, p1, p2, p3, p4, p5, p6, p7, p8⟩ := st_cell (w := wr) (fun j u hu => (HB.out.cell (p := ⟨b1, o1 + j, none⟩) hb1).trans (hx1 j u hu)) k hlt
      have hbr : b1 < wr.heap.size := Nat.lt_of_lt_of_le hb1 HB.out.size
      have PC := Lib.hid (fun W h => RH.out l[k] W h)
      have PX := Lib.hid (PE.out l[k])
      have FY := Lib.hid (fun h => filter_yes (p := p) hlt h)
      have FN := Lib.hid (fun h => filter_no (p := p) hlt h)
      have hlk : ((l.take k).filter p).length ≤ l.length := Nat.le_trans (List.length_filter_le _ _) (by simp; omega)
      have hek : l[k] = ⟨l[k].k, ⟨l[k].h.o, l[k].h.n⟩, l[k].who, ⟨l[k].a.o, l[k].a.n⟩, ⟨l[k].b.o, l[k].b.n⟩, l[k].via⟩ := rfl
      generalize l[k] = x at *
      obtain ⟨xk, ⟨x1, x2⟩, xw, ⟨x3, x4⟩, ⟨x5, x6⟩, xv⟩ := x
      rw [PX.out] at FY FN
      generalize hasS m ⟨xk, ⟨x1, x2⟩, xw, ⟨x3, x4⟩, ⟨x5, x6⟩, xv⟩ = px at PC FY FN
      clear PX
      clear hek hx1
      have HB1 := Lib.hid (HB.out.alloc HB.out.size (.cells #[.int .i64 xk, .string x1, .string x2, .string xw, .string x3, .string x4, .string x5, .string x6, .string xv] 80))
      go_wp2_with fail
      refine (PC.out _ (HBM.out.below HB1.out)).mono ?_
      rintro e w2 ⟨rfl, hb2⟩
      have HB2 := Lib.hid (HB1.out.trans (hb2.mono HB1.out.size))
      have HBK := Lib.hid (keep1 hb2)
      have HO2 := Lib.hid (own_below (own_below HO.out ((Below.refl _ _).alloc (Nat.le_refl _) _)) hb2)
      obtain ⟨cx, fx, zx⟩ := HBK.out
      have hz2 := HB2.out.size
      clear hb2
      cases px with
      | true =>
        have e := Lib.hid (FN.out rfl)
        clear FY FN
        go_wp2_with fail
        exact ⟨⟨k + 1, by omega, by go_num, HB2, Lib.hid (by rw [e.out]; exact HO2.out)⟩, by simp [intOf]; omega⟩
      | false =>
        have e := Lib.hid (FY.out rfl)
        clear FY FN
        have hown := HO2.out
        go_wp2_with (at_builtin; refine halt_ ?_)
        unfold Halt_
        refine app_own Tryz.underlying22 st_info rfl (by decide) (by decide) rfl _ _ rfl w1.heap.size rfl (hown.alloc _) [.int .i64 xk, .string x1, .string x2, .string xw, .string x3, .string x4, .string x5, .string x6, .string xv] rfl (heap_new1 _ _) rfl (st_one ⟨xk, ⟨x1, x2⟩, xw, ⟨x3, x4⟩, ⟨x5, x6⟩, xv⟩) ?_ ?_ ?_
        · omega
        · simp; omega
        intro a' cap' w3 hown' hgrow
        have HO3 := Lib.hid (show w3.ownsRow w1.heap.size 80 9 _ (((l.take (k + 1)).filter p).length) (((l.take (k + 1)).filter p).flatMap St.cells) by rw [e.out, flat_snoc, List.length_append]; exact hown')
        have HB3 := Lib.hid (below_own (HB2.out.alloc HB2.out.size (.cells #[.int .i64 xk, .string x1, .string x2, .string xw, .string x3, .string x4, .string x5, .string x6, .string xv] 80)) (hown.alloc _) hgrow (by simp; omega) (Nat.le_refl _))
        clear hown' hgrow hown
        go_wp2_with fail
        refine ⟨⟨k + 1, by omega, by go_num, HB3, ?_⟩, by simp [intOf]; omega⟩
        rw [e.out, List.length_append] at HO3
        rw [e.out, List.length_append]
        exact HO3
    · have e := Lib.hid (show l.take k = l by rw [List.take_of_length_le (by omega)])
      go_wp2_with fail
      go_ret
      exact ⟨_, w1.heap.size, rfl, HB0.out.size, HB.out.size, by have := HO.out; rw [e.out] at this ⊢; exact this, HB0.out.trans (HB.out.mono HB0.out.size)⟩
theorem ref10_Of (va vb : Value) (l0 m : List St) (w : World) (ha0 : SlA w 9 va l0.length (l0.flatMap St.cells)) (hb0 : SlA w 9 vb m.length (m.flatMap St.cells)) (hl0 : l0.length ≤ 1000) :
    Calls Tryz.prog 63 #[va, vb, .bool false] w fun e w' => ∃ v, e = .returned v ∧ Sl w' 9 v ((ord l0).filter fun x => !hasS m x).length (((ord l0).filter fun x => !hasS m x).flatMap St.cells) ∧ Below w.heap.size w w' :=
  (ref10_OfO va vb l0 m w ha0 hb0 hl0).mono fun _ _ ⟨v, _, he, _, _, ho, hb⟩ => ⟨v, he, Sl.of_own ho, hb⟩
end Go.Proofs.YtomhekohcadijaaGreatDoor
namespace Go.Proofs.YtomhekohcadijaaGreatDoor
open Go.RowKit Go.Shelf

theorem ref3_SameT (va vb : Value) (l : List St) (w : World) (ha : SlA w 9 va l.length (l.flatMap St.cells)) (hb : SlA w 9 vb l.length (l.flatMap St.cells)) :
    Calls Tryz.prog 15 #[va, vb] w fun e w' => e = .returned (.bool true) ∧ Below w.heap.size w w' :=
  (ref3_Same va vb l l w ha hb).mono fun e w' ⟨he, n, hn⟩ => ⟨by rw [he, decide_eq_true rfl], by rw [hn]; exact below_of_drewN n⟩

theorem ref3_SameB (va vb : Value) (l m : List St) (w : World) (ha : SlA w 9 va l.length (l.flatMap St.cells)) (hb : SlA w 9 vb m.length (m.flatMap St.cells)) :
    Calls Tryz.prog 15 #[va, vb] w fun e w' => e = .returned (.bool (decide (l = m))) ∧ Below w.heap.size w w' :=
  (ref3_Same va vb l m w ha hb).mono fun e w' ⟨he, n, hn⟩ => ⟨he, by rw [hn]; exact below_of_drewN n⟩
end Go.Proofs.YtomhekohcadijaaGreatDoor
namespace Go.Proofs.YtomhekohcadijaaGreatDoor
open Go.RowKit Go.Shelf

def minusS (l m : List St) : List St := ord (l.filter fun x => !hasS m x)
theorem minus_mem (l m : List St) (x : St) : x ∈ minusS l m ↔ x ∈ l ∧ ¬ x ∈ m := by
  unfold minusS
  rw [ord_mem, List.mem_filter, Bool.not_eq_true', ← Bool.not_eq_true, hasS_mem]
theorem minus_asc (l m : List St) : Asc (minusS l m) := ord_asc _
theorem minus_len (l m : List St) : (minusS l m).length ≤ l.length := Nat.le_trans (ord_len _) (List.length_filter_le _ _)
theorem stMinus (va vb : Value) (l m : List St) (w : World) (ha : SlA w 9 va l.length (l.flatMap St.cells)) (hb : SlA w 9 vb m.length (m.flatMap St.cells)) (hl : l.length ≤ 1000) :
    Calls Tryz.prog 94 #[va, vb] w fun e w' => ∃ v, e = .returned v ∧ Sl w' 9 v (minusS l m).length ((minusS l m).flatMap St.cells) ∧ Below w.heap.size w w' := state_Minus va vb l m w ha hb (by omega)
end Go.Proofs.YtomhekohcadijaaGreatDoor
namespace Go.Proofs.YtomhekohcadijaaGreatDoor
open Go.RowKit Go.Shelf

structure Dl where
  more : List St
  gone : List St
  grow : List Rl
  ungrow : List Rl
  shrink : List Rl
  unshrink : List Rl
def outR (a b : List Rl) : List Rl := (ordR a).filter fun x => !hasR b x
def Dl.of (l1 : List St) (g1 h1 : List Rl) (l2 : List St) (g2 h2 : List Rl) : Dl := ⟨minusS l2 l1, minusS l1 l2, outR g2 g1, outR g1 g2, outR h2 h1, outR h1 h2⟩
theorem out_memR (a b : List Rl) (x : Rl) : x ∈ outR a b ↔ x ∈ a ∧ ¬ x ∈ b := by
  unfold outR
  rw [List.mem_filter, ord_memR, Bool.not_eq_true', ← Bool.not_eq_true, hasR_mem]
theorem out_ascR (a b : List Rl) : AscR (outR a b) := (ord_ascR a).filter _
theorem out_lenR (a b : List Rl) : (outR a b).length ≤ a.length := Nat.le_trans (List.length_filter_le _ _) (ord_lenR a)
def mk0 : ByteArray := ⟨#[45, 32]⟩
def mk1 : ByteArray := ⟨#[43, 32]⟩
def mk2 : ByteArray := ⟨#[45, 32, 103, 114, 111, 119, 32]⟩
def mk3 : ByteArray := ⟨#[43, 32, 103, 114, 111, 119, 32]⟩
def mk4 : ByteArray := ⟨#[45, 32, 115, 104, 114, 105, 110, 107, 32]⟩
def mk5 : ByteArray := ⟨#[43, 32, 115, 104, 114, 105, 110, 107, 32]⟩
def lnS (m : ByteArray) (l : List St) : List ByteArray := l.map fun s => m ++ printS s
def lnR (m : ByteArray) (l : List Rl) : List ByteArray := l.map fun r => m ++ roleT r
def Dl.lines (d : Dl) : List ByteArray := lnS mk0 d.gone ++ lnS mk1 d.more ++ lnR mk2 d.ungrow ++ lnR mk3 d.grow ++ lnR mk4 d.unshrink ++ lnR mk5 d.shrink
structure DlAt (w : World) (v0 v1 v2 v3 v4 v5 : Value) (d : Dl) : Prop where
  a0 : SlA w 9 v0 d.more.length (d.more.flatMap St.cells)
  a1 : SlA w 9 v1 d.gone.length (d.gone.flatMap St.cells)
  a2 : SlA w 2 v2 d.grow.length (d.grow.flatMap Rl.cells)
  a3 : SlA w 2 v3 d.ungrow.length (d.ungrow.flatMap Rl.cells)
  a4 : SlA w 2 v4 d.shrink.length (d.shrink.flatMap Rl.cells)
  a5 : SlA w 2 v5 d.unshrink.length (d.unshrink.flatMap Rl.cells)
theorem DlAt.below {w w' : World} {v0 v1 v2 v3 v4 v5 : Value} {d : Dl} (h : DlAt w v0 v1 v2 v3 v4 v5 d) (hb : Below w.heap.size w w') : DlAt w' v0 v1 v2 v3 v4 v5 d :=
  ⟨h.a0.below hb, h.a1.below hb, h.a2.below hb, h.a3.below hb, h.a4.below hb, h.a5.below hb⟩
abbrev dv (v0 v1 v2 v3 v4 v5 : Value) : Value := .agg #[v0, v1, v2, v3, v4, v5]
def DlV (w : World) (v : Value) (d : Dl) : Prop := ∃ v0 v1 v2 v3 v4 v5, v = dv v0 v1 v2 v3 v4 v5 ∧ DlAt w v0 v1 v2 v3 v4 v5 d
structure Dl.le (d : Dl) (n m : Nat) : Prop where
  n0 : d.more.length ≤ n
  n1 : d.gone.length ≤ n
  n2 : d.grow.length ≤ n
  n3 : d.ungrow.length ≤ n
  n4 : d.shrink.length ≤ n
  n5 : d.unshrink.length ≤ n
  t0 : allLe d.more m
  t1 : allLe d.gone m
  t2 : ∀ x ∈ d.grow, x.le m
  t3 : ∀ x ∈ d.ungrow, x.le m
  t4 : ∀ x ∈ d.shrink, x.le m
  t5 : ∀ x ∈ d.unshrink, x.le m
end Go.Proofs.YtomhekohcadijaaGreatDoor
namespace Go.Proofs.YtomhekohcadijaaGreatDoor
open Go.RowKit Go.Shelf

set_option maxHeartbeats 1000000 in
theorem delta_without1 (c : Nat) (vb : Value) (m : List Rl) (x : Rl) (w : World) (hc : w.cell? ⟨c, 0, none⟩ = some vb) (hb : SlA w 2 vb m.length (m.flatMap Rl.cells)) :
    Calls Tryz.prog 152 #[rv x, .pointer (some ⟨c, 0, none⟩)] w fun e w' => e = .returned (.bool (hasR m x)) ∧ Below w.heap.size w w' := by
  have H := Lib.hid (fun W h => policy_Has vb m x W h)
  have HB := Lib.hid hb
  have hlt : c < w.heap.size := World.block_lt_of_cell? w _ hc
  generalize hasR m x = r at H ⊢
  obtain ⟨bo, bc, hvb⟩ := hb.form
  subst hvb
  obtain ⟨x1, x2⟩ := x
  clear hb
  go_enter Tryz.func152, Tryz.ntmps152
  go_wp2_with fail
  refine (H.out _ (HB.out.below ((Below.refl _ _).alloc (Nat.le_refl _) _))).mono ?_
  rintro e w1 ⟨rfl, hb1⟩
  have HB1 := Lib.hid (((Below.refl _ w).alloc (Nat.le_refl _) _).trans (hb1.mono (by simp)) : Below w.heap.size w w1)
  clear hb1
  go_wp2
  go_ret
  exact ⟨rfl, HB1.out⟩
theorem below_of_grown {w a b : World} {g : Nat} (h : Below w.heap.size w a) (hg : w.heap.size ≤ g) (hr : a.grownBy b (some g)) : Below w.heap.size w b :=
  h.grown hr h.size (by rintro k ⟨⟩; exact hg)
set_option maxHeartbeats 2000000 in
theorem delta_without (va vb : Value) (l m : List Rl) (w : World) (ha : SlA w 2 va l.length (l.flatMap Rl.cells)) (hb : SlA w 2 vb m.length (m.flatMap Rl.cells)) (hl : l.length ≤ 1000) :
    Calls Tryz.prog 104 #[va, vb] w fun e w' => ∃ v, e = .returned v ∧ Sl w' 2 v (outR l m).length ((outR l m).flatMap Rl.cells) ∧ Below w.heap.size w w' := by
  have hmax : maxLen = 9223372036854775807 := by decide
  have eg : ∀ args w, (callFunc 152 args).run Tryz.prog w = .ok (.enter 152 args) w := enters_of Tryz.func152 (by kernel_rfl) rfl
  have hw : Below w.heap.size w (w.alloc (.cells #[vb] 23)) := (Below.refl _ _).alloc (Nat.le_refl _) _
  have SO := Lib.hid (pol_SortRoles va l (w.alloc (.cells #[vb] 23)) (ha.below hw) hl)
  have BK := Lib.hid (Blk.new w #[vb] 23)
  have HBM := Lib.hid (hb.below hw)
  have HW := Lib.hid hw
  have HL := Lib.hid (ord_lenR l)
  change Hid (Calls Tryz.prog 127 _ _ fun e w' => ∃ v, e = .returned v ∧ OwnR _ w' v (ordR l) ∧ Below _ _ w') at SO
  have DF := Lib.hid (fun W b cap (h0 : w.heap.size < W.heap.size) (hlow : Below (w.alloc (.cells #[vb] 23)).heap.size (w.alloc (.cells #[vb] 23)) W) (hne : (w.alloc (.cells #[vb] 23)).heap.size ≤ b) (hc : (ordR l).length ≤ cap) (hcm : cap ≤ 9223372036854775807) (hbs : b < W.heap.size) hx hf =>
    rl_DeleteFunc b 0 cap (ordR l) W (Nat.le_trans HL.out hl) hc hcm hbs hx hf 152 #[.pointer (some ⟨w.heap.size, 0, none⟩)] (hasR m) eg (fun x V hV => by
      have hlo : Below (w.alloc (.cells #[vb] 23)).heap.size (w.alloc (.cells #[vb] 23)) V := hlow.grown hV hlow.size (by rintro k ⟨⟩; exact hne)
      exact delta_without1 w.heap.size vb m x V (((BK.out.below hlo).1 0).trans rfl) (HBM.out.below hlo)))
  have DN := Lib.hid (fun W (h0 : ordR l = []) (hlow : Below (w.alloc (.cells #[vb] 23)).heap.size (w.alloc (.cells #[vb] 23)) W) =>
    rl_DeleteNil W 152 #[.pointer (some ⟨w.heap.size, 0, none⟩)] eg)
  have FL := Lib.hid (show (ordR l).filter (fun x => !hasR m x) = outR l m from rfl)
  have FN := Lib.hid (fun (h0 : ordR l = []) => show outR l m = [] by unfold outR; rw [h0]; rfl)
  obtain ⟨ao, ac, hva⟩ := ha.form
  obtain ⟨bo, bc, hvb⟩ := hb.form
  subst hva hvb
  clear ha hb hw eg
  go_enter Tryz.func104, Tryz.ntmps104
  go_wp2_with fail
  refine SO.out.mono ?_
  rintro e w1 ⟨v, rfl, ho, hb1⟩
  have HB1 := Lib.hid hb1
  have HW1 := Lib.hid (HW.out.trans (hb1.mono HW.out.size))
  have hz1 : w.heap.size < w1.heap.size := Nat.lt_of_lt_of_le (by simp) hb1.size
  rcases ho with ⟨rfl, h0⟩ | ⟨g, cap, rfl, h1, h2, h3, h4, h5, h6⟩
  · have D := Lib.hid (DN.out w1 h0 HB1.out)
    have F := Lib.hid (FN.out h0)
    clear hb1 h0 DN DF SO FN FL
    go_wp2_with fail
    refine D.out.mono ?_
    rintro e w2 ⟨rfl, hb2⟩
    have HB2 := Lib.hid (HW1.out.trans (hb2.mono HW1.out.size))
    clear hb2
    go_wp2
    go_ret
    exact ⟨_, rfl, by rw [F.out]; exact Sl.nil _ _, HB2.out⟩
  · have D := Lib.hid (DF.out w1 g cap hz1 HB1.out h1 h3 h4 h2 h5 h6)
    have hwg : w.heap.size ≤ g := Nat.le_trans (by simp) h1
    have LX := Lib.hid (Nat.le_trans (show (outR l m).length ≤ (ordR l).length from List.length_filter_le _ _) h3)
    rw [FL.out] at D
    clear hb1 DN DF SO FN FL h5 h6
    generalize ordR l = ol at *
    go_wp2_with fail
    refine D.out.mono ?_
    rintro e w2 ⟨rfl, hx, hg2⟩
    have HX := Lib.hid hx
    have HG := Lib.hid hg2
    clear hx hg2
    go_wp2
    go_ret
    exact ⟨_, rfl, ⟨flat_len _ _ Rl.cells_len _, by have := LX.out; omega, .inr ⟨g, 0, cap, rfl, LX.out, by omega, Nat.lt_of_lt_of_le h2 HG.out.size, HX.out⟩⟩, below_of_grown HW1.out hwg HG.out⟩
def Dl.none (d : Dl) : Bool := decide (d.more.length + d.gone.length + d.grow.length + d.ungrow.length + d.shrink.length + d.unshrink.length = 0)
set_option maxHeartbeats 1000000 in
theorem delta_Empty (v0 v1 v2 v3 v4 v5 : Value) (d : Dl) (n m : Nat) (w : World) (h : DlAt w v0 v1 v2 v3 v4 v5 d) (hd : d.le 1000 m) :
    Calls Tryz.prog 19 #[dv v0 v1 v2 v3 v4 v5] w fun e w' => e = .returned (.bool d.none) ∧ Below w.heap.size w w' := by
  obtain ⟨a0, c0, rfl⟩ := h.a0.form
  obtain ⟨a1, c1, rfl⟩ := h.a1.form
  obtain ⟨a2, c2, rfl⟩ := h.a2.form
  obtain ⟨a3, c3, rfl⟩ := h.a3.form
  obtain ⟨a4, c4, rfl⟩ := h.a4.form
  obtain ⟨a5, c5, rfl⟩ := h.a5.form
  obtain ⟨n0, n1, n2, n3, n4, n5, _, _, _, _, _, _⟩ := hd
  have R : Hid (((((((d.more.length : Int) + d.gone.length) + d.grow.length) + d.ungrow.length) + d.shrink.length) + d.unshrink.length == 0) = d.none) := Lib.hid (by
    unfold Dl.none
    rw [Bool.eq_iff_iff, beq_iff_eq, decide_eq_true_iff]
    omega)
  generalize d.none = r at R ⊢
  generalize d.more.length = l0 at *
  generalize d.gone.length = l1 at *
  generalize d.grow.length = l2 at *
  generalize d.ungrow.length = l3 at *
  generalize d.shrink.length = l4 at *
  generalize d.unshrink.length = l5 at *
  have e1 : IntKind.i64.wrap ((l0 : Int) + l1) = l0 + l1 := Go.IntWalk.i64_in _ (by omega)
  have e2 : IntKind.i64.wrap ((l0 : Int) + l1 + l2) = l0 + l1 + l2 := Go.IntWalk.i64_in _ (by omega)
  have e3 : IntKind.i64.wrap ((l0 : Int) + l1 + l2 + l3) = l0 + l1 + l2 + l3 := Go.IntWalk.i64_in _ (by omega)
  have e4 : IntKind.i64.wrap ((l0 : Int) + l1 + l2 + l3 + l4) = l0 + l1 + l2 + l3 + l4 := Go.IntWalk.i64_in _ (by omega)
  have e5 : IntKind.i64.wrap ((l0 : Int) + l1 + l2 + l3 + l4 + l5) = l0 + l1 + l2 + l3 + l4 + l5 := Go.IntWalk.i64_in _ (by omega)
  clear h
  go_enter Tryz.func19, Tryz.ntmps19
  go_wp2
  go_ret
  exact ⟨by rw [← R.out]; rfl, (Below.refl _ _).alloc (Nat.le_refl _) _⟩
def Dl.eqv (a b : Dl) : Bool := decide (a.more = b.more) && decide (a.gone = b.gone) && (decide (a.grow = b.grow) && decide (a.ungrow = b.ungrow)) && decide (a.shrink = b.shrink) && decide (a.unshrink = b.unshrink)
theorem Dl.eqv_self (a : Dl) : a.eqv a = true := by unfold Dl.eqv; simp
end Go.Proofs.YtomhekohcadijaaGreatDoor
namespace Go.Proofs.YtomhekohcadijaaGreatDoor
open Go.RowKit Go.Shelf

structure TwoAt (w : World) (A B : Array Value) (wx : World) : Prop where
  a : Blk wx w.heap.size A
  b : Blk wx (w.heap.size + 1) B
  low : Below w.heap.size w wx
theorem TwoAt.later {w wx w' : World} {A B : Array Value} (h : TwoAt w A B wx) (hb : Below wx.heap.size wx w') : TwoAt w A B w' := ⟨h.a.below hb, h.b.below hb, h.low.trans (hb.mono h.low.size)⟩
theorem TwoAt.alloc {w wx : World} {A B : Array Value} (h : TwoAt w A B wx) (o : Obj) : TwoAt w A B (wx.alloc o) := h.later ((Below.refl _ _).alloc (Nat.le_refl _) o)
theorem TwoAt.drew {w wx : World} {A B : Array Value} (h : TwoAt w A B wx) : TwoAt w A B wx.drew := h.later (below_drew (Below.refl _ _))
end Go.Proofs.YtomhekohcadijaaGreatDoor
namespace Go.Proofs.YtomhekohcadijaaGreatDoor
open Go.RowKit Go.Shelf

theorem TwoAt.new (w : World) (A B : Array Value) (t u : TypeId) : TwoAt w A B ((w.alloc (.cells A t)).alloc (.cells B u)) :=
  ⟨(Blk.new w A t).alloc _, by have := Blk.new (w.alloc (.cells A t)) B u; simpa using this, ((Below.refl _ _).alloc (Nat.le_refl _) _).alloc (by simp) _⟩
set_option maxRecDepth 100000 in
set_option maxHeartbeats 8000000 in
theorem ref32_Same (va0 va1 va2 va3 va4 va5 vb0 vb1 vb2 vb3 vb4 vb5 : Value) (c d : Dl) (w : World) (hc : DlAt w va0 va1 va2 va3 va4 va5 c) (hd : DlAt w vb0 vb1 vb2 vb3 vb4 vb5 d) :
    Calls Tryz.prog 22 #[dv va0 va1 va2 va3 va4 va5, dv vb0 vb1 vb2 vb3 vb4 vb5] w fun e w' => e = .returned (.bool (c.eqv d)) ∧ Below w.heap.size w w' := by
  have C0 := Lib.hid (fun W (hb : Below w.heap.size w W) => ref3_SameB va0 vb0 c.more d.more W (hc.a0.below hb) (hd.a0.below hb))
  have C1 := Lib.hid (fun W (hb : Below w.heap.size w W) => ref3_SameB va1 vb1 c.gone d.gone W (hc.a1.below hb) (hd.a1.below hb))
  have C2 := Lib.hid (fun W (hb : Below w.heap.size w W) => ref3_SameRolesE va2 vb2 c.grow d.grow W (hc.a2.below hb) (hd.a2.below hb))
  have C3 := Lib.hid (fun W (hb : Below w.heap.size w W) => ref3_SameRolesE va3 vb3 c.ungrow d.ungrow W (hc.a3.below hb) (hd.a3.below hb))
  have C4 := Lib.hid (fun W (hb : Below w.heap.size w W) => ref3_SameRolesE va4 vb4 c.shrink d.shrink W (hc.a4.below hb) (hd.a4.below hb))
  have C5 := Lib.hid (fun W (hb : Below w.heap.size w W) => ref3_SameRolesE va5 vb5 c.unshrink d.unshrink W (hc.a5.below hb) (hd.a5.below hb))
  have E := Lib.hid (show c.eqv d = (decide (c.more = d.more) && decide (c.gone = d.gone) && (decide (c.grow = d.grow) && decide (c.ungrow = d.ungrow)) && decide (c.shrink = d.shrink) && decide (c.unshrink = d.unshrink)) from rfl)
  generalize decide (c.more = d.more) = r0 at C0 E
  generalize decide (c.gone = d.gone) = r1 at C1 E
  generalize decide (c.grow = d.grow) = r2 at C2 E
  generalize decide (c.ungrow = d.ungrow) = r3 at C3 E
  generalize decide (c.shrink = d.shrink) = r4 at C4 E
  generalize decide (c.unshrink = d.unshrink) = r5 at C5 E
  generalize c.eqv d = rr at E ⊢
  obtain ⟨a0, c0, rfl⟩ := hc.a0.form
  obtain ⟨b0, d0, rfl⟩ := hd.a0.form
  obtain ⟨a1, c1, rfl⟩ := hc.a1.form
  obtain ⟨b1, d1, rfl⟩ := hd.a1.form
  obtain ⟨a2, c2, rfl⟩ := hc.a2.form
  obtain ⟨b2, d2, rfl⟩ := hd.a2.form
  obtain ⟨a3, c3, rfl⟩ := hc.a3.form
  obtain ⟨b3, d3, rfl⟩ := hd.a3.form
  obtain ⟨a4, c4, rfl⟩ := hc.a4.form
  obtain ⟨b4, d4, rfl⟩ := hd.a4.form
  obtain ⟨a5, c5, rfl⟩ := hc.a5.form
  obtain ⟨b5, d5, rfl⟩ := hd.a5.form
  have HT := Lib.hid (TwoAt.new w #[.slice a0 c.more.length c0, .slice a1 c.gone.length c1, .slice a2 c.grow.length c2, .slice a3 c.ungrow.length c3, .slice a4 c.shrink.length c4, .slice a5 c.unshrink.length c5] #[.slice b0 d.more.length d0, .slice b1 d.gone.length d1, .slice b2 d.grow.length d2, .slice b3 d.ungrow.length d3, .slice b4 d.shrink.length d4, .slice b5 d.unshrink.length d5] 35 35)
  clear hc hd
  go_enter Tryz.func22, Tryz.ntmps22
  go_wp2_with fail
  refine (C0.out _ HT.out.low).mono ?_
  rintro e w0 ⟨rfl, hb⟩
  have HT := Lib.hid (HT.out.later hb)
  clear hb
  cases r0 with
  | false =>
    go_wp2_with fail
    go_ret
    exact ⟨by rw [E.out]; rfl, HT.out.low⟩
  | true =>
    obtain ⟨ca, fa, za⟩ := HT.out.a
    obtain ⟨cb, fb, zb⟩ := HT.out.b
    go_wp2_with fail
    refine (C1.out _ HT.out.low).mono ?_
    rintro e w1 ⟨rfl, hb⟩
    have HT := Lib.hid (HT.out.later hb)
    clear hb ca fa za cb fb zb
    cases r1 with
    | false =>
      go_wp2_with fail
      go_ret
      exact ⟨by rw [E.out]; rfl, HT.out.low⟩
    | true =>
      obtain ⟨ca, fa, za⟩ := HT.out.a
      obtain ⟨cb, fb, zb⟩ := HT.out.b
      go_wp2_with fail
      refine (C2.out _ HT.out.low).mono ?_
      rintro e w2 ⟨rfl, hb⟩
      have HT := Lib.hid (HT.out.later hb)
      clear hb ca fa za cb fb zb
      cases r2 with
      | false =>
        go_wp2_with fail
        go_ret
        exact ⟨by rw [E.out]; rfl, HT.out.low⟩
      | true =>
        obtain ⟨ca, fa, za⟩ := HT.out.a
        obtain ⟨cb, fb, zb⟩ := HT.out.b
        go_wp2_with fail
        refine (C3.out _ HT.out.low).mono ?_
        rintro e w3 ⟨rfl, hb⟩
        have HT := Lib.hid (HT.out.later hb)
        clear hb ca fa za cb fb zb
        cases r3 with
        | false =>
          go_wp2_with fail
          go_ret
          exact ⟨by rw [E.out]; rfl, HT.out.low⟩
        | true =>
          obtain ⟨ca, fa, za⟩ := HT.out.a
          obtain ⟨cb, fb, zb⟩ := HT.out.b
          go_wp2_with fail
          refine (C4.out _ HT.out.low).mono ?_
          rintro e w4 ⟨rfl, hb⟩
          have HT := Lib.hid (HT.out.later hb)
          clear hb ca fa za cb fb zb
          cases r4 with
          | false =>
            go_wp2_with fail
            go_ret
            exact ⟨by rw [E.out]; rfl, HT.out.low⟩
          | true =>
            obtain ⟨ca, fa, za⟩ := HT.out.a
            obtain ⟨cb, fb, zb⟩ := HT.out.b
            go_wp2_with fail
            refine (C5.out _ HT.out.low).mono ?_
            rintro e w5 ⟨rfl, hb⟩
            have HT := Lib.hid (HT.out.later hb)
            clear hb ca fa za cb fb zb
            cases r5 with
            | false =>
              go_wp2_with fail
              go_ret
              exact ⟨by rw [E.out]; rfl, HT.out.low⟩
            | true =>
              go_wp2_with fail
              go_ret
              exact ⟨by rw [E.out]; rfl, HT.out.low⟩
end Go.Proofs.YtomhekohcadijaaGreatDoor
namespace Go.Proofs.YtomhekohcadijaaGreatDoor
open Go.RowKit Go.Shelf

theorem flat_snocR (l : List Rl) (x : Rl) : (l ++ [x]).flatMap Rl.cells = l.flatMap Rl.cells ++ x.cells := by simp
set_option maxRecDepth 100000 in
set_option maxHeartbeats 4000000 in
theorem ref32_OutO (va vb : Value) (l0 m : List Rl) (w : World) (ha0 : SlA w 2 va l0.length (l0.flatMap Rl.cells)) (hb0 : SlA w 2 vb m.length (m.flatMap Rl.cells)) (hl0 : l0.length ≤ 1000) :
    Calls Tryz.prog 64 #[va, vb] w fun e w' => ∃ v base, e = .returned v ∧ w.heap.size ≤ base ∧ base ≤ w'.heap.size ∧ w'.ownsRow base 78 2 v ((ordR l0).filter fun x => !hasR m x).length (((ordR l0).filter fun x => !hasR m x).flatMap Rl.cells) ∧ Below w.heap.size w w' := by
  have RS := Lib.hid (ref5_Sort va l0 w ha0 hl0)
  have hlen := ord_lenR l0
  have HBM := Lib.hid hb0
  obtain ⟨bo, bc, hvb⟩ := hb0.form
  subst hvb
  have RH := Lib.hid (fun x W h => ref5_Has (.slice bo m.length bc) m x W h)
  obtain ⟨a0, ac0, hva⟩ := ha0.form
  subst hva
  change Hid (Calls Tryz.prog 18 _ w fun e w' => ∃ v, e = .returned v ∧ Sl w' 2 v (ordR l0).length ((ordR l0).flatMap Rl.cells) ∧ Below w.heap.size w w') at RS
  generalize ordR l0 = l at RS hlen ⊢
  generalize hp : (fun x => !hasR m x) = p
  have PE := Lib.hid (show ∀ x, p x = !hasR m x from fun x => by rw [← hp])
  clear ha0 hb0 hp
  go_enter Tryz.func64, Tryz.ntmps64
  go_wp2_with fail
  refine RS.out.mono ?_
  rintro e w1 ⟨va, rfl, hs1, hb1⟩
  have HA := Lib.hid hs1
  have HB0 := Lib.hid hb1
  have HBM := Lib.hid (HBM.out.below hb1)
  have hmax := hs1.max
  obtain ⟨ao, cap, hva⟩ := hs1.form
  subst hva
  clear hs1 hb1
  go_wp2_with fail
  go_loopw [5, 11] (fun vo i wr => ∃ k : Nat, k ≤ l.length ∧ i = .int .i64 k ∧ Hid (Below w1.heap.size w1 wr) ∧ Hid (wr.ownsRow w1.heap.size 78 2 vo ((l.take k).filter p).length (((l.take k).filter p).flatMap Rl.cells))) (fun _ i _ => l.length - (intOf i).toNat)
  case atStart => exact ⟨0, by omega, rfl, Lib.hid (Below.refl _ _), Lib.hid (World.ownsRow_nil _ _ _ _)⟩
  case round =>
    obtain ⟨k, hk, rfl, HB, HO⟩ := hrel
    obtain ⟨oo, oc, rfl⟩ := own_form HO.out
    by_cases hlt : k < l.length
    · obtain ⟨b1, o1, c1, he1, hc1, hm1, hb1, hx1⟩ := HA.out.pos (by omega)
      simp only [Value.slice.injEq, true_and] at he1
      obtain ⟨rfl, rfl⟩ := he1
      obtain ⟨p0, p1⟩ := rl_cell (w := wr) (fun j u hu => (HB.out.cell (p := ⟨b1, o1 + j, none⟩) hb1).trans (hx1 j u hu)) k hlt
      have hbr : b1 < wr.heap.size := Nat.lt_of_lt_of_le hb1 HB.out.size
      have PC := Lib.hid (fun W h => RH.out l[k] W h)
      have PX := Lib.hid (PE.out l[k])
      have FY := Lib.hid (fun h => filter_yesR (p := p) hlt h)
      have FN := Lib.hid (fun h => filter_noR (p := p) hlt h)
      have hlk : ((l.take k).filter p).length ≤ l.length := Nat.le_trans (List.length_filter_le _ _) (by simp; omega)
      generalize l[k] = x at *
      obtain ⟨x1, x2⟩ := x
      rw [PX.out] at FY FN
      generalize hasR m ⟨x1, x2⟩ = px at PC FY FN
      clear PX
      clear hx1
      have HB1 := Lib.hid (HB.out.alloc HB.out.size (.cells #[.string x1, .string x2] 78))
      go_wp2_with fail
      refine (PC.out _ (HBM.out.below HB1.out)).mono ?_
      rintro e w2 ⟨rfl, hb2⟩
      have HB2 := Lib.hid (HB1.out.trans (hb2.mono HB1.out.size))
      have HBK := Lib.hid (keep1 hb2)
      have HO2 := Lib.hid (own_below (own_below HO.out ((Below.refl _ _).alloc (Nat.le_refl _) _)) hb2)
      obtain ⟨cx, fx, zx⟩ := HBK.out
      have hz2 := HB2.out.size
      clear hb2
      cases px with
      | true =>
        have e := Lib.hid (FN.out rfl)
        clear FY FN
        go_wp2_with fail
        exact ⟨⟨k + 1, by omega, by go_num, HB2, Lib.hid (by rw [e.out]; exact HO2.out)⟩, by simp [intOf]; omega⟩
      | false =>
        have e := Lib.hid (FY.out rfl)
        clear FY FN
        have hown := HO2.out
        go_wp2_with (at_builtin; refine halt_ ?_)
        unfold Halt_
        refine app_own Tryz.underlying23 rl_info' rfl (by decide) (by decide) rfl _ _ rfl w1.heap.size rfl (hown.alloc _) [.string x1, .string x2] rfl (heap_new1 _ _) rfl (rlc_one ⟨x1, x2⟩) ?_ ?_ ?_
        · omega
        · simp; omega
        intro a' cap' w3 hown' hgrow
        have HO3 := Lib.hid (show w3.ownsRow w1.heap.size 78 2 _ (((l.take (k + 1)).filter p).length) (((l.take (k + 1)).filter p).flatMap Rl.cells) by rw [e.out, flat_snocR, List.length_append]; exact hown')
        have HB3 := Lib.hid (below_own (HB2.out.alloc HB2.out.size (.cells #[.string x1, .string x2] 78)) (hown.alloc _) hgrow (by simp; omega) (Nat.le_refl _))
        clear hown' hgrow hown
        go_wp2_with fail
        refine ⟨⟨k + 1, by omega, by go_num, HB3, ?_⟩, by simp [intOf]; omega⟩
        rw [e.out, List.length_append] at HO3
        rw [e.out, List.length_append]
        exact HO3
    · have e := Lib.hid (show l.take k = l by rw [List.take_of_length_le (by omega)])
      go_wp2_with fail
      go_ret
      exact ⟨_, w1.heap.size, rfl, HB0.out.size, HB.out.size, by have := HO.out; rw [e.out] at this ⊢; exact this, HB0.out.trans (HB.out.mono HB0.out.size)⟩
theorem ref32_Out (va vb : Value) (l0 m : List Rl) (w : World) (ha0 : SlA w 2 va l0.length (l0.flatMap Rl.cells)) (hb0 : SlA w 2 vb m.length (m.flatMap Rl.cells)) (hl0 : l0.length ≤ 1000) :
    Calls Tryz.prog 64 #[va, vb] w fun e w' => ∃ v, e = .returned v ∧ Sl w' 2 v ((ordR l0).filter fun x => !hasR m x).length (((ordR l0).filter fun x => !hasR m x).flatMap Rl.cells) ∧ Below w.heap.size w w' :=
  (ref32_OutO va vb l0 m w ha0 hb0 hl0).mono fun _ _ ⟨v, _, he, _, _, ho, hb⟩ => ⟨v, he, Sl.of_own ho, hb⟩
theorem ref32_out (va vb : Value) (l m : List Rl) (w : World) (ha : SlA w 2 va l.length (l.flatMap Rl.cells)) (hb : SlA w 2 vb m.length (m.flatMap Rl.cells)) (hl : l.length ≤ 1000) :
    Calls Tryz.prog 64 #[va, vb] w fun e w' => ∃ v, e = .returned v ∧ Sl w' 2 v (outR l m).length ((outR l m).flatMap Rl.cells) ∧ Below w.heap.size w w' := ref32_Out va vb l m w ha hb hl
end Go.Proofs.YtomhekohcadijaaGreatDoor
namespace Go.Proofs.YtomhekohcadijaaGreatDoor
open Go.RowKit Go.Shelf

section
variable {α : Type} {l : List α} {p : α → Bool}
end

def stays (h : List Rl) (m : List St) (s : St) : Bool := hasR h s.h && !hasS m s
end Go.Proofs.YtomhekohcadijaaGreatDoor
namespace Go.Proofs.YtomhekohcadijaaGreatDoor
open Go.RowKit Go.Shelf

end Go.Proofs.YtomhekohcadijaaGreatDoor
namespace Go.Proofs.YtomhekohcadijaaGreatDoor
open Go.RowKit Go.Shelf

end Go.Proofs.YtomhekohcadijaaGreatDoor
namespace Go.Proofs.YtomhekohcadijaaGreatDoor
open Go.RowKit Go.Shelf

theorem ref10_OfM (va vb : Value) (l m : List St) (w : World) (ha : SlA w 9 va l.length (l.flatMap St.cells)) (hb : SlA w 9 vb m.length (m.flatMap St.cells)) (hl : l.length ≤ 1000) :
    Calls Tryz.prog 63 #[va, vb, .bool false] w fun e w' => ∃ v, e = .returned v ∧ Sl w' 9 v (minusS l m).length ((minusS l m).flatMap St.cells) ∧ Below w.heap.size w w' := by
  have h := ref10_Of va vb l m w ha hb hl
  rw [← ord_filter] at h
  exact h
end Go.Proofs.YtomhekohcadijaaGreatDoor
namespace Go.Proofs.YtomhekohcadijaaGreatDoor
open Go.RowKit Go.Shelf

def nthOp : List Oper → Nat → Option Oper
  | [], _ => none
  | o :: _, 0 => some o
  | _ :: r, n + 1 => nthOp r n
theorem nthOp_get : ∀ (l : List Oper) (i : Nat), l.toArray[i]? = nthOp l i
  | [], i => by simp [nthOp]
  | o :: r, 0 => by simp [nthOp]
  | o :: r, n + 1 => by have := nthOp_get r n; simpa [nthOp] using this

theorem held_yes {P : Program} {md : Region.Mode} {S : World → Prop} {Q : Exit → Act → World → Prop} {fuel : Nat} {listed : Array Bool} {a : Act} {w : World} {v : Value} {oi : Oper} {l : List Oper} (i : Nat) (hi : nthOp l i = some oi)
    (hs : Region.noSelect l.toArray = true) (hf : Region.free md l.toArray listed i = true) (hr : (Region.ready md l.toArray listed).contains i = true)
    (hQ : ∀ c a w, Q (.panic c) (a.put oi.dst v) w → Q (.panic c) a w) (hw : Region.wanted oi (yielded l.toArray a.tmps) = true) (hS : S w) (hy : ∀ w, S w → (execOp a.eval oi).run P w = .ok (.value v) w)
    (h : wpAnyH P md l.toArray Q S fuel (listed.setIfInBounds i true) (a.put oi.dst v) w) : wpAnyH P md l.toArray Q S (fuel + 1) listed a w :=
  wpAnyH_take (by rw [nthOp_get]; exact hi) hs hf hr hQ (Or.inl ⟨hw, hy⟩) hS h

theorem held_no {P : Program} {md : Region.Mode} {S : World → Prop} {Q : Exit → Act → World → Prop} {fuel : Nat} {listed : Array Bool} {a : Act} {w : World} {oi : Oper} {l : List Oper} (i : Nat) (hi : nthOp l i = some oi)
    (hs : Region.noSelect l.toArray = true) (hf : Region.free md l.toArray listed i = true) (hr : (Region.ready md l.toArray listed).contains i = true)
    (hQ : ∀ c a w, Q (.panic c) (a.put oi.dst undef) w → Q (.panic c) a w) (hw : Region.wanted oi (yielded l.toArray a.tmps) = false) (hS : S w)
    (h : wpAnyH P md l.toArray Q S fuel (listed.setIfInBounds i true) (a.put oi.dst undef) w) : wpAnyH P md l.toArray Q S (fuel + 1) listed a w :=
  wpAnyH_take (by rw [nthOp_get]; exact hi) hs hf hr hQ (Or.inr ⟨hw, rfl⟩) hS h

theorem held_call {P : Program} {md : Region.Mode} {S : World → Prop} {Q : Exit → Act → World → Prop} {fuel : Nat} {listed : Array Bool} {a : Act} {w : World} {oi : Oper} {l : List Oper} (i : Nat) (hi : nthOp l i = some oi)
    (hr : Region.ready md l.toArray listed = [i])
    (h : ∀ K' : Act → World → Prop, Shut (∀ a w, S w → (S w → wpAnyH P md l.toArray Q S fuel (listed.setIfInBounds i true) a w) → K' a w) → if Region.wanted oi (yielded l.toArray a.tmps) = true then Oper.wp P oi a w K' Q else K' (a.put oi.dst undef) w) :
    wpAnyH P md l.toArray Q S (fuel + 1) listed a w :=
  wpAnyH_ready hr (by simp) (AllReadyH.cons (by rw [nthOp_get]; exact hi) h AllReadyH.nil)
theorem hyes {P : Program} {md : Region.Mode} {S : World → Prop} {Q : Exit → Act → World → Prop} {fuel : Nat} {listed : Array Bool} {a a' : Act} {w : World} {v : Value} {oi : Oper} {l : List Oper} (i : Nat)
    (h : wpAnyH P md l.toArray Q S fuel (listed.setIfInBounds i true) a' w) (hi : nthOp l i = some oi := by rfl) (hy : ∀ w, S w → (execOp a.eval oi).run P w = .ok (.value v) w := by (intro w hSw; (try dsimp only at hSw); go_simp; (try with_reducible rfl)))
    (ha : a.put oi.dst v = a' := by (simp only [Act.put, List.setIfInBounds_toArray, List.set]; exact rfl)) (hs : Region.noSelect l.toArray = true := by kernel_rfl) (hf : Region.free md l.toArray listed i = true := by kernel_rfl) (hr : (Region.ready md l.toArray listed).contains i = true := by kernel_rfl)
    (hQ : ∀ c a w, Q (.panic c) (a.put oi.dst v) w → Q (.panic c) a w := by exact fun _ _ _ h => h) (hw : Region.wanted oi (yielded l.toArray a.tmps) = true := by rfl) (hS : S w := by assumption) : wpAnyH P md l.toArray Q S (fuel + 1) listed a w := by
  subst ha
  exact held_yes i hi hs hf hr hQ hw hS hy h
theorem hno {P : Program} {md : Region.Mode} {S : World → Prop} {Q : Exit → Act → World → Prop} {fuel : Nat} {listed : Array Bool} {a a' : Act} {w : World} {oi : Oper} {l : List Oper} (i : Nat)
    (h : wpAnyH P md l.toArray Q S fuel (listed.setIfInBounds i true) a' w) (hi : nthOp l i = some oi := by rfl)
    (ha : a.put oi.dst undef = a' := by (simp only [Act.put, List.setIfInBounds_toArray, List.set]; exact rfl)) (hs : Region.noSelect l.toArray = true := by kernel_rfl) (hf : Region.free md l.toArray listed i = true := by kernel_rfl) (hr : (Region.ready md l.toArray listed).contains i = true := by kernel_rfl)
    (hQ : ∀ c a w, Q (.panic c) (a.put oi.dst undef) w → Q (.panic c) a w := by exact fun _ _ _ h => h) (hw : Region.wanted oi (yielded l.toArray a.tmps) = false := by rfl) (hS : S w := by assumption) : wpAnyH P md l.toArray Q S (fuel + 1) listed a w := by
  subst ha
  exact held_no i hi hs hf hr hQ hw hS h
end Go.Proofs.YtomhekohcadijaaGreatDoor
namespace Go.Proofs.YtomhekohcadijaaGreatDoor
open Go.RowKit Go.Shelf

def isSl : Value → Bool
  | .slice .. => true
  | _ => false
def BlkS (w : World) (g n : Nat) : Prop := ∃ cs : Array Value, Blk w g cs ∧ cs.size = n ∧ ∀ c ∈ cs.toList, isSl c = true
theorem cell_far (w : World) (g g' o o' : Nat) (v : Value) (h : ¬ g = g') : (w.setCell ⟨g, o, none⟩ v).cell? ⟨g', o', none⟩ = w.cell? ⟨g', o', none⟩ :=
  World.cell?_setCell_other w ⟨g, o, none⟩ ⟨g', o', none⟩ v (fun e => h (by injection e))
theorem Blk.far {w : World} {g g' o : Nat} {cs : Array Value} {v : Value} (h : Blk w g' cs) (hne : ¬ g = g') : Blk (w.setCell ⟨g, o, none⟩ v) g' cs :=
  ⟨fun o' => (cell_far w g g' o o' v hne).trans (h.1 o'), fun o' => by simpa using h.2.1 o', by simpa using h.2.2⟩
theorem Blk.put {w : World} {g o : Nat} {cs : Array Value} {v : Value} (h : Blk w g cs) (ho : o < cs.size) : Blk (w.setCell ⟨g, o, none⟩ v) g (cs.setIfInBounds o v) := by
  refine ⟨fun i => ?_, fun i => by simpa using h.2.1 i, by simpa using h.2.2⟩
  by_cases e : i = o
  · subst e
    rw [World.cell?_setCell_same (u := cs[i]) _ _ _ (by rw [h.1 i]; exact Array.getElem?_eq_getElem ho)]
    simp [ho]
  · rw [set_far _ _ _ _ _ e, h.1 i, Array.getElem?_setIfInBounds, if_neg (fun h => e h.symm)]
theorem BlkS.put {w : World} {g n o : Nat} {v : Value} (h : BlkS w g n) (ho : o < n) (hv : isSl v = true) : BlkS (w.setCell ⟨g, o, none⟩ v) g n := by
  obtain ⟨cs, hb, rfl, hc⟩ := h
  refine ⟨_, hb.put ho, by simp, fun c hcm => ?_⟩
  rw [Array.toList_setIfInBounds] at hcm
  rcases List.mem_or_eq_of_mem_set hcm with h | rfl
  · exact hc c h
  · exact hv
theorem Sl.set {w : World} {size n g m o : Nat} {v x : Value} {xs : List Value} (h : Sl w size v n xs) (hg : BlkS w g m) (hx : ∀ u ∈ xs, isSl u = false) : Sl (w.setCell ⟨g, o, none⟩ x) size v n xs := by
  obtain ⟨h1, h2, h3⟩ := h
  refine ⟨h1, h2, ?_⟩
  rcases h3 with h3 | ⟨b, off, cap, hv, hc, hm, hb, hcell⟩
  · exact .inl h3
  · refine .inr ⟨b, off, cap, hv, hc, hm, by simpa using hb, fun j u hu => ?_⟩
    by_cases e : g = b
    · subst e
      obtain ⟨cs, hbk, _, hcs⟩ := hg
      have h4 := hcell j u hu
      rw [hbk.1] at h4
      have h5 := hcs u (Array.mem_toList_iff.2 (Array.mem_of_getElem? h4))
      rw [hx u (List.mem_of_getElem? hu)] at h5; cases h5
    · exact (cell_far _ _ _ _ _ _ e).trans (hcell j u hu)
theorem st_noSl (l : List St) : ∀ u ∈ l.flatMap St.cells, isSl u = false := by
  intro u hu
  obtain ⟨x, _, hx⟩ := List.mem_flatMap.1 hu
  simp only [St.cells, List.mem_cons, List.not_mem_nil, or_false] at hx
  rcases hx with rfl | rfl | rfl | rfl | rfl | rfl | rfl | rfl | rfl <;> rfl
theorem rl_noSl (l : List Rl) : ∀ u ∈ l.flatMap Rl.cells, isSl u = false := by
  intro u hu
  obtain ⟨x, _, hx⟩ := List.mem_flatMap.1 hu
  simp only [Rl.cells, List.mem_cons, List.not_mem_nil, or_false] at hx
  rcases hx with rfl | rfl <;> rfl
theorem below_put {n g o : Nat} {w w' : World} {v : Value} (h : Below n w w') (hg : n ≤ g) : Below n w (w'.setCell ⟨g, o, none⟩ v) :=
  ⟨h.os, h.tape, h.output, by simpa [World.setCell] using h.size, fun k hk => (Below.heap_setCell _ _ _ _ (by dsimp only; omega)).trans (h.block k hk)⟩
def puts (w : World) (g : Nat) : Nat → List Value → World
  | _, [] => w
  | o, v :: vs => puts (w.setCell ⟨g, o, none⟩ v) g (o + 1) vs
theorem BlkS.puts {g n : Nat} : ∀ (vs : List Value) (o : Nat) (w : World), BlkS w g n → o + vs.length ≤ n → (∀ v ∈ vs, isSl v = true) → BlkS (puts w g o vs) g n
  | [], _, _, h, _, _ => h
  | v :: vs, o, w, h, ho, hv => by
    rw [List.length_cons] at ho
    exact BlkS.puts vs (o + 1) _ (h.put (by omega) (hv v (by simp))) (by omega) (fun x hx => hv x (by simp [hx]))
theorem Sl.puts {size n g m : Nat} {v : Value} {xs : List Value} (hx : ∀ u ∈ xs, isSl u = false) : ∀ (vs : List Value) (o : Nat) (w : World), Sl w size v n xs → BlkS w g m → o + vs.length ≤ m → (∀ v ∈ vs, isSl v = true) → Sl (puts w g o vs) size v n xs
  | [], _, _, h, _, _, _ => h
  | y :: vs, o, w, h, hg, ho, hv => by
    rw [List.length_cons] at ho
    exact Sl.puts hx vs (o + 1) _ (h.set hg hx) (hg.put (by omega) (hv y (by simp))) (by omega) (fun x hx => hv x (by simp [hx]))
theorem below_puts {n g : Nat} {w0 : World} (hg : n ≤ g) : ∀ (vs : List Value) (o : Nat) (w : World), Below n w0 w → Below n w0 (puts w g o vs)
  | [], _, _, h => h
  | _ :: vs, o, _, h => below_puts hg vs (o + 1) _ (below_put h hg)
theorem Blk.puts_far {g g' : Nat} {cs : Array Value} (hne : ¬ g = g') : ∀ (vs : List Value) (o : Nat) (w : World), Blk w g' cs → Blk (puts w g o vs) g' cs
  | [], _, _, h => h
  | _ :: vs, o, _, h => Blk.puts_far hne vs (o + 1) _ (h.far hne)
end Go.Proofs.YtomhekohcadijaaGreatDoor
