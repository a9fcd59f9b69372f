/- slices.SortFunc, slices.Clone at rows of roles; policy.SortRoles (printed by gen_rlall.py out of SynSort). slices.Equal, Grow and Concat at rows of roles (printed by gen_rlall.py out of StSlices, StUnion). slices.IndexFunc and slices.DeleteFunc at rows of roles. A row of the call's own stands above every lower bound. high.Fresh, prins, Roles, Maximal (printed by gen_highfns.py). high.Eval, Steps, Members (turned out of LowFns by gen_higheval.py). Plain laws: a least relation of statements is a row of pairs; what more statements tell. The statement StateParts: the walk of the law. -/
import Derived.Test.YtnnieegddbcfcaaGreatDoorPart15
import Derived.Test.YtnnieegddbcfcaaGreatDoorPart6
import Derived.Test.YtnnieegddbcfcaaGreatDoorPart5
import Derived.Test.YtnnieegddbcfcaaGreatDoorPart1
import Derived.Test.YtnnieegddbcfcaaGreatDoorPart13
import Derived.Test.YtnnieegddbcfcaaGreatDoorPart8
import Derived.Test.YtnnieegddbcfcaaGreatDoorPart14
namespace Go.Proofs.YtnnieegddbcfcaaGreatDoor
open Go.RowKit Go.Shelf Go.Lib Go.Sort

instance rlInh : Inhabited Rl := ⟨⟨ByteArray.empty, ByteArray.empty⟩⟩
/-- A row of roles of the call's own, that may be turned. -/
def OwnR (w w' : World) (v : Value) (l : List Rl) : Prop :=
  (v = .slice none 0 0 ∧ l = []) ∨ ∃ g cap, v = .slice (some ⟨g, 0, none⟩) l.length cap ∧ w.heap.size ≤ g ∧ g < w'.heap.size ∧ l.length ≤ cap ∧ cap ≤ 9223372036854775807 ∧ (∀ j u, (l.flatMap Rl.cells)[j]? = some u → w'.cell? ⟨g, 0 + j, none⟩ = some u) ∧ ∀ i, w'.frozen? ⟨g, i, none⟩ = false
theorem OwnR.sl {w w' : World} {v : Value} {l : List Rl} (h : OwnR w w' v l) : Sl w' 2 v l.length (l.flatMap Rl.cells) := by
  have hmax : maxLen = 9223372036854775807 := by decide
  rcases h with ⟨rfl, rfl⟩ | ⟨g, cap, rfl, _, h2, h3, h4, h5, _⟩
  · exact Sl.nil _ _
  · exact ⟨flat_len _ _ Rl.cells_len _, by omega, .inr ⟨g, 0, cap, rfl, h3, by omega, h2, h5⟩⟩
theorem rlc_one (s : Rl) : ∀ u ∈ s.cells, u.oneCell' = true := fun u hu => rls_one [s] u (by simpa using hu)
set_option maxHeartbeats 1000000 in
theorem syn_LessG (x y : Rl) (w : World) : Calls Tryz.prog 154 #[rv x, rv y] w fun e w' => e = .returned (.bool (decide (cmpR x y < 0))) ∧ Gr w w' := by
  have O := Lib.hid (fun W => syn_orderG x y W)
  generalize cmpR x y = c at O ⊢
  obtain ⟨a, b⟩ := x
  obtain ⟨c1, d⟩ := y
  go_enter Tryz.func154, Tryz.ntmps154
  go_wp2_with (go_at_call 196; refine (O.out _).mono ?_; rintro e w1 ⟨rfl, hg⟩)
  go_ret
  exact ⟨rfl, (((Gr.refl w).alloc _).alloc _).trans hg⟩
set_option maxHeartbeats 1000000 in
/-- The comparison that policy.SortRoles hands on. -/
theorem pol_Sort1 (s t : Rl) (w : World) : Calls Tryz.prog 153 #[rv s, rv t] w fun e w' => e = .returned (.int .i64 (cmpR s t)) ∧ Gr w w' := by
  have A1 := Lib.hid (fun W => syn_LessG s t W)
  have A2 := Lib.hid (fun W => syn_LessG t s W)
  have E1 := Lib.hid (fun (h : cmpR s t < 0) => show cmpR s t = -1 by have := sgn_rl s t; unfold sgn at this; omega)
  have E2 := Lib.hid (fun (h : cmpR t s < 0) => show cmpR s t = 1 by have := sgn_rl s t; have := wcmp_rl.neg s t; unfold sgn at *; omega)
  have E3 := Lib.hid (fun (h : ¬ cmpR s t < 0) (h' : ¬ cmpR t s < 0) => show cmpR s t = 0 by have := wcmp_rl.neg s t; omega)
  obtain ⟨h1, h2⟩ := s
  obtain ⟨h1', h2'⟩ := t
  have HG := Lib.hid (show Gr w ((w.alloc (.cells #[.string h1, .string h2] 28)).alloc (.cells #[.string h1', .string h2'] 28)) from ((Gr.refl w).alloc _).alloc _)
  generalize cmpR ⟨h1, h2⟩ ⟨h1', h2'⟩ = c at A1 E1 E2 E3 ⊢
  generalize cmpR ⟨h1', h2'⟩ ⟨h1, h2⟩ = d at A2 E2 E3
  go_enter Tryz.func153, Tryz.ntmps153
  go_wp2_with fail
  refine (A1.out _).mono ?_
  rintro e w1 ⟨rfl, hg⟩
  have HG1 := Lib.hid (HG.out.trans hg)
  obtain ⟨⟨ca, fa, za⟩, ⟨cb, fb, zb⟩⟩ := keep2 hg.below
  clear hg
  by_cases hc : c < 0
  · have dc : decide (c < 0) = true := decide_eq_true hc
    have R := Lib.hid (E1.out hc)
    rw [dc]
    clear hc
    go_wp2
    go_ret
    exact ⟨by rw [R.out]; rfl, HG1.out⟩
  · have dc : decide (c < 0) = false := decide_eq_false hc
    have HC := Lib.hid hc
    rw [dc]
    clear hc
    go_wp2_with fail
    refine (A2.out _).mono ?_
    rintro e w2 ⟨rfl, hg⟩
    have HG2 := Lib.hid (HG1.out.trans hg)
    clear hg
    by_cases hd : d < 0
    · have dd : decide (d < 0) = true := decide_eq_true hd
      have R := Lib.hid (E2.out hd)
      rw [dd]
      clear hd
      go_wp2
      go_ret
      exact ⟨by rw [R.out]; rfl, HG2.out⟩
    · have dd : decide (d < 0) = false := decide_eq_false hd
      have R := Lib.hid (E3.out (by have := HC.out; omega) (by omega))
      rw [dd]
      clear hd
      go_wp2
      go_ret
      exact ⟨by rw [R.out]; rfl, HG2.out⟩
theorem swo_stR : SWO (ltOf cmpR) where
  irrefl x := decide_eq_false (lt_irrefl'R x)
  trans x y z h h' := decide_eq_true (lt_trans'R (of_decide_eq_true h) (of_decide_eq_true h'))
  ntrans x y z h h' := by
    have h1 := of_decide_eq_false h
    have h2 := of_decide_eq_false h'
    have n1 := wcmp_rl.neg x y
    have n2 := wcmp_rl.neg y z
    have n3 := wcmp_rl.neg x z
    obtain ⟨a, _⟩ := wcmp_rl.le z y x (by omega) (by omega)
    exact decide_eq_false (by omega)
theorem tot_stR (x y : Rl) (h : ltOf cmpR x y = false) (h' : ltOf cmpR y x = false) : x = y := by
  have h1 := of_decide_eq_false h
  have h2 := of_decide_eq_false h'
  have n1 := wcmp_rl.neg x y
  exact (cmpR_zero x y).1 (by omega)
def sortSR (l : List Rl) : List Rl := l.mergeSort fun x y => !(ltOf cmpR) y x
theorem sort_leR (l : List Rl) : (sortSR l).Pairwise fun x y => cmpR x y ≤ 0 := by
  have h : (sortSR l).Pairwise fun x y => (!(ltOf cmpR) y x) = true := by
    refine List.pairwise_mergeSort ?_ ?_ l
    · intro a b c h1 h2
      simp only [Bool.not_eq_true'] at h1 h2 ⊢
      exact swo_stR.ntrans c b a h2 h1
    · intro a b
      cases h : ltOf cmpR b a with
      | false => simp
      | true => simp [swo_stR.asymmA h]
  refine h.imp fun {x y} h => ?_
  simp only [Bool.not_eq_true'] at h
  have h1 := of_decide_eq_false h
  have n1 := wcmp_rl.neg x y
  omega
theorem dedup_sortR (l : List Rl) : dedupR (sortSR l) = insAllR [] l := by
  refine asc_uniqueR _ _ (dedup_ascR _ (sort_leR l)) (insAll_ascR l [] List.Pairwise.nil) fun z => ?_
  rw [dedup_memR, insAll_memR]
  simp [sortSR]
theorem sort_lenR (l : List Rl) : (sortSR l).length = l.length := by simp [sortSR]
theorem cmpLays_stR (blk off size : Nat) (w : World) : CmpLays Tryz.prog 153 #[] Rl.cells 2 cmpR blk off size w :=
  fun _ _ _ _ x y => (pol_Sort1 x y _).mono fun _ _ ⟨he, hg⟩ => ⟨he, gr_grow hg⟩
theorem flatK_getR (l : List Rl) (j : Nat) (u : Value) (h : (l.flatMap Rl.cells)[j]? = some u) : j < l.length * 2 ∧ (flatK Rl.cells 2 l.toArray)[j]! = u := by
  have hj : j < l.length * 2 := by rw [← flat_len Rl.cells 2 Rl.cells_len l]; exact (List.getElem?_eq_some_iff.1 h).1
  refine ⟨hj, ?_⟩
  have hi : j / 2 < l.length := by omega
  have hf : j % 2 < 2 := Nat.mod_lt _ (by decide)
  rw [get_flatK _ _ _ _ (by simpa using hj)]
  have e : j = j / 2 * 2 + j % 2 := by omega
  have h' := h
  rw [e, flat_get Rl.cells 2 Rl.cells_len l (j / 2) (j % 2) hf _ (List.getElem?_eq_getElem hi)] at h'
  have e1 : l.toArray[j / 2]! = l[j / 2] := by rw [getElem!_pos l.toArray (j / 2) (by simpa using hi)]; simp
  rw [e1, List.getElem!_eq_getElem?_getD, h']
  rfl
theorem holds_stR {w : World} {b o : Nat} {l : List Rl} (hx : ∀ j u, (l.flatMap Rl.cells)[j]? = some u → w.cell? ⟨b, o + j, none⟩ = some u) (hf : ∀ i, w.frozen? ⟨b, i, none⟩ = false) : HoldsK Rl.cells 2 w b o l.toArray := by
  intro j hj
  rw [size_flatK] at hj
  have hj' : j < (l.flatMap Rl.cells).length := by rw [flat_len Rl.cells 2 Rl.cells_len]; simpa using hj
  have hu := List.getElem?_eq_getElem hj'
  refine ⟨?_, hf _⟩
  rw [hx j _ hu, ← (flatK_getR l j _ hu).2]
  rfl
theorem cells_stR {w : World} {b o : Nat} {l : List Rl} (h : HoldsK Rl.cells 2 w b o l.toArray) (j : Nat) (u : Value) (hu : (l.flatMap Rl.cells)[j]? = some u) : w.cell? ⟨b, o + j, none⟩ = some u := by
  obtain ⟨hj, he⟩ := flatK_getR l j u hu
  have := (h j (by rw [size_flatK]; simpa using hj)).1
  rw [he] at this
  exact this
theorem sort_grownR (w : World) (blk off n : Nat) (d : Array Rl) (os : Array Obj) : w.grownBy (sortWorldK Rl.cells 2 w blk off n d os) (some blk) := by
  refine ⟨rfl, rfl, rfl, ?_, fun k hk hne => ?_⟩
  · unfold sortWorldK; rw [Go.Sort.size_grow, size_putRowK]; exact Nat.le_add_right _ _
  · have hkb : ¬ blk = k := fun e => hne (by rw [e])
    show ((w.heap.modify blk _) ++ os)[k]? = w.heap[k]?
    rw [Array.getElem?_append_left (by simpa using hk)]
    simp [Array.getElem?_modify, hkb]
theorem sort_frozenR (w : World) (blk off n : Nat) (d : Array Rl) (os : Array Obj) (hb : blk < w.heap.size) (i : Nat) : (sortWorldK Rl.cells 2 w blk off n d os).frozen? ⟨blk, i, none⟩ = w.frozen? ⟨blk, i, none⟩ := by
  unfold sortWorldK
  rw [Go.Sort.frozen?_grow _ _ _ (by rw [size_putRowK]; exact hb)]
  unfold putRowK
  rw [frozen?_putRow]
  rfl
/-- slices.SortFunc, with policy.SortRoles's comparison. -/
theorem st_SortFuncR (b o cap : Nat) (l : List Rl) (w : World) (hl : l.length ≤ 1000) (hb : b < w.heap.size)
    (hx : ∀ j u, (l.flatMap Rl.cells)[j]? = some u → w.cell? ⟨b, o + j, none⟩ = some u) (hf : ∀ i, w.frozen? ⟨b, i, none⟩ = false) :
    Calls Tryz.prog 152 #[.slice (some ⟨b, o, none⟩) l.length cap, .func (.func 153) #[] #[]] w fun e w' =>
      e = .returned (.tuple #[]) ∧ (∀ j u, ((sortSR l).flatMap Rl.cells)[j]? = some u → w'.cell? ⟨b, o + j, none⟩ = some u) ∧ (∀ i, w'.frozen? ⟨b, i, none⟩ = false) ∧ w.grownBy w' (some b) := by
  have eg : ∀ args w, (callFunc 153 args).run Tryz.prog w = .ok (.enter 153 args) w := enters_of Tryz.func153 (by kernel_rfl) rfl
  have hH := holds_stR hx hf
  have h := AnyQ.slices_SortFunc_total (α := Rl) Tryz.sortR 2 Tryz.isAgg28 Tryz.sizeOf28 Rl.cells Rl.cells_len rlc_one cmpR swo_stR 153 #[] b o cap l.toArray w eg (cmpLays_stR b o _ w) hH hb (by simp; omega) tot_stR
  have hs : l.toArray.size = l.length := by simp
  rw [hs] at h
  refine h.mono ?_
  rintro e w' ⟨he, n, os, rfl⟩
  refine ⟨he, ?_, fun i => (sort_frozenR w b o n _ os hb i).trans (hf i), sort_grownR w b o n _ os⟩
  exact cells_stR (holdsK_sortWorldK_c Rl.cells 2 w b o l.toArray _ n os hH hb (by simp))
theorem st_SortFunc_noneR (p : Option Addr) (cap : Nat) (fv : Value) (w : World) : Calls Tryz.prog 152 #[.slice p 0 cap, fv] w fun e w' => e = .returned (.tuple #[]) ∧ w' = w :=
  AnyF.slices_SortFunc_none Tryz.sortR p cap fv w
theorem st_Compact_nilR (cap : Nat) (w : World) : Calls Tryz.prog 155 #[.slice none 0 cap] w fun e w' => e = .returned (.slice none 0 cap) ∧ w' = w := by
  go_enter Tryz.func155, Tryz.ntmps155
  go_wp2
  go_ret
  exact ⟨rfl, rfl⟩
set_option maxRecDepth 100000 in
/-- slices.Clone: the same statements, in a row of the call's own. -/
theorem st_CloneR (va : Value) (l : List Rl) (w : World) (ha : SlA w 2 va l.length (l.flatMap Rl.cells)) (hl : l.length ≤ 1000) :
    Calls Tryz.prog 151 #[va] w fun e w' => Below w.heap.size w w' ∧
      ((e = .returned (.slice none 0 0) ∧ l = []) ∨ ∃ g cap, e = .returned (.slice (some ⟨g, 0, none⟩) l.length cap) ∧ w.heap.size ≤ g ∧ g < w'.heap.size ∧ l.length ≤ cap ∧ cap ≤ 9223372036854775807 ∧
        (∀ j u, (l.flatMap Rl.cells)[j]? = some u → w'.cell? ⟨g, 0 + j, none⟩ = some u) ∧ ∀ i, w'.frozen? ⟨g, i, none⟩ = false) := by
  have hmax : maxLen = 9223372036854775807 := by decide
  rcases ha with ha | ⟨⟨a, c, rfl⟩, hn, -⟩
  case inr =>
    obtain rfl : l = [] := List.eq_nil_of_length_eq_zero hn
    obtain ⟨inf, hinf, hz0, hz1, hz2⟩ := info_parts rl_info'
    have HINF := Lib.hid hinf
    have q22 : ∀ (w : World) (a : Option Addr) (n c n' c' : Nat), (binOp .eql 23 (.slice a n c) (.slice none n' c')).run Tryz.prog w = .ok (.bool a.isNone) w := fun w a n c n' c' => Lib.run_eql_slice_nil w _ _ a n c n' c' Tryz.underlying23
    clear hn hl hinf
    go_enter Tryz.func151, Tryz.ntmps151
    go_wp2_with (at_builtin; refine halt_ ?_)
    unfold Halt_
    refine app_zero _ rfl _ _ 23 rfl 28 inf Tryz.underlying23 HINF.out (some ⟨w.heap.size, 0, none⟩) 0 0 (Nat.le_refl _) rfl _ _ rfl ?_
    go_wp2
    go_ret
    exact ⟨(Below.refl _ _).alloc (Nat.le_refl _) _, .inr ⟨w.heap.size, 0, rfl, Nat.le_refl _, by simp, Nat.le_refl _, by omega, (fun j u hu => by simp at hu), (Blk.new w #[] 28).2.1⟩⟩
  rcases ha.2.2 with ⟨rfl, h0⟩ | ⟨b, off, cap, rfl, hc, hm, hlt, hx⟩
  · refine (AnyE.slices_Clone_nil Tryz.cloneR 0 0 w).mono ?_
    rintro e w' ⟨rfl, rfl⟩
    exact ⟨Below.refl _ _, .inl ⟨rfl, List.eq_nil_of_length_eq_zero h0⟩⟩
  · obtain ⟨inf, hinf, hz0, hz1, hz2⟩ := info_parts rl_info'
    refine (AnyE.slices_Clone Tryz.cloneR inf _ 2 32 hinf hz0 hz1 hz2 rfl (by decide) Tryz.sizeOf28 b off l.length cap (l.flatMap Rl.cells) w (flat_len _ _ Rl.cells_len _) ha.2.1 (by omega) hx (rls_one l)).mono ?_
    rintro e w' ⟨v', rfl, hown, hnn, hb⟩
    refine ⟨hb, .inr ?_⟩
    rcases hown.2 with ⟨h1, h2⟩ | ⟨g, cap', cur, rfl, hbg, hg, hnc, hm', hs, ht⟩
    · exact absurd h1 hnn
    · refine ⟨g, cap', rfl, hbg, (Array.getElem?_eq_some_iff.1 hg).1, hnc, by rw [hmax] at hm'; exact hm', fun j u hu => ?_, fun i => by simp [World.frozen?, hg]⟩
      have := hown.cells (g := g) rfl j u hu
      rwa [addr_add] at this
set_option maxRecDepth 100000 in
set_option maxHeartbeats 4000000 in
/-- policy.SortRoles: the same row as the reference's. -/
theorem pol_SortRoles (va : Value) (l : List Rl) (w : World) (ha : SlA w 2 va l.length (l.flatMap Rl.cells)) (hl : l.length ≤ 1000) :
    Calls Tryz.prog 105 #[va] w fun e w' => ∃ v, e = .returned v ∧ OwnR w w' v (insAllR [] l) ∧ Below w.heap.size w w' := by
  have hmax : maxLen = 9223372036854775807 := by decide
  have C := Lib.hid (st_CloneR va l w ha hl)
  have F := Lib.hid (fun g cap W h1 h2 h3 => st_SortFuncR g 0 cap l W hl h1 h2 h3)
  have K := Lib.hid (fun g cap W => rl_Compact g 0 cap (sortSR l) W)
  have DS := dedup_sortR l
  have DL := dedup_lenR (sortSR l)
  rw [sort_lenR, DS] at DL
  simp only [sort_lenR, DS] at K
  clear DS ha
  go_enter Tryz.func105, Tryz.ntmps105
  go_wp2_with fail
  refine C.out.mono ?_
  rintro e w1 ⟨hb1, hr⟩
  have HB1 := Lib.hid hb1
  rcases hr with ⟨rfl, rfl⟩ | ⟨g, cap, rfl, hwg, hg, hlc, hcm, hx, hf⟩
  · clear hb1
    go_wp2_with fail
    refine (st_SortFunc_noneR _ _ _ _).mono ?_
    rintro e w2 ⟨rfl, rfl⟩
    go_wp2_with fail
    refine (st_Compact_nilR _ _).mono ?_
    rintro e w2 ⟨rfl, rfl⟩
    go_wp2
    go_ret
    exact ⟨_, rfl, .inl ⟨rfl, rfl⟩, HB1.out⟩
  · have HX := Lib.hid hx
    have HF := Lib.hid hf
    clear hb1 hx hf
    go_wp2_with fail
    refine (F.out g cap _ hg HX.out HF.out).mono ?_
    rintro e w2 ⟨rfl, hx2, hf2, hg2⟩
    have HX2 := Lib.hid hx2
    have HF2 := Lib.hid hf2
    have HG2 := Lib.hid hg2
    clear hx2 hf2 hg2
    go_wp2_with fail
    refine (K.out g cap _ hl hlc hcm (Nat.lt_of_lt_of_le hg HG2.out.size) HX2.out HF2.out).mono ?_
    rintro e w3 ⟨rfl, hx3, hg3, hf3⟩
    have HF3 := Lib.hid hf3
    have HX3 := Lib.hid hx3
    have HG3 := Lib.hid (gb_trans HG2.out hg3)
    clear hx3 hg3 hf3
    go_wp2
    go_ret
    exact ⟨_, rfl, .inr ⟨g, cap, rfl, hwg, Nat.lt_of_lt_of_le hg HG3.out.size, by omega, hcm, HX3.out, HF3.out⟩, HB1.out.grown HG3.out HB1.out.size (by rintro k ⟨⟩; exact hwg)⟩
end Go.Proofs.YtnnieegddbcfcaaGreatDoor
namespace Go.Proofs.YtnnieegddbcfcaaGreatDoor
open Go.RowKit Go.Shelf

theorem rl_Grow (n : Nat) (w : World) (hn : n ≤ 2000) : Calls Tryz.prog 223 #[.slice none 0 0, .int .i64 n] w fun e w' =>
    ∃ a cap, e = .returned (.slice a 0 cap) ∧ w'.ownsRow w.heap.size 28 2 (.slice a 0 cap) 0 [] ∧ Below w.heap.size w w' := by
  by_cases h0 : 0 < n
  · obtain ⟨inf, hinf, hz0, hz1, hz2⟩ := info_parts rl_info'
    refine (Any8.slices_Grow_grow Tryz.growR inf _ hinf hz0 (by omega) none 0 0 n [] w (Nat.le_refl _) (by omega) (by rw [hz2]; omega) (by omega) (by simp) (fun _ => rfl) (fun a h => by cases h)).mono ?_
    rintro e w' ⟨rfl, rfl⟩
    have hge := grownCap_ge w (0 + n) 0 28
    have hle := grownCap_le_maxLen w (0 + n) 0 28 (by simp only [maxLen]; omega)
    refine ⟨_, _, rfl, World.ownsRow_made w.drew _ _ (Nat.le_refl _) hle ?_, (below_drew (Below.refl _ _)).alloc (Nat.le_refl _) _⟩
    rw [Nat.zero_add] at hge hle ⊢
    simp [Builtin.zeroCells, Value.cells]
    rw [show Tryz.growR_ren.t 25 = 28 from rfl]
    omega
  · obtain rfl : n = 0 := by omega
    refine (Any8.slices_Grow_room Tryz.growR none 0 0 0 w (Nat.le_refl _) (by omega) (by omega) (by omega)).mono ?_
    rintro e w' ⟨rfl, rfl⟩
    exact ⟨_, _, rfl, World.ownsRow_nil _ _ _ _, Below.refl _ _⟩
set_option maxRecDepth 100000 in
set_option maxHeartbeats 4000000 in
/-- slices.Concat of two rows. -/
theorem rl_Concat (g : Nat) (va vb : Value) (l m : List Rl) (w : World) (hg : Blk w g #[va, vb]) (ha : SlA w 2 va l.length (l.flatMap Rl.cells)) (hb : SlA w 2 vb m.length (m.flatMap Rl.cells)) (hl : l.length ≤ 1000) (hm : m.length ≤ 1000) :
    Calls Tryz.prog 192 #[.slice (some ⟨g, 0, none⟩) 2 2] w fun e w' => ∃ v, e = .returned v ∧ Sl w' 2 v (l ++ m).length ((l ++ m).flatMap Rl.cells) ∧ Below w.heap.size w w' := by
  have HA := Lib.hid ha
  have HB := Lib.hid hb
  have HG := Lib.hid hg
  obtain ⟨ao, ac, hva⟩ := ha.form
  obtain ⟨bo, bc, hvb⟩ := hb.form
  subst hva hvb
  have GR : Hid (∀ W, Calls Tryz.prog 223 #[.slice none 0 0, .int .i64 ((l.length : Int) + (m.length : Int))] W fun e w' =>
      ∃ a cap, e = .returned (.slice a 0 cap) ∧ w'.ownsRow W.heap.size 28 2 (.slice a 0 cap) 0 [] ∧ Below W.heap.size W w') := Lib.hid (fun W => by
    have h := rl_Grow (l.length + m.length) W (by omega)
    rw [Int.natCast_add] at h
    exact h)
  have c0 : w.cell? ⟨g, 0, none⟩ = some (.slice ao l.length ac) := (hg.1 0).trans rfl
  have c1 : w.cell? ⟨g, 1, none⟩ = some (.slice bo m.length bc) := (hg.1 1).trans rfl
  have hgw : g < w.heap.size := hg.2.2
  clear ha hb hg
  go_enter Tryz.func192, Tryz.ntmps192
  go_wp2
  go_loop [3, 11] (fun n i => (n = .int .i64 0 ∧ i = .int .i64 0) ∨ (n = .int .i64 l.length ∧ i = .int .i64 1) ∨ (n = .int .i64 ((l.length : Int) + (m.length : Int)) ∧ i = .int .i64 2)) (fun _ i => 2 - (intOf i).toNat)
  case atStart => exact .inl ⟨rfl, rfl⟩
  case round =>
    obtain ⟨rfl, rfl⟩ | ⟨rfl, rfl⟩ | ⟨rfl, rfl⟩ := hrel
    · have d : decide ((l.length : Int) < 0) = false := by (rw [decide_eq_false_iff_not]; omega)
      have hw : IntKind.i64.wrap ((0 : Int) + (l.length : Int)) = (l.length : Int) := by rw [Int.zero_add]; exact Go.IntWalk.i64_in _ (by omega)
      go_wp2
      exact ⟨.inr (.inl ⟨rfl, rfl⟩), by simp [intOf]⟩
    · have d : decide ((l.length : Int) + (m.length : Int) < 0) = false := by (rw [decide_eq_false_iff_not]; omega)
      have hw : IntKind.i64.wrap ((l.length : Int) + (m.length : Int)) = (l.length : Int) + (m.length : Int) := Go.IntWalk.i64_in _ (by omega)
      go_wp2
      exact ⟨.inr (.inr ⟨rfl, rfl⟩), by simp [intOf]⟩
    · go_wp2_with fail
      refine (GR.out _).mono ?_
      rintro e w1 ⟨a1, cap1, rfl, hown, hb1⟩
      have HO := Lib.hid hown
      have HB1 := Lib.hid hb1
      clear hown hb1 c0 c1 hgw
      go_wp2_with fail
      go_loopw [6, 27] (fun vo i wr => Hid (Below w.heap.size w wr) ∧ ((i = .int .i64 0 ∧ Hid (wr.ownsRow w.heap.size 28 2 vo 0 [])) ∨ (i = .int .i64 1 ∧ Hid (wr.ownsRow w.heap.size 28 2 vo l.length (l.flatMap Rl.cells))) ∨ (i = .int .i64 2 ∧ Hid (wr.ownsRow w.heap.size 28 2 vo (l.length + m.length) ((l ++ m).flatMap Rl.cells))))) (fun _ i _ => 2 - (intOf i).toNat)
      case atStart => exact ⟨HB1, .inl ⟨rfl, HO⟩⟩
      case round =>
        obtain ⟨HBR, ⟨rfl, HOR⟩ | ⟨rfl, HOR⟩ | ⟨rfl, HOR⟩⟩ := hrel
        · have hbk := HG.out.below HBR.out
          have c0 : wr.cell? ⟨g, 0, none⟩ = some (.slice ao l.length ac) := (hbk.1 0).trans rfl
          have hgw : g < wr.heap.size := hbk.2.2
          obtain ⟨xo, xc, rfl⟩ := own_form HOR.out
          clear hbk
          go_wp2_with (at_builtin; refine halt_ ?_)
          unfold Halt_
          refine app_row Tryz.underlying23 rl_info' rfl (by decide) (by decide) rfl _ _ rfl w.heap.size rfl HOR.out rfl (HA.out.below HBR.out) (rls_one _) (by omega) HBR.out.size ?_
          intro a' cap' w3 hown' hgrow
          have HO3 := Lib.hid (show w3.ownsRow w.heap.size 28 2 (.slice a' l.length cap') l.length (l.flatMap Rl.cells) by simpa using hown')
          have HB3 := Lib.hid (below_own HBR.out HOR.out hgrow HBR.out.size (Nat.le_refl _))
          clear hown' hgrow
          go_wp2_with fail
          exact ⟨⟨HB3, .inr (.inl ⟨rfl, HO3⟩)⟩, by simp [intOf]⟩
        · have hbk := HG.out.below HBR.out
          have c1 : wr.cell? ⟨g, 1, none⟩ = some (.slice bo m.length bc) := (hbk.1 1).trans rfl
          have hgw : g < wr.heap.size := hbk.2.2
          obtain ⟨xo, xc, rfl⟩ := own_form HOR.out
          clear hbk
          go_wp2_with (at_builtin; refine halt_ ?_)
          unfold Halt_
          refine app_row Tryz.underlying23 rl_info' rfl (by decide) (by decide) rfl _ _ rfl w.heap.size rfl HOR.out rfl (HB.out.below HBR.out) (rls_one _) (by omega) HBR.out.size ?_
          intro a' cap' w3 hown' hgrow
          have HO3 := Lib.hid (show w3.ownsRow w.heap.size 28 2 (.slice a' (l.length + m.length) cap') (l.length + m.length) ((l ++ m).flatMap Rl.cells) by rw [rl_flat]; exact hown')
          have HB3 := Lib.hid (below_own HBR.out HOR.out hgrow HBR.out.size (Nat.le_refl _))
          clear hown' hgrow
          go_wp2_with fail
          exact ⟨⟨HB3, .inr (.inr ⟨rfl, HO3⟩)⟩, by simp [intOf]⟩
        · obtain ⟨xo, xc, rfl⟩ := own_form HOR.out
          have HS := Lib.hid (Sl.of_own HOR.out)
          go_wp2_with fail
          go_ret
          exact ⟨_, rfl, by rw [List.length_append]; exact HS.out, HBR.out⟩
end Go.Proofs.YtnnieegddbcfcaaGreatDoor
namespace Go.Proofs.YtnnieegddbcfcaaGreatDoor
open Go.RowKit Go.Shelf

/-- The place of the first of which p is so; -1: there is none. -/
def IdxP (l : List Rl) (p : Rl → Bool) (i : Int) : Prop :=
  (i = -1 ∧ ∀ x ∈ l, p x = false) ∨ ∃ k : Nat, ∃ hk : k < l.length, i = k ∧ p l[k] = true ∧ ∀ j (hj : j < l.length), j < k → p l[j] = false

set_option maxRecDepth 100000 in
set_option maxHeartbeats 2000000 in
theorem rl_IndexFunc (va : Value) (l : List Rl) (w : World) (ha : SlA w 2 va l.length (l.flatMap Rl.cells)) (g : Nat) (cb : Array Value) (p : Rl → Bool)
    (eg : ∀ args w, (callFunc g args).run Tryz.prog w = .ok (.enter g args) w)
    (hp : ∀ x W, x ∈ l → Below w.heap.size w W → Calls Tryz.prog g (#[rv x] ++ cb) W fun e w' => e = .returned (.bool (p x)) ∧ Below W.heap.size W w') :
    Calls Tryz.prog 150 #[va, .func (.func g) #[] cb] w fun e w' => (∃ i : Int, e = .returned (.int .i64 i) ∧ IdxP l p i) ∧ Below w.heap.size w w' := by
  have HP := Lib.hid hp
  have HA := Lib.hid ha
  have hmax := ha.max
  obtain ⟨ao, cap, hva⟩ := ha.form
  subst hva
  clear ha hp
  go_enter Tryz.func150, Tryz.ntmps150
  go_wp2
  go_loopw [8] (fun i wr => ∃ k : Nat, k ≤ l.length ∧ i = .int .i64 k ∧ Hid (Below w.heap.size w wr) ∧ Hid (∀ j (hj : j < l.length), j < k → p l[j] = false)) (fun i _ => l.length - (intOf i).toNat)
  case atStart => exact ⟨0, by omega, rfl, Lib.hid (Below.refl _ _), Lib.hid (fun _ _ h => absurd h (by omega))⟩
  case round =>
    obtain ⟨k, hk, rfl, HB, HJ⟩ := hrel
    by_cases hlt : k < l.length
    · obtain ⟨b1, o1, c1, he1, hc1, hm1, hb1, hx1⟩ := HA.out.pos (by omega)
      simp only [Value.slice.injEq, true_and] at he1
      obtain ⟨rfl, rfl⟩ := he1
      obtain ⟨p0, p1⟩ := rl_cell (w := wr) (fun j u hu => (HB.out.cell (p := ⟨b1, o1 + j, none⟩) hb1).trans (hx1 j u hu)) k hlt
      have hbr : b1 < wr.heap.size := Nat.lt_of_lt_of_le hb1 HB.out.size
      have PC := Lib.hid (fun W h => HP.out l[k] W (List.getElem_mem hlt) h)
      have YES : Hid (p l[k] = true → IdxP l p k) := Lib.hid (fun h => .inr ⟨k, hlt, rfl, h, HJ.out⟩)
      have HJ2 : Hid (p l[k] = false → ∀ j (hj : j < l.length), j < k + 1 → p l[j] = false) := Lib.hid (fun hpk j hj hjk => by
        by_cases h : j < k
        · exact HJ.out j hj h
        · obtain rfl : j = k := by omega
          exact hpk)
      clear hx1
      generalize p l[k] = px at PC YES HJ2
      generalize l[k] = x at *
      obtain ⟨x1, x2⟩ := x
      go_wp2_with fail
      refine (PC.out _ HB.out).mono ?_
      rintro e w2 ⟨rfl, hb2⟩
      have HB2 := Lib.hid (HB.out.trans (hb2.mono HB.out.size))
      clear hb2
      cases px with
      | true =>
        have R := Lib.hid (YES.out rfl)
        go_wp2
        go_ret
        exact ⟨⟨(k : Int), rfl, R.out⟩, HB2.out⟩
      | false =>
        have HJ3 := Lib.hid (HJ2.out rfl)
        go_wp2
        exact ⟨⟨k + 1, by omega, by go_num, HB2, HJ3⟩, by simp [intOf]; omega⟩
    · have R : Hid (IdxP l p (-1)) := Lib.hid (.inl ⟨rfl, fun x hx => by
        obtain ⟨j, hj, rfl⟩ := List.getElem_of_mem hx
        exact HJ.out j hj (by omega)⟩)
      go_wp2
      go_ret
      exact ⟨⟨-1, rfl, R.out⟩, HB.out⟩

/-- The first i cells of a row that DeleteFunc works on are those of its first j that stay; the rest is as it was. -/
structure HalfF (w : World) (b o : Nat) (l : List Rl) (np : Rl → Bool) (j i : Nat) : Prop where
  len : ((l.take j).filter np).length = i
  low : ∀ k (hk : k < ((l.take j).filter np).length), Two w b (o + k * 2) ((l.take j).filter np)[k]
  high : ∀ k (hk : k < l.length), j ≤ k → Two w b (o + k * 2) l[k]
  all : ∀ k, k < l.length → ∃ s0, Two w b (o + k * 2) s0
theorem HalfF.move {w w' : World} {b o j i : Nat} {l : List Rl} {np : Rl → Bool} (h : HalfF w b o l np j i) (hw : ∀ i, w'.cell? ⟨b, i, none⟩ = w.cell? ⟨b, i, none⟩) : HalfF w' b o l np j i :=
  ⟨h.len, fun k hk => (h.low k hk).drop1 (fun _ _ _ => hw _), fun k hk hj => (h.high k hk hj).drop1 (fun _ _ _ => hw _), fun k hk => (h.all k hk).elim fun s0 h0 => ⟨s0, h0.drop1 (fun _ _ _ => hw _)⟩⟩
theorem HalfF.skip {w : World} {b o j i : Nat} {l : List Rl} {np : Rl → Bool} (h : HalfF w b o l np j i) (hj : j < l.length) (e : np l[j] = false) : HalfF w b o l np (j + 1) i := by
  have hd := filter_noR hj e
  exact ⟨by rw [hd]; exact h.len, fun k hk => by simp only [hd]; exact h.low k (by rw [← hd]; exact hk), fun k hk hjk => h.high k hk (by omega), h.all⟩
theorem HalfF.put {w : World} {b o j i : Nat} {l : List Rl} {np : Rl → Bool} (h : HalfF w b o l np j i) (hj : j < l.length) (hij : i ≤ j) (e : np l[j] = true) : HalfF (W2 w b (o + i * 2) l[j]) b o l np (j + 1) (i + 1) := by
  have hd := filter_yesR hj e
  refine ⟨by rw [hd, List.length_append, h.len]; rfl, fun k hk => ?_, fun k hk hjk => ?_, fun k hk => ?_⟩
  · rw [hd, List.length_append, h.len] at hk
    simp only [List.length_cons, List.length_nil] at hk
    by_cases hik : k < i
    · have e1 : ((l.take (j + 1)).filter np)[k]'(by rw [hd, List.length_append, h.len]; simp; omega) = ((l.take j).filter np)[k]'(by rw [h.len]; exact hik) := by
        simp only [hd]; rw [List.getElem_append_left]
      rw [e1]
      exact (h.low k (by rw [h.len]; exact hik)).drop1 (fun _ _ _ => w2_far _ _ _ _ _ (by omega))
    · obtain rfl : k = i := by omega
      have e1 : ((l.take (j + 1)).filter np)[k]'(by rw [hd, List.length_append, h.len]; simp) = l[j] := by
        simp only [hd]; rw [List.getElem_append_right (by rw [h.len]; exact Nat.le_refl _)]; simp [h.len]
      rw [e1]
      obtain ⟨s0, h0⟩ := h.all k (by omega)
      exact w2_new _ _ h0
  · exact (h.high k hk (by omega)).drop1 (fun _ _ _ => w2_far _ _ _ _ _ (by omega))
  · obtain ⟨s0, h0⟩ := h.all k hk
    by_cases hik : k = i
    · subst hik; exact ⟨_, w2_new _ _ h0⟩
    · exact ⟨s0, h0.drop1 (fun _ _ _ => w2_far _ _ _ _ _ (by omega))⟩
theorem HalfF.start {w : World} {b o k : Nat} {l : List Rl} {np : Rl → Bool} (hx : ∀ j u, (l.flatMap Rl.cells)[j]? = some u → w.cell? ⟨b, o + j, none⟩ = some u) (hk : k < l.length) (h0 : np l[k] = false) (h1 : ∀ j (hj : j < l.length), j < k → np l[j] = true) : HalfF w b o l np (k + 1) k := by
  have hd : (l.take (k + 1)).filter np = l.take k := by
    rw [filter_noR hk h0, List.filter_eq_self]
    intro x hx
    obtain ⟨j, hj, rfl⟩ := List.getElem_of_mem hx
    rw [List.getElem_take]
    rw [List.length_take] at hj
    exact h1 j (by omega) (by omega)
  refine ⟨by rw [hd, List.length_take]; omega, fun i hi => ?_, fun i hi _ => rl_cell (w := w) hx i hi, fun i hi => ⟨_, rl_cell (w := w) hx i hi⟩⟩
  have hi' : i < l.length := by rw [hd, List.length_take] at hi; omega
  have e : ((l.take (k + 1)).filter np)[i] = l[i] := by simp only [hd, List.getElem_take]
  rw [e]
  exact rl_cell (w := w) hx i hi'
theorem HalfF.done {w : World} {b o j i : Nat} {l : List Rl} {np : Rl → Bool} (h : HalfF w b o l np j i) (hj : j = l.length) : (l.filter np).length = i ∧ ∀ k (hk : k < (l.filter np).length), Two w b (o + k * 2) (l.filter np)[k] := by
  subst hj
  obtain ⟨h1, h2, _, _⟩ := h
  simp only [List.take_of_length_le (Nat.le_refl _)] at h1 h2
  exact ⟨h1, h2⟩
theorem HalfF.some {w : World} {b o j i : Nat} {l : List Rl} {np : Rl → Bool} (h : HalfF w b o l np j i) (hi : i ≤ l.length) : ∀ k, k < (l.length - i) * 2 → (w.cell? ⟨b, o + i * 2 + k, none⟩).isSome = true := by
  intro k hk
  obtain ⟨s0, h0⟩ := h.all (i + k / 2) (by omega)
  have := two_someR h0 (k % 2) (Nat.mod_lt _ (by decide))
  rwa [show o + (i + k / 2) * 2 + k % 2 = o + i * 2 + k by omega] at this
set_option maxRecDepth 100000 in
set_option maxHeartbeats 8000000 in
/-- slices.DeleteFunc at a row of roles of the call's own. -/
theorem rl_DeleteFunc (b o cap : Nat) (l : List Rl) (w : World) (_ : l.length ≤ 1000) (hc : l.length ≤ cap) (hcm : cap ≤ 9223372036854775807) (hb : b < w.heap.size)
    (hx : ∀ j u, (l.flatMap Rl.cells)[j]? = some u → w.cell? ⟨b, o + j, none⟩ = some u) (hf : ∀ i, w.frozen? ⟨b, i, none⟩ = false)
    (g : Nat) (cb : Array Value) (p : Rl → Bool) (eg : ∀ args w, (callFunc g args).run Tryz.prog w = .ok (.enter g args) w)
    (hp : ∀ x W, w.grownBy W (some b) → Calls Tryz.prog g (#[rv x] ++ cb) W fun e w' => e = .returned (.bool (p x)) ∧ Below W.heap.size W w') :
    Calls Tryz.prog 104 #[.slice (some ⟨b, o, none⟩) l.length cap, .func (.func g) #[] cb] w fun e w' =>
      e = .returned (.slice (some ⟨b, o, none⟩) (l.filter fun x => !p x).length cap) ∧ (∀ j u, ((l.filter fun x => !p x).flatMap Rl.cells)[j]? = some u → w'.cell? ⟨b, o + j, none⟩ = some u) ∧ w.grownBy w' (some b) := by
  have hmax : maxLen = 9223372036854775807 := by decide
  have HX := Lib.hid hx
  have HP := Lib.hid hp
  have HF := Lib.hid hf
  have IDX := Lib.hid (rl_IndexFunc (.slice (some ⟨b, o, none⟩) l.length cap) l w (Sl.a ⟨flat_len _ _ Rl.cells_len _, by omega, .inr ⟨b, o, cap, rfl, hc, by omega, hb, hx⟩⟩) g cb p eg (fun x W _ hW => hp x W (grown_of_below hW _)))
  clear hx hp hf
  go_enter Tryz.func104, Tryz.ntmps104
  go_wp2_with fail
  refine IDX.out.mono ?_
  rintro e w1 ⟨⟨i, rfl, hidx⟩, hb1⟩
  have HB1 := Lib.hid hb1
  rcases hidx with ⟨rfl, hno⟩ | ⟨k, hk, rfl, hyes, hbef⟩
  · have R := Lib.hid (show (l.filter fun x => !p x) = l by rw [List.filter_eq_self]; intro x hx; rw [hno x hx]; rfl)
    clear hno hb1
    go_wp2
    go_ret
    exact ⟨by rw [R.out]; rfl, by rw [R.out]; exact fun j u hu => (HB1.out.cell (p := ⟨b, o + j, none⟩) hb).trans (HX.out j u hu), grown_of_below HB1.out _⟩
  · have d1 : ((k : Int) == -1) = false := by rw [beq_eq_false_iff_ne]; omega
    have H0 := Lib.hid (HalfF.start (np := fun x => !p x) (w := w1) (b := b) (o := o) (fun j u hu => (HB1.out.cell (p := ⟨b, o + j, none⟩) hb).trans (HX.out j u hu)) hk (by rw [hyes]; rfl) (fun j hj hjk => by rw [hbef j hj hjk]; rfl))
    have F0 := Lib.hid (fun i => (HB1.out.frozen (p := ⟨b, i, none⟩) hb).trans (HF.out i))
    have hb1s : b < w1.heap.size := Nat.lt_of_lt_of_le hb HB1.out.size
    clear hyes hbef hb1
    go_wp2_with fail
    go_loopw [5, 6] (fun iv jv wr => ∃ i j : Nat, i < j ∧ j ≤ l.length ∧ iv = .int .i64 i ∧ jv = .int .i64 j ∧ Hid (HalfF wr b o l (fun x => !p x) j i) ∧ Hid (w.grownBy wr (some b)) ∧ Hid (∀ i, wr.frozen? ⟨b, i, none⟩ = false) ∧ b < wr.heap.size) (fun _ jv _ => l.length - (intOf jv).toNat)
    case atStart => exact ⟨k, k + 1, by omega, by omega, rfl, by go_num, H0, Lib.hid (grown_of_below HB1.out _), F0, hb1s⟩
    case round =>
      obtain ⟨i, j, hij, hj, rfl, rfl, HH, HG, HFR, hbr⟩ := hrel
      by_cases hlt : j < l.length
      · obtain ⟨p0, p1⟩ := HH.out.high j hlt (Nat.le_refl _)
        have hil : i < l.length := by omega
        obtain ⟨s0, q0, q1⟩ := HH.out.all i hil
        have PC := Lib.hid (fun W h => HP.out l[j] W h)
        have YES : Hid (∀ W, HalfF W b o l (fun x => !p x) j i → p l[j] = false → HalfF (W2 W b (o + i * 2) l[j]) b o l (fun x => !p x) (j + 1) (i + 1)) := Lib.hid (fun W h e => h.put hlt (by omega) (by rw [e]; rfl))
        have NO : Hid (∀ W, HalfF W b o l (fun x => !p x) j i → p l[j] = true → HalfF W b o l (fun x => !p x) (j + 1) i) := Lib.hid (fun W h e => h.skip hlt (by rw [e]; rfl))
        generalize p l[j] = px at PC YES NO
        generalize l[j] = x at *
        obtain ⟨x1, x2⟩ := x
        have HGA := Lib.hid (gb_alloc HG.out (.cells #[.string x1, .string x2] 28))
        go_wp2_with fail
        refine (PC.out _ HGA.out).mono ?_
        rintro e w2 ⟨rfl, hb2a⟩
        have HBK := Lib.hid (keep1 hb2a)
        have hb2 : Below wr.heap.size wr w2 := ((Below.refl _ _).alloc (Nat.le_refl _) _).trans (hb2a.mono (by simp))
        have HB2 := Lib.hid hb2
        obtain ⟨cx, fx, zx⟩ := HBK.out
        have hc2 := Lib.hid (fun i => hb2.cell (p := ⟨b, i, none⟩) hbr)
        have f2 : ∀ i, w2.frozen? ⟨b, i, none⟩ = false := fun i => (hb2.frozen (p := ⟨b, i, none⟩) hbr).trans (HFR.out i)
        have p0' := (hc2.out _).trans p0
        have p1' := (hc2.out _).trans p1
        have q0' := (hc2.out _).trans q0
        have q1' := (hc2.out _).trans q1
        have hbr2 : b < w2.heap.size := Nat.lt_of_lt_of_le hbr hb2.size
        have HG2 := Lib.hid (gb_trans HG.out (gb_of_below (r := some b) hb2))
        have HM := Lib.hid (HH.out.move hc2.out)
        clear hb2 hb2a p0 p1 q0 q1
        cases px with
        | true =>
          have R := Lib.hid (NO.out _ HM.out rfl)
          go_wp2
          exact ⟨⟨i, j + 1, by omega, by omega, rfl, by go_num, R, HG2, Lib.hid f2, hbr2⟩, by simp [intOf]; omega⟩
        | false =>
          have R := Lib.hid (YES.out _ HM.out rfl)
          go_wp2
          refine ⟨⟨i + 1, j + 1, by omega, by omega, by go_num, by go_num, Lib.hid ?_, Lib.hid ?_, Lib.hid ?_, ?_⟩, by simp [intOf]; omega⟩
          · have h := R.out
            unfold W2 at h
            with_reducible exact h
          · have h := grown_w9R (b := b) (a := o + i * 2) (s := ⟨x1, x2⟩) HG2.out
            unfold W2 at h
            with_reducible exact h
          · intro i
            simpa using f2 i
          · simpa using hbr2
      · obtain ⟨hlen, hlow⟩ := HH.out.done (by omega)
        have HLEN := Lib.hid hlen
        have HLOW := Lib.hid hlow
        have hil : i < l.length := by omega
        have hic : i < cap := by omega
        obtain ⟨W', hW, hclr⟩ : ∃ W', W' = wr.setCells b (o + i * 2) (Builtin.zeroCells zeroRl.cells (l.length - i)).toList ∧ ∀ ty, Sem.run Tryz.prog (Builtin.clear_ #[23] ty #[.slice (some ⟨b, o + i * 2, none⟩) (l.length - i) (cap - i)]) wr = .ok (.tuple #[]) W' :=
          ⟨_, rfl, fun ty => run_clear2R wr _ 28 ty zeroRl Tryz.underlying23 rl_zero b (o + i * 2) (l.length - i) (cap - i) (by omega) rfl (HH.out.some (by omega)) (fun j => HFR.out _) (zero_oneR _)⟩
        have HOUT : Hid (∀ k, k < o + i * 2 → W'.cell? ⟨b, k, none⟩ = wr.cell? ⟨b, k, none⟩) := Lib.hid (fun k hk => by rw [hW]; exact World.cell?_setCells_out b _ _ _ _ (fun _ _ => .inl hk))
        have HGW : Hid (w.grownBy W' (some b)) := Lib.hid (by rw [hW]; exact grown_sets _ _ _ HG.out)
        clear hlen hlow hW
        go_wp2_with fail
        go_ret
        refine ⟨by rw [HLEN.out]; rfl, ?_, HGW.out⟩
        refine two_cellsR (fun k hk => (HLOW.out k hk).drop1 (fun j h1 h2 => HOUT.out j ?_))
        have := HLEN.out
        omega
set_option maxHeartbeats 1000000 in
theorem rl_DeleteNil (w : World) (g : Nat) (cb : Array Value) (eg : ∀ args w, (callFunc g args).run Tryz.prog w = .ok (.enter g args) w) :
    Calls Tryz.prog 104 #[.slice none 0 0, .func (.func g) #[] cb] w fun e w' => e = .returned (.slice none 0 0) ∧ Below w.heap.size w w' := by
  have IDX := Lib.hid (rl_IndexFunc (.slice none 0 0) [] w (Sl.nil _ _).a g cb (fun _ => false) eg (fun x W hx _ => by cases hx))
  go_enter Tryz.func104, Tryz.ntmps104
  go_wp2_with fail
  refine IDX.out.mono ?_
  rintro e w1 ⟨⟨i, rfl, hidx⟩, hb1⟩
  have HB1 := Lib.hid hb1
  rcases hidx with ⟨rfl, _⟩ | ⟨k, hk, _⟩
  · clear hb1
    go_wp2
    go_ret
    exact ⟨rfl, HB1.out⟩
  · exact absurd hk (by simp)
end Go.Proofs.YtnnieegddbcfcaaGreatDoor
namespace Go.Proofs.YtnnieegddbcfcaaGreatDoor
open Go.RowKit Go.Shelf

theorem own_mono {w : World} {B B' size n : Nat} {e : TypeId} {v : Value} {xs : List Value} (h : w.ownsRow B e size v n xs) (hb : B' ≤ B) : w.ownsRow B' e size v n xs := by
  refine ⟨h.1, ?_⟩
  rcases h.2 with h2 | ⟨g, cap, cur, h1, h2, h3⟩
  · exact .inl h2
  · exact .inr ⟨g, cap, cur, h1, Nat.le_trans hb h2, h3⟩
end Go.Proofs.YtnnieegddbcfcaaGreatDoor
namespace Go.Proofs.YtnnieegddbcfcaaGreatDoor
open Go.RowKit Go.Shelf

/-- A policy in a world, not too large, and all that it names. -/
structure PolX (w : World) (v0 v1 v2 v3 : Value) (l : List St) (g h : List Rl) (qs : List Qv) (F : Qv → List ByteArray) (PS NS : List ByteArray) : Prop where
  at_ : PolAt w v0 v1 v2 v3 l g h qs
  hl : l.length ≤ 100
  hg : g.length ≤ 100
  hh : h.length ≤ 100
  hq : qs.length ≤ 100
  hF : WhoF w qs F
  hs : allLe l 4294967
  hT : TB w
  eP : newB (allPrins l g h qs F) = PS
  eN : newB (allNames l g h qs) = NS
  hps : PS.length ≤ 60
  hns : NS.length ≤ 60
  rl : ∀ s ∈ l, rightS s = true
  rP : ∀ a ∈ PS, isP 65 90 (bl a) = true
  rN : ∀ n ∈ NS, isP 97 122 (bl n) = true
theorem PolX.below {w w' : World} {v0 v1 v2 v3 : Value} {l : List St} {g h : List Rl} {qs : List Qv} {F : Qv → List ByteArray} {PS NS : List ByteArray} (P : PolX w v0 v1 v2 v3 l g h qs F PS NS) (hb : Below w.heap.size w w') : PolX w' v0 v1 v2 v3 l g h qs F PS NS :=
  ⟨P.at_.below hb, P.hl, P.hg, P.hh, P.hq, P.hF.below hb, P.hs, P.hT.below hb, P.eP, P.eN, P.hps, P.hns, P.rl, P.rP, P.rN⟩
section
variable {w : World} {v0 v1 v2 v3 : Value} {l : List St} {g h : List Rl} {qs : List Qv} {F : Qv → List ByteArray} {PS NS : List ByteArray}
theorem PolX.ascP (P : PolX w v0 v1 v2 v3 l g h qs F PS NS) : AscB PS := by rw [← P.eP]; exact new_asc _
theorem PolX.ascN (P : PolX w v0 v1 v2 v3 l g h qs F PS NS) : AscB NS := by rw [← P.eN]; exact new_asc _
theorem PolX.idemP (P : PolX w v0 v1 v2 v3 l g h qs F PS NS) : newB PS = PS := by rw [← P.eP]; exact new_idem _
theorem PolX.idemN (P : PolX w v0 v1 v2 v3 l g h qs F PS NS) : newB NS = NS := by rw [← P.eN]; exact new_idem _
theorem PolX.putP (P : PolX w v0 v1 v2 v3 l g h qs F PS NS) : newB (PS ++ [freshB PS]) = putX PS := by rw [new_snoc, P.idemP]; rfl
theorem PolX.inAB (P : PolX w v0 v1 v2 v3 l g h qs F PS NS) : ∀ s ∈ l, InAB PS NS s := fun s hs => by
  have := stmt_inAB (g := g) (h := h) (qs := qs) (F := F) hs
  rwa [P.eP, P.eN] at this
set_option maxRecDepth 100000 in
set_option maxHeartbeats 2000000 in
theorem high_Fresh (P : PolX w v0 v1 v2 v3 l g h qs F PS NS) : Calls Tryz.prog 40 #[pv v0 v1 v2 v3] w fun e w' => e = .returned (.string (freshB PS)) ∧ Below w.heap.size w w' := by
  have PP := Lib.hid (fun W (hb : Below w.heap.size w W) => policy_Prins v0 v1 v2 v3 l g h qs W (P.at_.below hb) P.hl P.hg P.hh P.hq F (P.hF.below hb))
  rw [P.eP] at PP
  have HA := Lib.hid P.ascP
  have ID := Lib.hid P.idemP
  have hps := P.hps
  obtain ⟨a0, c0, rfl⟩ := P.at_.rs.form
  obtain ⟨a1, c1, rfl⟩ := P.at_.rg.form
  obtain ⟨a2, c2, rfl⟩ := P.at_.rh.form
  obtain ⟨a3, c3, rfl⟩ := P.at_.rq.form
  have HT := Lib.hid (show OneAt w #[.slice a0 l.length c0, .slice a1 g.length c1, .slice a2 h.length c2, .slice a3 qs.length c3] (w.alloc (.cells #[.slice a0 l.length c0, .slice a1 g.length c1, .slice a2 h.length c2, .slice a3 qs.length c3] 26)) from ⟨Blk.new w _ _, (Below.refl _ _).alloc (Nat.le_refl _) _⟩)
  clear P
  go_enter Tryz.func40, Tryz.ntmps40
  go_wp2_with fail
  refine (PP.out _ HT.out.low).mono ?_
  rintro e w1 ⟨vp, rfl, ho, _, hb1⟩
  obtain ⟨ao, co, rfl⟩ := own_form ho
  have HT := Lib.hid (HT.out.later hb1)
  have HS := Lib.hid (Sl.of_own ho)
  clear ho hb1 PP
  go_wp2_with fail
  refine (names_New (.slice ao PS.length co) PS _ HS.out.a (by omega)).mono ?_
  rintro e w2 ⟨b, rfl, ht, _, hb2⟩
  rw [ID.out] at ht
  have HT := Lib.hid (HT.out.later hb2)
  have HTA := Lib.hid ht
  clear ht hb2 HS ID
  go_wp2_with fail
  refine (names_Fresh1 b PS w2 HTA.out HA.out (by omega)).mono ?_
  rintro e w3 ⟨g3, c3', rfl, hs, hb3⟩
  have HT := Lib.hid (HT.out.later hb3)
  obtain ⟨b4, o4, c4, he, hc4, hm4, hb4, hx4⟩ := hs.pos (by omega)
  simp only [Value.slice.injEq, Option.some.injEq, Addr.mk.injEq, true_and, and_true] at he
  obtain ⟨⟨rfl, rfl⟩, rfl⟩ := he
  have p0 := hx4 0 _ rfl
  simp only [Nat.add_zero] at p0
  clear hs hb3 hx4
  go_wp2
  go_ret
  exact ⟨rfl, HT.out.low⟩
set_option maxRecDepth 100000 in
set_option maxHeartbeats 4000000 in
theorem high_prins (P : PolX w v0 v1 v2 v3 l g h qs F PS NS) : Calls Tryz.prog 98 #[pv v0 v1 v2 v3] w fun e w' => ∃ v, e = .returned v ∧ w'.ownsRow (w.heap.size + 1) 9 1 v (putX PS).length (strs (putX PS)) ∧ Below w.heap.size w w' := by
  have PP := Lib.hid (fun W (hb : Below w.heap.size w W) => policy_Prins v0 v1 v2 v3 l g h qs W (P.at_.below hb) P.hl P.hg P.hh P.hq F (P.hF.below hb))
  rw [P.eP] at PP
  have FR := Lib.hid (fun W (hb : Below w.heap.size w W) => high_Fresh (P.below hb))
  have ID := Lib.hid P.putP
  have hps := P.hps
  have hpx := putX_len PS
  obtain ⟨a0, c0, rfl⟩ := P.at_.rs.form
  obtain ⟨a1, c1, rfl⟩ := P.at_.rg.form
  obtain ⟨a2, c2, rfl⟩ := P.at_.rh.form
  obtain ⟨a3, c3, rfl⟩ := P.at_.rq.form
  have HT := Lib.hid (show OneAt w #[.slice a0 l.length c0, .slice a1 g.length c1, .slice a2 h.length c2, .slice a3 qs.length c3] (w.alloc (.cells #[.slice a0 l.length c0, .slice a1 g.length c1, .slice a2 h.length c2, .slice a3 qs.length c3] 26)) from ⟨Blk.new w _ _, (Below.refl _ _).alloc (Nat.le_refl _) _⟩)
  obtain ⟨infs, his, hs0, hs1, hs2⟩ := info_parts str_info
  have HIS := Lib.hid his
  clear his P
  generalize putX PS = PX at *
  generalize freshB PS = x at *
  go_enter Tryz.func98, Tryz.ntmps98
  go_wp2_with fail
  refine wp_region_held_drew (S := (fun W => ∀ o, W.cell? ⟨w.heap.size, o, none⟩ = (#[.slice a0 l.length c0, .slice a1 g.length c1, .slice a2 h.length c2, .slice a3 qs.length c3] : Array Value)[o]?)) (by kernel_rfl) HT.out.drew.a.1 (fun hHeld => ?_)
  have HT := HT.out.drew
  obtain ⟨wk, hwk⟩ : ∃ W, W = (w.alloc (.cells #[.slice a0 l.length c0, .slice a1 g.length c1, .slice a2 h.length c2, .slice a3 qs.length c3] 26)).drew := ⟨_, rfl⟩
  have hwz : w.heap.size + 1 ≤ wk.heap.size := by rw [hwk]; simp
  rw [← hwk] at HT hHeld ⊢
  clear hwk
  (refine held_yes (v := ?_) 0 rfl (by kernel_rfl) (by kernel_rfl) (by kernel_rfl) (fun _ _ _ h => h) (by rfl) (by assumption) ?_ ?_; rotate_left; (focus ((intro w hSw); (try dsimp only at hSw); go_simp; (try with_reducible rfl))); (try simp only [Act.put, List.setIfInBounds_toArray, List.set_cons_zero, List.set_cons_succ])); (refine held_yes (v := ?_) 2 rfl (by kernel_rfl) (by kernel_rfl) (by kernel_rfl) (fun _ _ _ h => h) (by rfl) (by assumption) ?_ ?_; rotate_left; (focus ((intro w hSw); (try dsimp only at hSw); go_simp; (try with_reducible rfl))); (try simp only [Act.put, List.setIfInBounds_toArray, List.set_cons_zero, List.set_cons_succ]))
  (refine held_call 1 rfl (by kernel_rfl) (fun K hK => ?_); go_simp)
  go_at_call 100; refine (PP.out _ HT.low).mono ?_; rintro e w1 ⟨vp, rfl, ho, _, hb⟩; have HT1 := HT.later hb; obtain ⟨ao, co, hv⟩ := own_form ho; subst hv; clear PP
  (refine hK.out _ _ (HT1.a.1) (fun hHeld => ?_); clear hK K; (try simp only [Act.put, List.setIfInBounds_toArray, List.set_cons_zero, List.set_cons_succ]))
  (refine held_call 3 rfl (by kernel_rfl) (fun K hK => ?_); go_simp)
  go_at_call 40; refine (FR.out _ HT1.low).mono ?_; rintro e w2 ⟨rfl, hb2⟩; have HT2 := HT1.later hb2; have ho2 := own_below ho hb2; have hb3 := hb.trans (hb2.mono hb.size); clear FR ho hb hb2
  (refine hK.out _ _ (HT2.a.1) (fun hHeld => ?_); clear hK K; (try simp only [Act.put, List.setIfInBounds_toArray, List.set_cons_zero, List.set_cons_succ]))
  (refine held_call 4 rfl (by kernel_rfl) (fun K hK => ?_); go_simp)
  obtain ⟨wn, hwn⟩ : ∃ V, V = w2.alloc (.cells #[.string x] 9) := ⟨_, rfl⟩
  obtain ⟨b8, hb8⟩ : ∃ b, b = w2.heap.size := ⟨_, rfl⟩
  rw [← hwn, ← hb8]
  have hbq : Below w2.heap.size w2 wn := by rw [hwn]; exact (Below.refl _ _).alloc (Nat.le_refl _) _
  have Hc : Sl wn 1 (.slice (some ⟨b8, 0, none⟩) 1 1) 1 (strs [x]) := by rw [hwn]; exact Sl.new w2 [.string x] 9 1 1 b8 hb8 rfl (by simp [maxLen])
  have HT3 := HT2.later hbq
  have ho3 := own_below ho2 hbq
  have hb4 := hb3.trans (hbq.mono hb3.size)
  clear hbq hwn hb8 ho2 hb3
  (refine hK.out _ _ (HT3.a.1) (fun hHeld => ?_); clear hK K; (try simp only [Act.put, List.setIfInBounds_toArray, List.set_cons_zero, List.set_cons_succ]))
  refine held_call 5 rfl (by kernel_rfl) (fun K hK => ?_)
  refine step_row rfl _ _ 38 rfl wk.heap.size 9 infs _ 1 16 Tryz.underlying38 HIS.out hs0 hs1 hs2 (Nat.le_of_ble_eq_true rfl) rfl (Nat.le_of_ble_eq_true rfl) _ PS.length _ rfl ho3 _ 1 _ rfl Hc.a (strs_one _) (by omega) hb4.size ?_
  intro a5 c5 w5 ho5 hg5
  obtain ⟨ho6, hb6⟩ := push_txts (ms := [x]) hb4 ho3 ho5 hg5
  have HT5 := HT.later hb6
  have HS := Lib.hid (show Sl w5 1 (.slice a5 (PS.length + 1) c5) (PS ++ [x]).length (strs (PS ++ [x])) by rw [List.length_append]; exact Sl.of_own ho6)
  clear ho3 ho5 hg5 ho6 hb6 hb4 HT3 HT2 HT1
  (refine hK.out _ _ (HT5.a.1) (fun hHeld => ?_); clear hK K; (try simp only [Act.put, List.setIfInBounds_toArray, List.set_cons_zero, List.set_cons_succ]))
  (refine held_call 6 rfl (by kernel_rfl) (fun K hK => ?_); go_simp)
  go_at_call 95; refine (names_New _ (PS ++ [x]) w5 HS.out.a (by rw [List.length_append, List.length_singleton]; omega)).mono ?_; rintro e w6 ⟨b, rfl, ht, _, hb⟩; rw [ID.out] at ht; have HT6 := HT5.later hb; have HTA := Lib.hid ht; clear ht hb HT5
  (refine hK.out _ _ (HT6.a.1) (fun hHeld => ?_); clear hK K; (try simp only [Act.put, List.setIfInBounds_toArray, List.set_cons_zero, List.set_cons_succ]))
  (refine held_call 7 rfl (by kernel_rfl) (fun K hK => ?_); go_simp)
  go_at_call 33; refine (tab_All b PX w6 HTA.out (by omega)).mono ?_; rintro e w7 ⟨v7, rfl, ho7, hb⟩; have HT7 := HT6.later hb; have hz := HT6.a.2.2; have HO7 := Lib.hid (show w7.ownsRow (w.heap.size + 1) 9 1 v7 PX.length (strs PX) from own_mono ho7 (by omega)); obtain ⟨av, cv, hv⟩ := own_form ho7; subst hv; clear ho7 hb HT6
  (refine hK.out _ _ (HT7.a.1) (fun hHeld => ?_); clear hK K; (try simp only [Act.put, List.setIfInBounds_toArray, List.set_cons_zero, List.set_cons_succ]))
  (refine held_yes (v := ?_) 8 rfl (by kernel_rfl) (by kernel_rfl) (by kernel_rfl) (fun _ _ _ h => h) (by rfl) (by assumption) ?_ ?_; rotate_left; (focus ((intro w hSw); (try dsimp only at hSw); go_simp; (try with_reducible rfl))); (try simp only [Act.put, List.setIfInBounds_toArray, List.set_cons_zero, List.set_cons_succ]))
  refine wpAnyH_done (by kernel_rfl) ?_ _
  have HT := Lib.hid HT7
  clear HT7
  go_wp2
  go_ret
  exact ⟨_, rfl, HO7.out, HT.out.low⟩
set_option maxHeartbeats 1000000 in
theorem high_Roles1 (c : Nat) (u0 u1 u2 u3 : Value) (g : List Rl) (x : Rl) (w : World) (hc : ∀ o, w.cell? ⟨c, o, none⟩ = (#[u0, u1, u2, u3] : Array Value)[o]?) (hg : SlA w 2 u1 g.length (g.flatMap Rl.cells)) :
    Calls Tryz.prog 106 #[rv x, .pointer (some ⟨c, 0, none⟩)] w fun e w' => e = .returned (.bool (hasR g x)) ∧ Below w.heap.size w w' := by
  have H := Lib.hid (fun W (hb : Below w.heap.size w W) => policy_Has u1 g x W (hg.below hb))
  have hlt : c < w.heap.size := World.block_lt_of_cell? w (u := u0) _ (hc 0)
  have q1 := hc 1
  simp only [List.getElem?_toArray, List.getElem?_cons_succ, List.getElem?_cons_zero] at q1
  generalize hasR g x = r at H ⊢
  obtain ⟨bo, bc, hvb⟩ := hg.form
  subst hvb
  obtain ⟨x1, x2⟩ := x
  have HB := Lib.hid ((Below.refl _ w).alloc (Nat.le_refl _) (.cells #[.string x1, .string x2] 28))
  clear hg hc
  go_enter Tryz.func106, Tryz.ntmps106
  go_wp2_with fail
  refine (H.out _ HB.out).mono ?_
  rintro e w1 ⟨rfl, hb1⟩
  have HB1 := Lib.hid (HB.out.trans (hb1.mono HB.out.size))
  clear hb1
  go_wp2
  go_ret
  exact ⟨rfl, HB1.out⟩
theorem allR_snoc {A B : List ByteArray} {k : Nat} (hk : k < A.length) : allR (A.take (k + 1)) B = allR (A.take k) B ++ B.map (fun n => ⟨A[k], n⟩) := by
  unfold allR
  rw [List.take_succ_eq_append_getElem hk, List.flatMap_append]
  simp
theorem memsX_snoc {R : List Rl} {A : List ByteArray} {k : Nat} (hk : k < R.length) : memsX (R.take (k + 1)) A = memsX (R.take k) A ++ A.map (memS R[k]) := by
  unfold memsX
  rw [List.take_succ_eq_append_getElem hk, List.flatMap_append]
  simp
theorem map_snocT {α β : Type} {B : List α} {f : α → β} {k : Nat} (hk : k < B.length) : (B.take (k + 1)).map f = (B.take k).map f ++ [f B[k]] := by
  rw [List.take_succ_eq_append_getElem hk, List.map_append]; rfl
theorem own_text {w : World} {B n : Nat} {a : Option Addr} {c : Nat} {xs : List ByteArray} (h : w.ownsRow B 9 1 (.slice a n c) n (strs xs)) {k : Nat} (hk : k < xs.length) (hn : n = xs.length) :
    ∃ b o, a = some ⟨b, o, none⟩ ∧ w.cell? ⟨b, o + k, none⟩ = some (.string xs[k]) ∧ n ≤ c ∧ c ≤ 9223372036854775807 ∧ b < w.heap.size := by
  obtain ⟨b, o, c', e, h1, h2, h3, h4⟩ := (Sl.of_own h).pos (by omega)
  simp only [Value.slice.injEq, true_and] at e
  obtain ⟨rfl, rfl⟩ := e
  exact ⟨b, o, rfl, h4 k _ (strs_get hk), h1, h2, h3⟩
set_option maxRecDepth 100000 in
set_option maxHeartbeats 8000000 in
theorem high_Roles (P : PolX w v0 v1 v2 v3 l g h qs F PS NS) (h6 : PS.length ≤ 6) (h4 : NS.length ≤ 4) : Calls Tryz.prog 43 #[pv v0 v1 v2 v3] w fun e w' => ∃ v, e = .returned v ∧ Sl w' 2 v (rolesX PS NS g).length ((rolesX PS NS g).flatMap Rl.cells) ∧ Below w.heap.size w w' := by
  have hmax : maxLen = 9223372036854775807 := by decide
  have eg : ∀ args w, (callFunc 106 args).run Tryz.prog w = .ok (.enter 106 args) w := enters_of Tryz.func106 (by kernel_rfl) rfl
  have PN := Lib.hid (fun W (hb : Below w.heap.size w W) => policy_Names v0 v1 v2 v3 l g h qs W (P.at_.below hb) P.hl P.hg P.hh P.hq)
  rw [P.eN] at PN
  have PR := Lib.hid (fun W (hb : Below w.heap.size w W) => high_prins (P.below hb))
  have hpx := putX_len PS
  have HG := Lib.hid (P.at_.rg)
  have RES := Lib.hid (show (ordR (allR (putX PS) NS)).filter (fun r => !hasR g r) = rolesX PS NS g by unfold rolesX; rw [ord_filterR])
  obtain ⟨a0, c0, rfl⟩ := P.at_.rs.form
  obtain ⟨a1, c1, rfl⟩ := P.at_.rg.form
  obtain ⟨a2, c2, rfl⟩ := P.at_.rh.form
  obtain ⟨a3, c3, rfl⟩ := P.at_.rq.form
  have HT := Lib.hid (show OneAt w #[.slice a0 l.length c0, .slice a1 g.length c1, .slice a2 h.length c2, .slice a3 qs.length c3] (w.alloc (.cells #[.slice a0 l.length c0, .slice a1 g.length c1, .slice a2 h.length c2, .slice a3 qs.length c3] 26)) from ⟨Blk.new w _ _, (Below.refl _ _).alloc (Nat.le_refl _) _⟩)
  have DF := Lib.hid (fun W b cap (R : List Rl) (hlow : OneAt w #[.slice a0 l.length c0, .slice a1 g.length c1, .slice a2 h.length c2, .slice a3 qs.length c3] W) (hne : w.heap.size + 1 ≤ b) (hR : R.length ≤ 1000) (hc : R.length ≤ cap) (hcm : cap ≤ 9223372036854775807) (hbs : b < W.heap.size) hx hf =>
    rl_DeleteFunc b 0 cap R W hR hc hcm hbs hx hf 106 #[.pointer (some ⟨w.heap.size, 0, none⟩)] (fun s => hasR g s) eg (fun x V hV => by
      have hV' : OneAt w #[.slice a0 l.length c0, .slice a1 g.length c1, .slice a2 h.length c2, .slice a3 qs.length c3] V := ⟨hlow.a.grown hV (by intro e; cases e; omega), below_of_grownS hlow.low (by omega) hV⟩
      exact high_Roles1 w.heap.size _ (.slice a1 g.length c1) _ _ g x V hV'.a.1 (HG.out.below hV'.low)))
  have DN := Lib.hid (fun W => rl_DeleteNil W 106 #[.pointer (some ⟨w.heap.size, 0, none⟩)] eg)
  clear P eg HG
  generalize putX PS = PX at *
  generalize rolesX PS NS g = RX at *
  have hp7 : PX.length ≤ 7 := by omega
  go_enter Tryz.func43, Tryz.ntmps43
  go_wp2_with fail
  refine (PR.out _ HT.out.low).mono ?_
  rintro e w1 ⟨vp, rfl, ho, hb1⟩
  obtain ⟨ao, co, rfl⟩ := own_form ho
  have HT := Lib.hid (HT.out.later hb1)
  have HP := Lib.hid ho
  clear ho hb1 PR
  go_wp2_with fail
  go_loopw [3, 11] (fun vo i wr => ∃ (k : Nat) (rs : List Rl), k ≤ PX.length ∧ i = .int .i64 k ∧ Hid (rs = allR (PX.take k) NS) ∧ Hid (OneAt w #[.slice a0 l.length c0, .slice a1 g.length c1, .slice a2 h.length c2, .slice a3 qs.length c3] wr) ∧ Hid (wr.ownsRow (w.heap.size + 1) 28 2 vo rs.length (rs.flatMap Rl.cells)) ∧ Hid (∃ B, wr.ownsRow B 9 1 (.slice ao PX.length co) PX.length (strs PX))) (fun _ i _ => PX.length - (intOf i).toNat)
  case atStart => exact ⟨0, [], by omega, rfl, Lib.hid rfl, HT, Lib.hid (World.ownsRow_nil _ _ _ _), Lib.hid ⟨_, HP.out⟩⟩
  case round =>
    clear HT HP
    obtain ⟨k, rs, hk, rfl, HE, HT, HO, HP⟩ := hrel
    obtain ⟨BP, hop⟩ := HP.out
    have HP := Lib.hid hop
    obtain ⟨oo, oc, rfl⟩ := own_form HO.out
    obtain ⟨cs, fs, zs⟩ := HT.out.a
    have hrl : rs.length ≤ 7 * 4 := by rw [HE.out, allR_len]; exact Nat.mul_le_mul (by have := List.length_take_le k PX; omega) h4
    by_cases hlt : k < PX.length
    · obtain ⟨b1, o1, rfl, p0, hc1, hm1, hb1⟩ := own_text hop hlt rfl
      have HF := Lib.hid (allR_snoc (B := NS) hlt)
      clear hop
      generalize PX[k] = x at *
      go_wp2_with fail
      refine (PN.out _ HT.out.low).mono ?_
      rintro e w2 ⟨vn, rfl, hon, _, hb2⟩
      obtain ⟨an, cn, rfl⟩ := own_form hon
      have HT2 := Lib.hid (HT.out.later hb2)
      have HO2 := Lib.hid (own_below HO.out hb2)
      have HP2 := Lib.hid (own_below HP.out hb2)
      have HN2 := Lib.hid hon
      clear hon hb2 cs fs zs p0 HT HO HP
      go_wp2_with fail
      go_loopw [3, 18] (fun vo i wr2 => ∃ (j : Nat) (ss : List Rl), j ≤ NS.length ∧ i = .int .i64 j ∧ Hid (ss = rs ++ (NS.take j).map (fun n => ⟨x, n⟩)) ∧ Hid (OneAt w #[.slice a0 l.length c0, .slice a1 g.length c1, .slice a2 h.length c2, .slice a3 qs.length c3] wr2) ∧ Hid (wr2.ownsRow (w.heap.size + 1) 28 2 vo ss.length (ss.flatMap Rl.cells)) ∧ Hid (wr2.ownsRow BP 9 1 (.slice (some ⟨b1, o1, none⟩) PX.length co) PX.length (strs PX)) ∧ Hid (wr2.ownsRow wr.heap.size 9 1 (.slice an NS.length cn) NS.length (strs NS))) (fun _ i _ => NS.length - (intOf i).toNat)
      case atStart => exact ⟨0, rs, by omega, rfl, Lib.hid (by simp), HT2, HO2, HP2, HN2⟩
      case round =>
        clear HT2 HO2 HP2 HN2
        obtain ⟨j, ss, hj, rfl, HE2, HT, HO, HP, HN⟩ := hrel
        obtain ⟨oo, oc, rfl⟩ := own_form HO.out
        obtain ⟨cs, fs, zs⟩ := HT.out.a
        have hsl : ss.length ≤ rs.length + 4 := by rw [HE2.out, List.length_append, List.length_map]; have := List.length_take_le j NS; omega
        by_cases hlt2 : j < NS.length
        · obtain ⟨b2, o2, rfl, p0, hc2, hm2, hb2⟩ := own_text HN.out hlt2 rfl
          have HF2 := Lib.hid (map_snocT (f := fun n => (⟨x, n⟩ : Rl)) hlt2)
          generalize NS[j] = y at *
          go_wp2_with (at_builtin; refine halt_ ?_)
          unfold Halt_
          refine app_own Tryz.underlying23 rl_info' rfl (by decide) (by decide) rfl _ _ rfl (w.heap.size + 1) rfl (HO.out.alloc _) [.string x, .string y] rfl (heap_new1 _ _) rfl (rlc_one ⟨x, y⟩) ?_ ?_ ?_
          · omega
          · have := HT.out.a.2.2; simp; omega
          intro a' cap' w3 hown' hgrow
          obtain ⟨q1, q2⟩ := push_at Rl.cells (x := ⟨x, y⟩) HT.out HO.out hown' hgrow
          have HP3 := Lib.hid (own_far (HP.out.alloc _) (HO.out.alloc _) hgrow (by decide))
          have HN3 := Lib.hid (own_far (HN.out.alloc _) (HO.out.alloc _) hgrow (by decide))
          have HO3 := Lib.hid q1
          have HT3 := Lib.hid q2
          clear hown' hgrow q1 q2 cs fs zs p0
          go_wp2_with fail
          exact ⟨⟨j + 1, ss ++ [⟨x, y⟩], by omega, by go_num, Lib.hid (by rw [HF2.out, HE2.out]; simp), HT3, HO3, HP3, HN3⟩, by simp [intOf]; omega⟩
        · have HES := Lib.hid (show ss = allR (PX.take (k + 1)) NS by rw [HF.out, HE2.out, HE.out, List.take_of_length_le (show NS.length ≤ j by omega)])
          go_wp2_with fail
          exact ⟨⟨k + 1, ss, by omega, by go_num, HES, HT, HO, Lib.hid ⟨_, HP.out⟩⟩, by simp [intOf]; omega⟩
    · have HES := Lib.hid (show rs = allR PX NS by rw [HE.out, List.take_of_length_le (show PX.length ≤ k by omega)])
      have HS := Lib.hid (Sl.of_own HO.out)
      go_wp2_with fail
      refine (pol_SortRoles (.slice oo rs.length oc) rs wr HS.out.a (by omega)).mono ?_
      rintro e w4 ⟨v4, rfl, ho4, hb4⟩
      have HT4 := Lib.hid (HT.out.later hb4)
      have hrl4 := ord_lenR rs
      unfold ordR at hrl4
      rw [HES.out] at ho4 hrl4
      have hrx := RES.out
      unfold ordR at hrx
      have hz := HT.out.a.2.2
      clear HT HO HP HS
      rcases ho4 with ⟨rfl, h0⟩ | ⟨gg, cap, rfl, q1, q2, q3, q4, q5, q6⟩
      · have F := Lib.hid (show RX = [] by rw [← hrx, h0]; rfl)
        clear hb4 h0 hrx hrl4 DF cs fs zs
        obtain ⟨cs, fs, zs⟩ := HT4.out.a
        go_wp2_with fail
        refine (DN.out _).mono ?_
        rintro e w5 ⟨rfl, hb5⟩
        have HB5 := Lib.hid (HT4.out.later hb5)
        clear hb5
        go_wp2
        go_ret
        exact ⟨_, rfl, by rw [F.out]; exact Sl.nil _ _, HB5.out.low⟩
      · have D := Lib.hid (DF.out w4 gg cap _ HT4.out (by omega) (by rw [← HES.out] at hrl4 ⊢; omega) q3 q4 q2 q5 q6)
        have hmc : RX.length ≤ cap := by rw [← hrx]; exact Nat.le_trans (List.length_filter_le _ _) q3
        rw [hrx] at D
        have hlen := Lib.hid (show (insAllR [] (allR PX NS)).length = (insAllR [] (allR PX NS)).length from rfl)
        generalize insAllR [] (allR PX NS) = SR at *
        clear hb4 hrx hrl4 DF DN cs fs zs q5 q6
        obtain ⟨cs, fs, zs⟩ := HT4.out.a
        go_wp2_with fail
        refine D.out.mono ?_
        rintro e w5 ⟨rfl, hx, hg2⟩
        have HX := Lib.hid hx
        have HG := Lib.hid hg2
        clear hx hg2
        go_wp2
        go_ret
        exact ⟨_, rfl, ⟨flat_len _ _ Rl.cells_len _, by omega, .inr ⟨gg, 0, cap, rfl, hmc, by omega, Nat.lt_of_lt_of_le q2 HG.out.size, HX.out⟩⟩, below_of_grownS HT4.out.low (by omega) HG.out⟩
set_option maxRecDepth 100000 in
set_option maxHeartbeats 8000000 in
theorem high_Maximal (P : PolX w v0 v1 v2 v3 l g h qs F PS NS) (h6 : PS.length ≤ 6) (h4 : NS.length ≤ 4) : Calls Tryz.prog 39 #[pv v0 v1 v2 v3] w fun e w' => ∃ v, e = .returned v ∧ Sl w' 9 v (maxS l g PS NS).length ((maxS l g PS NS).flatMap St.cells) ∧ Below w.heap.size w w' := by
  have RO := Lib.hid (fun W (hb : Below w.heap.size w W) => high_Roles (P.below hb) h6 h4)
  have PR := Lib.hid (fun W (hb : Below w.heap.size w W) => high_prins (P.below hb))
  have hpx := putX_len PS
  have HL := Lib.hid P.at_.rs
  have hl := P.hl
  have hrx : (rolesX PS NS g).length ≤ 7 * 4 := Nat.le_trans (rolesX_len PS NS g) (Nat.mul_le_mul (by omega) h4)
  have RES := Lib.hid (show ord (l ++ memsX (rolesX PS NS g) (putX PS)) = maxS l g PS NS from rfl)
  obtain ⟨a0, c0, rfl⟩ := P.at_.rs.form
  obtain ⟨a1, c1, rfl⟩ := P.at_.rg.form
  obtain ⟨a2, c2, rfl⟩ := P.at_.rh.form
  obtain ⟨a3, c3, rfl⟩ := P.at_.rq.form
  have HT := Lib.hid (show OneAt w #[.slice a0 l.length c0, .slice a1 g.length c1, .slice a2 h.length c2, .slice a3 qs.length c3] (w.alloc (.cells #[.slice a0 l.length c0, .slice a1 g.length c1, .slice a2 h.length c2, .slice a3 qs.length c3] 26)) from ⟨Blk.new w _ _, (Below.refl _ _).alloc (Nat.le_refl _) _⟩)
  clear P
  generalize putX PS = PX at *
  generalize rolesX PS NS g = RX at *
  have hp7 : PX.length ≤ 7 := by omega
  generalize maxS l g PS NS = ms at *
  go_enter Tryz.func39, Tryz.ntmps39
  go_wp2_with fail
  refine (PR.out _ HT.out.low).mono ?_
  rintro e w1 ⟨vp, rfl, ho, hb1⟩
  obtain ⟨ao, co, rfl⟩ := own_form ho
  have HT := Lib.hid (HT.out.later hb1)
  have HP := Lib.hid ho
  clear ho hb1 PR
  obtain ⟨cs, fs, zs⟩ := HT.out.a
  go_wp2_with fail
  refine (RO.out _ HT.out.low).mono ?_
  rintro e w2 ⟨vr, rfl, hsr, hb2⟩
  obtain ⟨ar, cr, rfl⟩ := hsr.form
  have HP := Lib.hid (own_below HP.out hb2)
  have HT := Lib.hid (HT.out.later hb2)
  have HR := Lib.hid hsr
  clear hsr hb2 RO cs fs zs
  go_wp2_with fail
  have hzw : w.heap.size ≤ w2.heap.size := HT.out.low.size
  go_loopw [3, 14] (fun vo i wr => ∃ (k : Nat) (rs : List St), k ≤ RX.length ∧ i = .int .i64 k ∧ Hid (rs = memsX (RX.take k) PX) ∧ Hid (Below w2.heap.size w2 wr) ∧ Hid (wr.ownsRow w2.heap.size 35 9 vo rs.length (rs.flatMap St.cells))) (fun _ i _ => RX.length - (intOf i).toNat)
  case atStart => exact ⟨0, [], by omega, rfl, Lib.hid rfl, Lib.hid (Below.refl _ _), Lib.hid (World.ownsRow_nil _ _ _ _)⟩
  case round =>
    obtain ⟨k, rs, hk, rfl, HE, HB, HO⟩ := hrel
    obtain ⟨oo, oc, rfl⟩ := own_form HO.out
    have hrl : rs.length ≤ 28 * 7 := by rw [HE.out, memsX_len]; exact Nat.mul_le_mul (by have := List.length_take_le k RX; omega) hp7
    by_cases hlt : k < RX.length
    · obtain ⟨b1, o1, e1, he1, hc1, hm1', hb1, hx1⟩ := (HR.out.below HB.out).pos (by omega)
      simp only [Value.slice.injEq, true_and] at he1
      obtain ⟨rfl, rfl⟩ := he1
      obtain ⟨p0, p1⟩ := rl_cell hx1 k hlt
      have HF := Lib.hid (memsX_snoc (A := PX) hlt)
      clear hx1
      generalize RX[k] = x at *
      obtain ⟨x1, x2⟩ := x
      have HB2 := Lib.hid (HB.out.alloc HB.out.size (.cells #[.string x1, .string x2] 28))
      have HO2 := Lib.hid (HO.out.alloc (.cells #[.string x1, .string x2] 28))
      have HX2 := Lib.hid (show CAt (wr.alloc (.cells #[.string x1, .string x2] 28)) wr.heap.size #[.string x1, .string x2] 28 from heap_new1 _ _)
      go_wp2_with fail
      go_loopw [3, 20] (fun vo i wr2 => ∃ (j : Nat) (ss : List St), j ≤ PX.length ∧ i = .int .i64 j ∧ Hid (ss = rs ++ (PX.take j).map (memS ⟨x1, x2⟩)) ∧ Hid (Below w2.heap.size w2 wr2) ∧ Hid (wr2.ownsRow w2.heap.size 35 9 vo ss.length (ss.flatMap St.cells)) ∧ Hid (CAt wr2 wr.heap.size #[.string x1, .string x2] 28)) (fun _ i _ => PX.length - (intOf i).toNat)
      case atStart => exact ⟨0, rs, by omega, rfl, Lib.hid (by simp), HB2, HO2, HX2⟩
      case round =>
        clear HB2 HO2 HX2
        obtain ⟨j, ss, hj, rfl, HE2, HB, HO, HX⟩ := hrel
        obtain ⟨oo, oc, rfl⟩ := own_form HO.out
        obtain ⟨cs, fs, zs⟩ := HX.out.blk
        have hsl : ss.length ≤ rs.length + 7 := by rw [HE2.out, List.length_append, List.length_map]; have := List.length_take_le j PX; omega
        by_cases hlt2 : j < PX.length
        · obtain ⟨b2, o2, rfl, q0, hc2, hm2, hb2⟩ := own_text (own_below HP.out HB.out) hlt2 rfl
          have HF2 := Lib.hid (map_snocT (f := memS ⟨x1, x2⟩) hlt2)
          generalize PX[j] = y at *
          go_wp2_with (at_builtin; refine halt_ ?_)
          unfold Halt_
          refine app_own Tryz.underlying22 st_info rfl (by decide) (by decide) rfl _ _ rfl w2.heap.size rfl (HO.out.alloc _) [.int .i64 1, .string x1, .string x2, .string y, .string emp, .string emp, .string emp, .string emp, .string emp] rfl (heap_new1 _ _) rfl (st1s _ _ _ _ _ _ _ _ _) ?_ ?_ ?_
          · omega
          · have := HB.out.size; simp; omega
          intro a' cap' w3 hown' hgrow
          have HX3 := Lib.hid ((HX.out.alloc _).grown (HO.out.alloc _) hgrow (by decide))
          have HB3 := Lib.hid (below_own (HB.out.alloc HB.out.size _) (HO.out.alloc _) hgrow (HB.out.alloc HB.out.size (.cells #[.int .i64 1, .string x1, .string x2, .string y, .string emp, .string emp, .string emp, .string emp, .string emp] 35)).size (Nat.le_refl _))
          have HO3 := Lib.hid (show w3.ownsRow w2.heap.size 35 9 (.slice a' (ss.length + 1) cap') (ss ++ [memS ⟨x1, x2⟩ y]).length ((ss ++ [memS ⟨x1, x2⟩ y]).flatMap St.cells) by rw [List.length_append, List.flatMap_append]; exact hown')
          clear hown' hgrow cs fs zs q0
          go_wp2_with fail
          exact ⟨⟨j + 1, ss ++ [memS ⟨x1, x2⟩ y], by omega, by go_num, Lib.hid (by rw [HF2.out, HE2.out]; simp), HB3, HO3, HX3⟩, by simp [intOf]; omega⟩
        · have HES := Lib.hid (show ss = memsX (RX.take (k + 1)) PX by rw [HF.out, HE2.out, HE.out, List.take_of_length_le (show PX.length ≤ j by omega)])
          go_wp2_with fail
          exact ⟨⟨k + 1, ss, by omega, by go_num, HES, HB, HO⟩, by simp [intOf]; omega⟩
    · have HES := Lib.hid (show rs = memsX RX PX by rw [HE.out, List.take_of_length_le (show RX.length ≤ k by omega)])
      have HS := Lib.hid (Sl.of_own HO.out)
      have HT := Lib.hid (HT.out.later HB.out)
      obtain ⟨cs, fs, zs⟩ := HT.out.a
      have HLw := Lib.hid (HL.out.below HT.out.low)
      go_wp2_with fail
      refine (state_Union (.slice a0 l.length c0) (.slice oo rs.length oc) l rs wr HLw.out HS.out.a (by omega) (by omega)).mono ?_
      rintro e w4 ⟨v4, rfl, hs4, hb4⟩
      rw [HES.out, RES.out] at hs4
      obtain ⟨a4, c4', rfl⟩ := hs4.form
      have HT := Lib.hid (HT.out.later hb4)
      have HS4 := Lib.hid hs4
      clear hs4 hb4 cs fs zs
      go_wp2
      go_ret
      exact ⟨_, rfl, HS4.out, HT.out.low⟩
end
end Go.Proofs.YtnnieegddbcfcaaGreatDoor
namespace Go.Proofs.YtnnieegddbcfcaaGreatDoor
open Go.RowKit Go.Shelf

section
variable {w : World} {v0 v1 v2 v3 : Value} {l : List St} {g h : List Rl} {qs : List Qv} {F : Qv → List ByteArray} {PS NS : List ByteArray}
set_option maxRecDepth 100000 in
set_option maxHeartbeats 4000000 in
theorem high_Eval (P : PolX w v0 v1 v2 v3 l g h qs F PS NS) (h6 : PS.length ≤ 6) (h4 : NS.length ≤ 4) :
    Calls Tryz.prog 38 #[pv v0 v1 v2 v3] w fun e w' => ∃ t M fs st, e = .returned (.tuple #[.pointer (some ⟨t, 0, none⟩), .pointer (some ⟨M, 0, none⟩)]) ∧ TmAt w' t M (putX PS) NS (maxS l g PS NS) fs st ∧ Below w.heap.size w w' := by
  have HT0 := Lib.hid (show OneAt w #[v0, v1, v2, v3] (w.alloc (.cells #[v0, v1, v2, v3] 26)) from ⟨Blk.new w _ _, (Below.refl _ _).alloc (Nat.le_refl _) _⟩)
  have TF := Lib.hid (fun vm more W (hb : Below w.heap.size w W) (hm : SlA W 1 vm more.length (strs more)) hml => table_For v0 v1 v2 v3 vm l g h qs more W (P.at_.below hb) P.hl P.hg P.hh P.hq F (P.hF.below hb) hm hml)
  rw [P.eP, P.eN, P.idemN] at TF
  have FR := Lib.hid (fun W (hb : Below w.heap.size w W) => high_Fresh (P.below hb))
  have MN := Lib.hid (fun W (hb : Below w.heap.size w W) => high_Maximal (P.below hb) h6 h4)
  have HTB := Lib.hid P.hT
  have EP := Lib.hid P.putP
  have hml := maxS_len l g PS NS
  have hl := P.hl
  have hmn : (PS.length + 1) * (PS.length + 1) * NS.length ≤ 7 * 7 * 4 := Nat.mul_le_mul (Nat.mul_le_mul (by omega) (by omega)) h4
  have hms : Hid (allLe (maxS l g PS NS) 4294967) := Lib.hid (maxS_le P.hs P.rP P.rN P.hps)
  have hpx := putX_len PS
  obtain ⟨a0, c0, rfl⟩ := P.at_.rs.form
  obtain ⟨a1, c1, rfl⟩ := P.at_.rg.form
  obtain ⟨a2, c2, rfl⟩ := P.at_.rh.form
  obtain ⟨a3, c3, rfl⟩ := P.at_.rq.form
  clear P
  generalize maxS l g PS NS = ms at *
  generalize putX PS = PX at *
  generalize freshB PS = x at *
  have hrl := rulesN_len PX NS ms
  go_enter Tryz.func38, Tryz.ntmps38
  go_wp2_with fail
  refine wp_region_held_drew (S := (fun W => ∀ o, W.cell? ⟨w.heap.size, o, none⟩ = (#[.slice a0 l.length c0, .slice a1 g.length c1, .slice a2 h.length c2, .slice a3 qs.length c3] : Array Value)[o]?)) (by kernel_rfl) HT0.out.drew.a.1 (fun hHeld => ?_)
  have HT := HT0.out.drew
  obtain ⟨wk, hwk⟩ : ∃ W, W = (w.alloc (.cells #[.slice a0 l.length c0, .slice a1 g.length c1, .slice a2 h.length c2, .slice a3 qs.length c3] 26)).drew := ⟨_, rfl⟩
  rw [← hwk] at HT hHeld ⊢
  clear hwk HT0
  (refine held_yes (v := ?_) 0 rfl (by kernel_rfl) (by kernel_rfl) (by kernel_rfl) (fun _ _ _ h => h) (by rfl) (by assumption) ?_ ?_; rotate_left; (focus ((intro w hSw); (try dsimp only at hSw); go_simp; (try with_reducible rfl))); (try simp only [Act.put, List.setIfInBounds_toArray, List.set_cons_zero, List.set_cons_succ])); (refine held_yes (v := ?_) 1 rfl (by kernel_rfl) (by kernel_rfl) (by kernel_rfl) (fun _ _ _ h => h) (by rfl) (by assumption) ?_ ?_; rotate_left; (focus ((intro w hSw); (try dsimp only at hSw); go_simp; (try with_reducible rfl))); (try simp only [Act.put, List.setIfInBounds_toArray, List.set_cons_zero, List.set_cons_succ]))
  (refine held_call 2 rfl (by kernel_rfl) (fun K hK => ?_); go_simp)
  go_at_call 40; refine (FR.out _ HT.low).mono ?_; rintro e w2 ⟨rfl, hb2⟩; have HT := HT.later hb2; clear FR hb2
  (refine hK.out _ _ (HT.a.1) (fun hHeld => ?_); clear hK K; (try simp only [Act.put, List.setIfInBounds_toArray, List.set_cons_zero, List.set_cons_succ]))
  (refine held_call 3 rfl (by kernel_rfl) (fun K hK => ?_); go_simp)
  obtain ⟨wn, hwn⟩ : ∃ V, V = w2.alloc (.cells #[.string x] 9) := ⟨_, rfl⟩
  obtain ⟨b8, hb8⟩ : ∃ b, b = w2.heap.size := ⟨_, rfl⟩
  rw [← hwn, ← hb8]
  have hbq : Below w2.heap.size w2 wn := by rw [hwn]; exact (Below.refl _ _).alloc (Nat.le_refl _) _
  have Hc : Sl wn 1 (.slice (some ⟨b8, 0, none⟩) 1 1) 1 (strs [x]) := by rw [hwn]; exact Sl.new w2 [.string x] 9 1 1 b8 hb8 rfl (by simp [maxLen])
  have HT := HT.later hbq
  clear hbq hwn hb8
  (refine hK.out _ _ (HT.a.1) (fun hHeld => ?_); clear hK K; (try simp only [Act.put, List.setIfInBounds_toArray, List.set_cons_zero, List.set_cons_succ]))
  (refine held_call 4 rfl (by kernel_rfl) (fun K hK => ?_); go_simp)
  go_at_call 89; refine (TF.out _ [x] _ HT.low Hc.a (by simp)).mono ?_; rintro e w4 ⟨t, ba, bb, rfl, ht, hb4⟩; rw [EP.out] at ht; have HT := HT.later hb4; have HTb := Lib.hid ht; clear ht hb4 TF Hc EP
  (refine hK.out _ _ (HT.a.1) (fun hHeld => ?_); clear hK K; (try simp only [Act.put, List.setIfInBounds_toArray, List.set_cons_zero, List.set_cons_succ]))
  (refine held_yes (v := ?_) 5 rfl (by kernel_rfl) (by kernel_rfl) (by kernel_rfl) (fun _ _ _ h => h) (by rfl) (by assumption) ?_ ?_; rotate_left; (focus ((intro w hSw); (try dsimp only at hSw); go_simp; (try with_reducible rfl))); (try simp only [Act.put, List.setIfInBounds_toArray, List.set_cons_zero, List.set_cons_succ]))
  refine wpAnyH_done (by kernel_rfl) ?_ _
  have HT1 := Lib.hid HT
  clear HT
  go_wp2_with fail
  refine wp_region_held_drew (S := (fun W => ∀ o, W.cell? ⟨w.heap.size, o, none⟩ = (#[.slice a0 l.length c0, .slice a1 g.length c1, .slice a2 h.length c2, .slice a3 qs.length c3] : Array Value)[o]?)) (by kernel_rfl) HT1.out.drew.a.1 (fun hHeld => ?_)
  have HT := HT1.out.drew
  have HTb := Lib.hid (HTb.out.below (below_drew (Below.refl _ w4)))
  obtain ⟨wk, hwk⟩ : ∃ W, W = w4.drew := ⟨_, rfl⟩
  rw [← hwk] at HT HTb hHeld ⊢
  clear hwk HT1
  (refine held_yes (v := ?_) 0 rfl (by kernel_rfl) (by kernel_rfl) (by kernel_rfl) (fun _ _ _ h => h) (by rfl) (by assumption) ?_ ?_; rotate_left; (focus ((intro w hSw); (try dsimp only at hSw); go_simp; (try with_reducible rfl))); (try simp only [Act.put, List.setIfInBounds_toArray, List.set_cons_zero, List.set_cons_succ])); (refine held_yes (v := ?_) 1 rfl (by kernel_rfl) (by kernel_rfl) (by kernel_rfl) (fun _ _ _ h => h) (by rfl) (by assumption) ?_ ?_; rotate_left; (focus ((intro w hSw); (try dsimp only at hSw); go_simp; (try with_reducible rfl))); (try simp only [Act.put, List.setIfInBounds_toArray, List.set_cons_zero, List.set_cons_succ])); (refine held_yes (v := ?_) 4 rfl (by kernel_rfl) (by kernel_rfl) (by kernel_rfl) (fun _ _ _ h => h) (by rfl) (by assumption) ?_ ?_; rotate_left; (focus ((intro w hSw); (try dsimp only at hSw); go_simp; (try with_reducible rfl))); (try simp only [Act.put, List.setIfInBounds_toArray, List.set_cons_zero, List.set_cons_succ])); (refine held_yes (v := ?_) 7 rfl (by kernel_rfl) (by kernel_rfl) (by kernel_rfl) (fun _ _ _ h => h) (by rfl) (by assumption) ?_ ?_; rotate_left; (focus ((intro w hSw); (try dsimp only at hSw); go_simp; (try with_reducible rfl))); (try simp only [Act.put, List.setIfInBounds_toArray, List.set_cons_zero, List.set_cons_succ])); (refine held_yes (v := ?_) 8 rfl (by kernel_rfl) (by kernel_rfl) (by kernel_rfl) (fun _ _ _ h => h) (by rfl) (by assumption) ?_ ?_; rotate_left; (focus ((intro w hSw); (try dsimp only at hSw); go_simp; (try with_reducible rfl))); (try simp only [Act.put, List.setIfInBounds_toArray, List.set_cons_zero, List.set_cons_succ]))
  (refine held_call 2 rfl (by kernel_rfl) (fun K hK => ?_); go_simp)
  go_at_call 32; refine (table_Prins HTb.out).mono ?_; rintro e w2 ⟨rfl, rfl⟩
  (refine hK.out _ _ (HT.a.1) (fun hHeld => ?_); clear hK K; (try simp only [Act.put, List.setIfInBounds_toArray, List.set_cons_zero, List.set_cons_succ]))
  (refine held_call 3 rfl (by kernel_rfl) (fun K hK => ?_); go_simp)
  go_at_call 91; refine (tab_Len ba PX _ HTb.out.ta).mono ?_; rintro e w2 ⟨rfl, rfl⟩
  (refine hK.out _ _ (HT.a.1) (fun hHeld => ?_); clear hK K; (try simp only [Act.put, List.setIfInBounds_toArray, List.set_cons_zero, List.set_cons_succ]))
  (refine held_call 5 rfl (by kernel_rfl) (fun K hK => ?_); go_simp)
  go_at_call 92; refine (table_Links HTb.out).mono ?_; rintro e w2 ⟨rfl, rfl⟩
  (refine hK.out _ _ (HT.a.1) (fun hHeld => ?_); clear hK K; (try simp only [Act.put, List.setIfInBounds_toArray, List.set_cons_zero, List.set_cons_succ]))
  (refine held_call 6 rfl (by kernel_rfl) (fun K hK => ?_); go_simp)
  go_at_call 91; refine (tab_Len bb NS _ HTb.out.tb).mono ?_; rintro e w2 ⟨rfl, rfl⟩
  (refine hK.out _ _ (HT.a.1) (fun hHeld => ?_); clear hK K; (try simp only [Act.put, List.setIfInBounds_toArray, List.set_cons_zero, List.set_cons_succ]))
  (refine held_call 9 rfl (by kernel_rfl) (fun K hK => ?_); go_simp)
  go_at_call 39; refine (MN.out _ HT.low).mono ?_; rintro e w3 ⟨v3, rfl, hs3, hb3⟩; have HT3 := HT.later hb3; have HTb3 := Lib.hid (HTb.out.below hb3); have HS3 := Lib.hid hs3; clear hs3 hb3
  (refine hK.out _ _ (HT3.a.1) (fun hHeld => ?_); clear hK K; (try simp only [Act.put, List.setIfInBounds_toArray, List.set_cons_zero, List.set_cons_succ]))
  (refine held_call 10 rfl (by kernel_rfl) (fun K hK => ?_); go_simp)
  go_at_call 93; refine (table_Rules v3 ms _ HTb3.out HS3.out.a hms.out (by omega)).mono ?_; rintro e w4 ⟨v4, rfl, ho4, hb4⟩; have HT4 := HT3.later hb4; have HTb4 := Lib.hid (HTb3.out.below hb4); have HS4 := Lib.hid (Sl.of_own ho4); clear ho4 hb4
  (refine hK.out _ _ (HT4.a.1) (fun hHeld => ?_); clear hK K; (try simp only [Act.put, List.setIfInBounds_toArray, List.set_cons_zero, List.set_cons_succ]))
  (refine held_call 11 rfl (by kernel_rfl) (fun K hK => ?_); go_simp)
  go_at_call 90; refine (sem_Eval PX.length NS.length v4 (rulesN PX NS ms) _ (by omega) (by omega) HS4.out.a (by omega) (HTB.out.below HT4.low)).mono ?_; rintro e w5 ⟨M, F5, W05, g05, fs, st, rfl, hm, hlst, hst, hb5⟩; have HT5 := HT4.later hb5; have HTb5 := Lib.hid (HTb4.out.below hb5); have HM5 := Lib.hid hm; have HL5 := Lib.hid hlst; have HS5 := Lib.hid hst; clear hm hlst hst hb5
  (refine hK.out _ _ (HT5.a.1) (fun hHeld => ?_); clear hK K; (try simp only [Act.put, List.setIfInBounds_toArray, List.set_cons_zero, List.set_cons_succ]))
  (refine held_yes (v := ?_) 12 rfl (by kernel_rfl) (by kernel_rfl) (by kernel_rfl) (fun _ _ _ h => h) (by rfl) (by assumption) ?_ ?_; rotate_left; (focus ((intro w hSw); (try dsimp only at hSw); go_simp; (try with_reducible rfl))); (try simp only [Act.put, List.setIfInBounds_toArray, List.set_cons_zero, List.set_cons_succ])); (refine held_yes (v := ?_) 13 rfl (by kernel_rfl) (by kernel_rfl) (by kernel_rfl) (fun _ _ _ h => h) (by rfl) (by assumption) ?_ ?_; rotate_left; (focus ((intro w hSw); (try dsimp only at hSw); go_simp; (try with_reducible rfl))); (try simp only [Act.put, List.setIfInBounds_toArray, List.set_cons_zero, List.set_cons_succ]))
  refine wpAnyH_done (by kernel_rfl) ?_ _
  have HT := Lib.hid HT5
  clear HT5
  go_wp2
  go_ret2
  exact ⟨t, M, fs, st, rfl, ⟨⟨ba, bb, HTb5.out⟩, ⟨F5, W05, g05, HM5.out⟩, HL5.out, HS5.out⟩, HT.out.low⟩
set_option maxRecDepth 100000 in
set_option maxHeartbeats 4000000 in
theorem high_Steps (P : PolX w v0 v1 v2 v3 l g h qs F PS NS) (h6 : PS.length ≤ 6) (h4 : NS.length ≤ 4) :
    Calls Tryz.prog 50 #[pv v0 v1 v2 v3] w fun e w' => ∃ (t M : Nat) (fs : List (Nat × Nat)) (st : Nat), e = .returned (.int .i64 st) ∧ TmAt w' t M (putX PS) NS (maxS l g PS NS) fs st ∧ Below w.heap.size w w' := by
  have hw : Below w.heap.size w (w.alloc (.cells #[v0, v1, v2, v3] 26)) := (Below.refl _ _).alloc (Nat.le_refl _) _
  have EV := Lib.hid (high_Eval (P.below hw) h6 h4)
  obtain ⟨a0, c0, rfl⟩ := P.at_.rs.form
  obtain ⟨a1, c1, rfl⟩ := P.at_.rg.form
  obtain ⟨a2, c2, rfl⟩ := P.at_.rh.form
  obtain ⟨a3, c3, rfl⟩ := P.at_.rq.form
  have HW := Lib.hid hw
  clear P hw
  go_enter Tryz.func50, Tryz.ntmps50
  go_wp2_with fail
  refine EV.out.mono ?_
  rintro e w1 ⟨t, M, fs, st, rfl, ht, hb⟩
  have HB := Lib.hid (HW.out.trans (hb.mono HW.out.size))
  obtain ⟨F5, W0, g0, hm⟩ := ht.mod
  have HM := Lib.hid (model_Steps hm)
  have HT := Lib.hid ht
  clear ht hb hm EV
  go_wp2_with fail
  refine HM.out.mono ?_
  rintro e w2 ⟨rfl, rfl⟩
  go_wp2
  go_ret
  exact ⟨t, M, fs, st, rfl, HT.out, HB.out⟩
set_option maxRecDepth 100000 in
set_option maxHeartbeats 4000000 in
theorem high_MembersN (P : PolX w v0 v1 v2 v3 l g h qs F PS NS) (h6 : PS.length ≤ 6) (h4 : NS.length ≤ 4) (r : Rl) :
    Calls Tryz.prog 45 #[pv v0 v1 v2 v3, rv r] w fun e w' => ∃ (v : Value) (fs : List (Nat × Nat)), e = .returned v ∧ LeastN NS.length (goodR (putX PS).length NS.length (rulesN (putX PS) NS (maxS l g PS NS))) (fun r x => (r, x) ∈ fs) ∧ (∀ f ∈ fs, f.2 < (putX PS).length) ∧
      Sl w' 1 v (whoN (putX PS) (colsI fs (roleN (putX PS) NS r))).length (strs (whoN (putX PS) (colsI fs (roleN (putX PS) NS r)))) ∧ Below w.heap.size w w' := by
  have hw : Below w.heap.size w ((w.alloc (.cells #[v0, v1, v2, v3] 26)).alloc (.cells #[.string r.o, .string r.n] 28)) := ((Below.refl _ _).alloc (Nat.le_refl _) _).alloc (by simp) _
  have HX := Lib.hid (show Blk ((w.alloc (.cells #[v0, v1, v2, v3] 26)).alloc (.cells #[.string r.o, .string r.n] 28)) (w.heap.size + 1) #[.string r.o, .string r.n] by have := Blk.new (w.alloc (.cells #[v0, v1, v2, v3] 26)) #[.string r.o, .string r.n] 28; simpa using this)
  have EV := Lib.hid (high_Eval (P.below hw) h6 h4)
  have HTB := Lib.hid P.hT
  obtain ⟨a0, c0, rfl⟩ := P.at_.rs.form
  obtain ⟨a1, c1, rfl⟩ := P.at_.rg.form
  obtain ⟨a2, c2, rfl⟩ := P.at_.rh.form
  obtain ⟨a3, c3, rfl⟩ := P.at_.rq.form
  have HW := Lib.hid hw
  have hpx := putX_len PS
  generalize putX PS = PX at *
  generalize maxS l g PS NS = ms at *
  clear P hw
  obtain ⟨r1, r2⟩ := r
  go_enter Tryz.func45, Tryz.ntmps45
  go_wp2_with fail
  refine EV.out.mono ?_
  rintro e w1 ⟨t, M, fs, st, rfl, ht, hb⟩
  have HB := Lib.hid (HW.out.trans (hb.mono HW.out.size))
  have HX1 := Lib.hid (HX.out.below hb)
  have HT1 := Lib.hid ht
  clear ht hb EV HX
  obtain ⟨cx, fx, zx⟩ := HX1.out
  obtain ⟨ba, bb, htb⟩ := HT1.out.tbl
  obtain ⟨F5, W0, g0, hm⟩ := HT1.out.mod
  have RO := Lib.hid (table_Role htb ⟨r1, r2⟩)
  have ML := Lib.hid (fun i => model_Members hm (HTB.out.below HB.out) i)
  clear htb hm
  go_wp2_with fail
  refine RO.out.mono ?_
  rintro e w2 ⟨rfl, hb2⟩
  have HT2 := Lib.hid (HT1.out.below hb2)
  have HB2 := Lib.hid (HB.out.trans (hb2.mono HB.out.size))
  clear hb2 RO ML HX1 HT1 HB cx fx zx
  obtain ⟨ba, bb, htb⟩ := HT2.out.tbl
  obtain ⟨F5, W0, g0, hm⟩ := HT2.out.mod
  have ML := Lib.hid (model_Members hm (HTB.out.below HB2.out) (roleN PX NS ⟨r1, r2⟩))
  have hcl := colsI_len fs (roleN PX NS ⟨r1, r2⟩)
  have HLL := Lib.hid HT2.out.least
  have HRG := Lib.hid HT2.out.rng
  clear hm
  go_wp2_with fail
  generalize hρ : roleN PX NS ⟨r1, r2⟩ = ρ at *
  have HRo := Lib.hid hρ
  clear hρ
  obtain ⟨cs, hcs⟩ : ∃ cs, cs = colsI fs ρ := ⟨_, rfl⟩
  rw [← hcs] at ML hcl
  refine ML.out.mono ?_
  rintro e w3 ⟨v3, rfl, ho3, hb3⟩
  obtain ⟨ca, cc, rfl⟩ := own_form ho3
  have HTb3 := Lib.hid (htb.below hb3)
  have HB3 := Lib.hid (HB2.out.trans (hb3.mono HB2.out.size))
  have HC3 := Lib.hid (Sl.of_own ho3)
  have HCS := Lib.hid hcs
  clear ho3 hb3 ML HT2 HB2 htb hcs
  go_wp2_with fail
  go_loopw [4, 20] (fun vo i wr => ∃ (j : Nat) (ys : List ByteArray), j ≤ cs.length ∧ i = .int .i64 j ∧ Hid (ys = whoN PX (cs.take j)) ∧ Hid (Below w3.heap.size w3 wr) ∧ Hid (wr.ownsRow w3.heap.size 9 1 vo ys.length (strs ys))) (fun _ i _ => cs.length - (intOf i).toNat)
  case atStart => exact ⟨0, [], by omega, rfl, Lib.hid rfl, Lib.hid (Below.refl _ _), Lib.hid (World.ownsRow_nil _ _ _ _)⟩
  case round =>
    obtain ⟨j, ys, hjle, rfl, HE, HBw, HO⟩ := hrel
    obtain ⟨oo, oc, rfl⟩ := own_form HO.out
    have hyl : ys.length ≤ 64 := by rw [HE.out]; unfold whoN; rw [List.length_map]; have := List.length_take_le j cs; omega
    by_cases hlt : j < cs.length
    · obtain ⟨b1, o1, e1, he1, hc1, hm1', hb1, hx1⟩ := HC3.out.pos (by omega)
      simp only [Value.slice.injEq, true_and] at he1
      obtain ⟨rfl, rfl⟩ := he1
      have hcj : (ints cs)[j]? = some (.int .i64 (cs[j] : Nat)) := by unfold ints; rw [List.getElem?_map, List.getElem?_eq_getElem hlt]; rfl
      have p0 := (HBw.out.cell (p := ⟨b1, o1 + j, none⟩) hb1).trans (hx1 j _ hcj)
      have hbr : b1 < wr.heap.size := Nat.lt_of_lt_of_le hb1 HBw.out.size
      have HS := Lib.hid (show whoN PX (cs.take (j + 1)) = whoN PX (cs.take j) ++ [atB PX (cs[j] : Nat)] by unfold whoN; rw [take_snoc hlt, List.map_append]; rfl)
      have hc64 : cs[j] < 64 := by
        have hm := List.getElem_mem hlt
        generalize cs[j] = c at *
        rw [HCS.out] at hm
        unfold colsI at hm
        split at hm
        · exact (colsOf_mem.1 hm).1
        · cases hm
      clear hx1 hcj
      generalize cs[j] = c at *
      have HTw := Lib.hid (HTb3.out.below HBw.out)
      have PR := Lib.hid (table_Prins HTw.out)
      have AT := Lib.hid (tab_At ba PX (c : Int) wr HTw.out.ta (by omega))
      generalize atB PX (c : Int) = x at *
      go_wp2_with fail
      refine PR.out.mono ?_
      rintro e w5 ⟨rfl, rfl⟩
      go_wp2_with fail
      refine AT.out.mono ?_
      rintro e w5 ⟨rfl, rfl⟩
      have hown := HO.out
      clear PR AT
      go_wp2_with (at_builtin; refine halt_ ?_)
      unfold Halt_
      refine app_own Tryz.underlying38 str_info rfl (by decide) (by decide) rfl _ _ rfl w3.heap.size rfl (hown.alloc _) [.string x] rfl (heap_new1 _ _) rfl (str1 _) ?_ ?_ ?_
      · omega
      · have := HBw.out.size; simp; omega
      intro a' cap' w6 hown' hgrow
      have HB6 := Lib.hid (below_own (HBw.out.alloc HBw.out.size (.cells #[.string x] 9)) (hown.alloc _) hgrow (HBw.out.alloc HBw.out.size _).size (Nat.le_refl _))
      have HO6 := Lib.hid (show w6.ownsRow w3.heap.size 9 1 (.slice a' (ys.length + 1) cap') (ys ++ [x]).length (strs (ys ++ [x])) by rw [List.length_append, strs_snoc]; exact hown')
      clear hown hown' hgrow
      go_wp2_with fail
      exact ⟨⟨j + 1, ys ++ [x], by omega, by go_num, Lib.hid (by rw [HS.out, HE.out]), HB6, HO6⟩, by simp [intOf]; omega⟩
    · have HRS := Lib.hid (show ys = whoN PX cs by rw [HE.out, List.take_of_length_le (show cs.length ≤ j by omega)])
      rw [HCS.out, ← HRo.out] at HRS
      go_wp2_with fail
      go_ret
      exact ⟨_, fs, rfl, HLL.out, HRG.out, by rw [← HRS.out]; exact Sl.of_own HO.out, HB3.out.trans (HBw.out.mono HB3.out.size)⟩
end
end Go.Proofs.YtnnieegddbcfcaaGreatDoor
namespace Go.Proofs.YtnnieegddbcfcaaGreatDoor
open Go.RowKit Go.Shelf

/-- Every row of statements has a least relation, a row of pairs. -/
theorem least_ex (l : List St) : ∃ ps : List Pr, LeastS l (fun r x => (r, x) ∈ ps) := by
  obtain ⟨cand, hcand⟩ : ∃ c : List Pr, c = l.flatMap (fun s => l.map (fun t => (s.h, t.who))) := ⟨_, rfl⟩
  have cm : ∀ r x, (r, x) ∈ cand ↔ (∃ s ∈ l, s.h = r) ∧ ∃ t ∈ l, t.who = x := by
    intro r x
    rw [hcand, List.mem_flatMap]
    constructor
    · rintro ⟨s, hs, h⟩
      obtain ⟨t, ht, e⟩ := List.mem_map.1 h
      simp only [Prod.mk.injEq] at e
      exact ⟨⟨s, hs, e.1⟩, ⟨t, ht, e.2⟩⟩
    · rintro ⟨⟨s, hs, rfl⟩, ⟨t, ht, rfl⟩⟩
      exact ⟨s, hs, List.mem_map.2 ⟨t, ht, rfl⟩⟩
  have hC : CloS l (fun r x => (r, x) ∈ cand) :=
    ⟨fun s hs _ => (cm _ _).2 ⟨⟨s, hs, rfl⟩, ⟨s, hs, rfl⟩⟩, fun s hs _ x h => (cm _ _).2 ⟨⟨s, hs, rfl⟩, ((cm _ _).1 h).2⟩, fun s hs _ x y _ h => (cm _ _).2 ⟨⟨s, hs, rfl⟩, ((cm _ _).1 h).2⟩, fun s hs _ x h _ => (cm _ _).2 ⟨⟨s, hs, rfl⟩, ((cm _ _).1 h).2⟩⟩
  have hP : ∀ r x, (r, x) ∈ cand.filter (fun p => @decide (∀ E, CloS l E → E p.1 p.2) (Classical.propDecidable _)) ↔ ∀ E, CloS l E → E r x := by
    intro r x
    rw [List.mem_filter]
    constructor
    · rintro ⟨_, h⟩
      exact @of_decide_eq_true _ (Classical.propDecidable _) h
    · intro h
      exact ⟨h _ hC, @decide_eq_true _ (Classical.propDecidable _) h⟩
  refine ⟨_, ⟨fun s hs hk => ?_, fun s hs hk x h => ?_, fun s hs hk x y h1 h2 => ?_, fun s hs hk x h1 h2 => ?_⟩, fun E hE r x h => (hP r x).1 h E hE⟩
  · exact (hP _ _).2 (fun E hE => hE.mem s hs hk)
  · exact (hP _ _).2 (fun E hE => hE.incl s hs hk x ((hP _ _).1 h E hE))
  · exact (hP _ _).2 (fun E hE => hE.link s hs hk x y ((hP _ _).1 h1 E hE) ((hP _ _).1 h2 E hE))
  · exact (hP _ _).2 (fun E hE => hE.both s hs hk x ((hP _ _).1 h1 E hE) ((hP _ _).1 h2 E hE))
theorem members_mono {l m : List St} {ps qs : List Pr} (h : LeastS l (fun r x => (r, x) ∈ ps)) (g : LeastS m (fun r x => (r, x) ∈ qs)) (hs : ∀ s ∈ l, s ∈ m) (r : Rl) : insideB (membersP ps r) (membersP qs r) = true := by
  unfold insideB
  rw [List.all_eq_true]
  intro x hx
  rw [hasB_mem, membersP_mem]
  exact h.mono g hs r x (membersP_mem.1 hx)
end Go.Proofs.YtnnieegddbcfcaaGreatDoor
namespace Go.Proofs.YtnnieegddbcfcaaGreatDoor
open Go.RowKit Go.Shelf

def minusS (l m : List St) : List St := ord (l.filter fun x => !hasS m x)
end Go.Proofs.YtnnieegddbcfcaaGreatDoor
