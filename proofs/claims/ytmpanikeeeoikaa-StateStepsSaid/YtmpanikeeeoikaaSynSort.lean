/- syn.Sort: any row of statements in order, each once. -/
import Derived.Test.YtmpanikeeeoikaaCompact
import Derived.Test.YtmpanikeeeoikaaPlain3
import Derived.Test.YtmpanikeeeoikaaShelfSort
import Derived.Shelf.SlSortCmp.NoneTotal
import Derived.Shelf.SlicesE.Clone
namespace Go.Proofs.Ytmpanikeeeoikaa
open Go.RowKit Go.Shelf Go.Lib Go.Sort

theorem swo_st : SWO (ltOf cmpSt) where
  irrefl x := decide_eq_false (lt_irrefl' x)
  trans x y z h h' := decide_eq_true (lt_trans' (of_decide_eq_true h) (of_decide_eq_true h'))
  ntrans x y z h h' := by
    have h1 := of_decide_eq_false h
    have h2 := of_decide_eq_false h'
    have n1 := wcmp_st.neg x y
    have n2 := wcmp_st.neg y z
    have n3 := wcmp_st.neg x z
    obtain ⟨a, _⟩ := wcmp_st.le z y x (by omega) (by omega)
    exact decide_eq_false (by omega)
theorem tot_st (x y : St) (h : ltOf cmpSt x y = false) (h' : ltOf cmpSt y x = false) : x = y := by
  have h1 := of_decide_eq_false h
  have h2 := of_decide_eq_false h'
  have n1 := wcmp_st.neg x y
  exact (cmpSt_zero x y).1 (by omega)
def sortS (l : List St) : List St := l.mergeSort fun x y => !(ltOf cmpSt) y x
theorem sort_le (l : List St) : (sortS l).Pairwise fun x y => cmpSt x y ≤ 0 := by
  have h : (sortS l).Pairwise fun x y => (!(ltOf cmpSt) y x) = true := by
    refine List.pairwise_mergeSort ?_ ?_ l
    · intro a b c h1 h2
      simp only [Bool.not_eq_true'] at h1 h2 ⊢
      exact swo_st.ntrans c b a h2 h1
    · intro a b
      cases h : ltOf cmpSt b a with
      | false => simp
      | true => simp [swo_st.asymmA h]
  refine h.imp fun {x y} h => ?_
  simp only [Bool.not_eq_true'] at h
  have h1 := of_decide_eq_false h
  have n1 := wcmp_st.neg x y
  omega
theorem dedup_sort (l : List St) : dedup (sortS l) = insAll [] l := by
  refine asc_unique _ _ (dedup_asc _ (sort_le l)) (insAll_asc l [] List.Pairwise.nil) fun z => ?_
  rw [dedup_mem, insAll_mem]
  simp [sortS]
theorem sort_len (l : List St) : (sortS l).length = l.length := by simp [sortS]

theorem gr_grow {w w' : World} (h : Gr w w') : ∃ q os', w' = grow (w.drewN q) os' := by
  refine ⟨w'.drawn - w.drawn, w'.heap.extract w.heap.size w'.heap.size, ?_⟩
  obtain ⟨⟨ho, ht, hp, hs, hb⟩, hd⟩ := h
  have hh : w'.heap = w.heap ++ w'.heap.extract w.heap.size w'.heap.size := by
    refine Array.ext (by simp; omega) fun i h1 h2 => ?_
    by_cases hi : i < w.heap.size
    · rw [Array.getElem_append_left hi]
      have := hb i hi
      rw [Array.getElem?_eq_getElem h1, Array.getElem?_eq_getElem hi] at this
      exact Option.some.inj this
    · rw [Array.getElem_append_right (by omega)]
      simp only [Array.getElem_extract]
      congr 1
      omega
  obtain ⟨heap, tape, drawn, os, output⟩ := w
  obtain ⟨heap', tape', drawn', os', output'⟩ := w'
  dsimp only at ho ht hp hs hd hh
  subst ho ht hp
  unfold grow World.drewN
  dsimp only
  rw [← hh, show drawn + (drawn' - drawn) = drawn' by omega]
theorem cmpLays_st (blk off size : Nat) (w : World) : CmpLays Try.prog 63 #[] St.cells 9 cmpSt blk off size w :=
  fun _ _ _ _ x y => (syn_Sort1 x y _).mono fun _ _ ⟨he, hg⟩ => ⟨he, gr_grow hg⟩

theorem flatK_get (l : List St) (j : Nat) (u : Value) (h : (l.flatMap St.cells)[j]? = some u) : j < l.length * 9 ∧ (flatK St.cells 9 l.toArray)[j]! = u := by
  have hj : j < l.length * 9 := by rw [← flat_len St.cells 9 St.cells_len l]; exact (List.getElem?_eq_some_iff.1 h).1
  refine ⟨hj, ?_⟩
  have hi : j / 9 < l.length := by omega
  have hf : j % 9 < 9 := Nat.mod_lt _ (by decide)
  rw [get_flatK _ _ _ _ (by simpa using hj)]
  have e : j = j / 9 * 9 + j % 9 := by omega
  have h' := h
  rw [e, flat_get St.cells 9 St.cells_len l (j / 9) (j % 9) hf _ (List.getElem?_eq_getElem hi)] at h'
  have e1 : l.toArray[j / 9]! = l[j / 9] := by rw [getElem!_pos l.toArray (j / 9) (by simpa using hi)]; simp
  rw [e1, List.getElem!_eq_getElem?_getD, h']
  rfl
theorem holds_st {w : World} {b o : Nat} {l : List St} (hx : ∀ j u, (l.flatMap St.cells)[j]? = some u → w.cell? ⟨b, o + j, none⟩ = some u) (hf : ∀ i, w.frozen? ⟨b, i, none⟩ = false) : HoldsK St.cells 9 w b o l.toArray := by
  intro j hj
  rw [size_flatK] at hj
  have hj' : j < (l.flatMap St.cells).length := by rw [flat_len St.cells 9 St.cells_len]; simpa using hj
  have hu := List.getElem?_eq_getElem hj'
  refine ⟨?_, hf _⟩
  rw [hx j _ hu, ← (flatK_get l j _ hu).2]
  rfl
theorem cells_st {w : World} {b o : Nat} {l : List St} (h : HoldsK St.cells 9 w b o l.toArray) (j : Nat) (u : Value) (hu : (l.flatMap St.cells)[j]? = some u) : w.cell? ⟨b, o + j, none⟩ = some u := by
  obtain ⟨hj, he⟩ := flatK_get l j u hu
  have := (h j (by rw [size_flatK]; simpa using hj)).1
  rw [he] at this
  exact this
theorem sort_grown (w : World) (blk off n : Nat) (d : Array St) (os : Array Obj) : w.grownBy (sortWorldK St.cells 9 w blk off n d os) (some blk) := by
  refine ⟨rfl, rfl, rfl, ?_, fun k hk hne => ?_⟩
  · unfold sortWorldK; rw [Go.Sort.size_grow, size_putRowK]; exact Nat.le_add_right _ _
  · have hkb : ¬ blk = k := fun e => hne (by rw [e])
    show ((w.heap.modify blk _) ++ os)[k]? = w.heap[k]?
    rw [Array.getElem?_append_left (by simpa using hk)]
    simp [Array.getElem?_modify, hkb]
theorem sort_frozen (w : World) (blk off n : Nat) (d : Array St) (os : Array Obj) (hb : blk < w.heap.size) (i : Nat) : (sortWorldK St.cells 9 w blk off n d os).frozen? ⟨blk, i, none⟩ = w.frozen? ⟨blk, i, none⟩ := by
  unfold sortWorldK
  rw [Go.Sort.frozen?_grow _ _ _ (by rw [size_putRowK]; exact hb)]
  unfold putRowK
  rw [frozen?_putRow]
  rfl

/-- slices.SortFunc, with syn.Sort's comparison. -/
theorem st_SortFunc (b o cap : Nat) (l : List St) (w : World) (hl : l.length ≤ 1000) (hb : b < w.heap.size)
    (hx : ∀ j u, (l.flatMap St.cells)[j]? = some u → w.cell? ⟨b, o + j, none⟩ = some u) (hf : ∀ i, w.frozen? ⟨b, i, none⟩ = false) :
    Calls Try.prog 62 #[.slice (some ⟨b, o, none⟩) l.length cap, .func (.func 63) #[] #[]] w fun e w' =>
      e = .returned (.tuple #[]) ∧ (∀ j u, ((sortS l).flatMap St.cells)[j]? = some u → w'.cell? ⟨b, o + j, none⟩ = some u) ∧ (∀ i, w'.frozen? ⟨b, i, none⟩ = false) ∧ w.grownBy w' (some b) := by
  have eg : ∀ args w, (callFunc 63 args).run Try.prog w = .ok (.enter 63 args) w := enters_of Try.func63 (by kernel_rfl) rfl
  have hH := holds_st hx hf
  have h := AnyQ.slices_SortFunc_total (α := St) Try.sortL 9 Try.isAgg30 Try.sizeOf30 St.cells St.cells_len st_one cmpSt swo_st 63 #[] b o cap l.toArray w eg (cmpLays_st b o _ w) hH hb (by simp; omega) tot_st
  have hs : l.toArray.size = l.length := by simp
  rw [hs] at h
  refine h.mono ?_
  rintro e w' ⟨he, n, os, rfl⟩
  refine ⟨he, ?_, fun i => (sort_frozen w b o n _ os hb i).trans (hf i), sort_grown w b o n _ os⟩
  exact cells_st (holdsK_sortWorldK_c St.cells 9 w b o l.toArray _ n os hH hb (by simp [sortS]))
theorem st_SortFunc_none (p : Option Addr) (cap : Nat) (fv : Value) (w : World) : Calls Try.prog 62 #[.slice p 0 cap, fv] w fun e w' => e = .returned (.tuple #[]) ∧ w' = w :=
  AnyF.slices_SortFunc_none Try.sortL p cap fv w
theorem st_Compact_nil (cap : Nat) (w : World) : Calls Try.prog 64 #[.slice none 0 cap] w fun e w' => e = .returned (.slice none 0 cap) ∧ w' = w := by
  go_enter Try.func64, Try.ntmps64
  go_wp2
  go_ret
  exact ⟨rfl, rfl⟩

set_option maxRecDepth 100000 in
/-- slices.Clone: the same statements, in a row of the call's own. -/
theorem st_Clone (va : Value) (l : List St) (w : World) (ha : SlA w 9 va l.length (l.flatMap St.cells)) (hl : l.length ≤ 1000) :
    Calls Try.prog 61 #[va] w fun e w' => Below w.heap.size w w' ∧
      ((e = .returned (.slice none 0 0) ∧ l = []) ∨ ∃ g cap, e = .returned (.slice (some ⟨g, 0, none⟩) l.length cap) ∧ w.heap.size ≤ g ∧ g < w'.heap.size ∧ l.length ≤ cap ∧ cap ≤ 9223372036854775807 ∧
        (∀ j u, (l.flatMap St.cells)[j]? = some u → w'.cell? ⟨g, 0 + j, none⟩ = some u) ∧ ∀ i, w'.frozen? ⟨g, i, none⟩ = false) := by
  have hmax : maxLen = 9223372036854775807 := by decide
  rcases ha with ha | ⟨⟨a, c, rfl⟩, hn, -⟩
  case inr =>
    obtain rfl : l = [] := List.eq_nil_of_length_eq_zero hn
    obtain ⟨inf, hinf, hz0, hz1, hz2⟩ := info_parts st_info
    have HINF := Lib.hid hinf
    have q22 : ∀ (w : World) (a : Option Addr) (n c n' c' : Nat), (binOp .eql 22 (.slice a n c) (.slice none n' c')).run Try.prog w = .ok (.bool a.isNone) w := fun w a n c n' c' => Lib.run_eql_slice_nil w _ _ a n c n' c' Try.underlying22
    clear hn hl hinf
    go_enter Try.func61, Try.ntmps61
    go_wp2_with (at_builtin; refine halt_ ?_)
    unfold Halt_
    refine app_zero _ rfl _ _ 22 rfl 30 inf Try.underlying22 HINF.out (some ⟨w.heap.size, 0, none⟩) 0 0 (Nat.le_refl _) rfl _ _ rfl ?_
    go_wp2
    go_ret
    exact ⟨(Below.refl _ _).alloc (Nat.le_refl _) _, .inr ⟨w.heap.size, 0, rfl, Nat.le_refl _, by simp, Nat.le_refl _, by omega, (fun j u hu => by simp at hu), (Blk.new w #[] 30).2.1⟩⟩
  rcases ha.2.2 with ⟨rfl, h0⟩ | ⟨b, off, cap, rfl, hc, hm, hlt, hx⟩
  · refine (AnyE.slices_Clone_nil Try.cloneL 0 0 w).mono ?_
    rintro e w' ⟨rfl, rfl⟩
    exact ⟨Below.refl _ _, .inl ⟨rfl, List.eq_nil_of_length_eq_zero h0⟩⟩
  · obtain ⟨inf, hinf, hz0, hz1, hz2⟩ := info_parts st_info
    refine (AnyE.slices_Clone Try.cloneL inf _ 9 136 hinf hz0 hz1 hz2 rfl (by decide) Try.sizeOf30 b off l.length cap (l.flatMap St.cells) w (flat_len _ _ St.cells_len _) ha.2.1 (by omega) hx (sts_one l)).mono ?_
    rintro e w' ⟨v', rfl, hown, hnn, hb⟩
    refine ⟨hb, .inr ?_⟩
    rcases hown.2 with ⟨h1, h2⟩ | ⟨g, cap', cur, rfl, hbg, hg, hnc, hm', hs, ht⟩
    · exact absurd h1 hnn
    · refine ⟨g, cap', rfl, hbg, (Array.getElem?_eq_some_iff.1 hg).1, hnc, by rw [hmax] at hm'; exact hm', fun j u hu => ?_, fun i => by simp [World.frozen?, hg]⟩
      have := hown.cells (g := g) rfl j u hu
      rwa [addr_add] at this

set_option maxRecDepth 100000 in
set_option maxHeartbeats 4000000 in
/-- syn.Sort: the same row as the reference's. -/
theorem syn_Sort (va : Value) (l : List St) (w : World) (ha : SlA w 9 va l.length (l.flatMap St.cells)) (hl : l.length ≤ 1000) :
    Calls Try.prog 40 #[va] w fun e w' => ∃ v, e = .returned v ∧ Sl w' 9 v (insAll [] l).length ((insAll [] l).flatMap St.cells) ∧ Below w.heap.size w w' := by
  have hmax : maxLen = 9223372036854775807 := by decide
  have C := Lib.hid (st_Clone va l w ha hl)
  have F := Lib.hid (fun g cap W h1 h2 h3 => st_SortFunc g 0 cap l W hl h1 h2 h3)
  have K := Lib.hid (fun g cap W => st_Compact g 0 cap (sortS l) W)
  have DS := dedup_sort l
  have DL := dedup_len (sortS l)
  rw [sort_len, DS] at DL
  simp only [sort_len, DS] at K
  clear DS ha
  go_enter Try.func40, Try.ntmps40
  go_wp2_with fail
  refine C.out.mono ?_
  rintro e w1 ⟨hb1, hr⟩
  have HB1 := Lib.hid hb1
  rcases hr with ⟨rfl, rfl⟩ | ⟨g, cap, rfl, hwg, hg, hlc, hcm, hx, hf⟩
  · clear hb1
    go_wp2_with fail
    refine (st_SortFunc_none _ _ _ _).mono ?_
    rintro e w2 ⟨rfl, rfl⟩
    go_wp2_with fail
    refine (st_Compact_nil _ _).mono ?_
    rintro e w2 ⟨rfl, rfl⟩
    go_wp2
    go_ret
    exact ⟨_, rfl, Sl.nil _ _, HB1.out⟩
  · have HX := Lib.hid hx
    have HF := Lib.hid hf
    clear hb1 hx hf
    go_wp2_with fail
    refine (F.out g cap _ hg HX.out HF.out).mono ?_
    rintro e w2 ⟨rfl, hx2, hf2, hg2⟩
    have HX2 := Lib.hid hx2
    have HF2 := Lib.hid hf2
    have HG2 := Lib.hid hg2
    clear hx2 hf2 hg2
    go_wp2_with fail
    refine (K.out g cap _ hl hlc hcm (Nat.lt_of_lt_of_le hg HG2.out.size) HX2.out HF2.out).mono ?_
    rintro e w3 ⟨rfl, hx3, hg3⟩
    have HX3 := Lib.hid hx3
    have HG3 := Lib.hid (gb_trans HG2.out hg3)
    clear hx3 hg3
    go_wp2
    go_ret
    refine ⟨_, rfl, ⟨flat_len _ _ St.cells_len _, by omega, .inr ⟨g, 0, cap, rfl, by omega, by omega, Nat.lt_of_lt_of_le hg HG3.out.size, HX3.out⟩⟩, HB1.out.grown HG3.out HB1.out.size (by rintro k ⟨⟩; exact hwg)⟩
end Go.Proofs.Ytmpanikeeeoikaa
