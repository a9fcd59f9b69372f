/- syn.Sort: any row of statements in order, each once. Functions of package slices at rows of statements: Index, Contains, Equal. -/
import Derived.Test.YtomhekohcadijaaGreatDoorPartRF12
import Derived.Test.YtomhekohcadijaaGreatDoorPartRF1
import Derived.Test.YtomhekohcadijaaGreatDoorShelfSort
import Derived.Shelf.SlSortCmp.NoneTotal
import Derived.Shelf.SlicesE.Clone
import Derived.Test.YtomhekohcadijaaGreatDoorPartRF9
namespace Go.Proofs.YtomhekohcadijaaGreatDoor
open Go.RowKit Go.Shelf Go.Lib Go.Sort

theorem swo_st : SWO (ltOf cmpSt) where
  irrefl x := decide_eq_false (lt_irrefl' x)
  trans x y z h h' := decide_eq_true (lt_trans' (of_decide_eq_true h) (of_decide_eq_true h'))
  ntrans x y z h h' := by
    have h1 := of_decide_eq_false h
    have h2 := of_decide_eq_false h'
    have n1 := wcmp_st.neg x y
    have n2 := wcmp_st.neg y z
    have n3 := wcmp_st.neg x z
    obtain ⟨a, _⟩ := wcmp_st.le z y x (by omega) (by omega)
    exact decide_eq_false (by omega)
theorem tot_st (x y : St) (h : ltOf cmpSt x y = false) (h' : ltOf cmpSt y x = false) : x = y := by
  have h1 := of_decide_eq_false h
  have h2 := of_decide_eq_false h'
  have n1 := wcmp_st.neg x y
  exact (cmpSt_zero x y).1 (by omega)
def sortS (l : List St) : List St := l.mergeSort fun x y => !(ltOf cmpSt) y x
theorem sort_le (l : List St) : (sortS l).Pairwise fun x y => cmpSt x y ≤ 0 := by
  have h : (sortS l).Pairwise fun x y => (!(ltOf cmpSt) y x) = true := by
    refine List.pairwise_mergeSort ?_ ?_ l
    · intro a b c h1 h2
      simp only [Bool.not_eq_true'] at h1 h2 ⊢
      exact swo_st.ntrans c b a h2 h1
    · intro a b
      cases h : ltOf cmpSt b a with
      | false => simp
      | true => simp [swo_st.asymmA h]
  refine h.imp fun {x y} h => ?_
  simp only [Bool.not_eq_true'] at h
  have h1 := of_decide_eq_false h
  have n1 := wcmp_st.neg x y
  omega
theorem dedup_sort (l : List St) : dedup (sortS l) = insAll [] l := by
  refine asc_unique _ _ (dedup_asc _ (sort_le l)) (insAll_asc l [] List.Pairwise.nil) fun z => ?_
  rw [dedup_mem, insAll_mem]
  simp [sortS]
theorem sort_len (l : List St) : (sortS l).length = l.length := by simp [sortS]

theorem gr_grow {w w' : World} (h : Gr w w') : ∃ q os', w' = grow (w.drewN q) os' := by
  refine ⟨w'.drawn - w.drawn, w'.heap.extract w.heap.size w'.heap.size, ?_⟩
  obtain ⟨⟨ho, ht, hp, hs, hb⟩, hd⟩ := h
  have hh : w'.heap = w.heap ++ w'.heap.extract w.heap.size w'.heap.size := by
    refine Array.ext (by simp; omega) fun i h1 h2 => ?_
    by_cases hi : i < w.heap.size
    · rw [Array.getElem_append_left hi]
      have := hb i hi
      rw [Array.getElem?_eq_getElem h1, Array.getElem?_eq_getElem hi] at this
      exact Option.some.inj this
    · rw [Array.getElem_append_right (by omega)]
      simp only [Array.getElem_extract]
      congr 1
      omega
  obtain ⟨heap, tape, drawn, os, output⟩ := w
  obtain ⟨heap', tape', drawn', os', output'⟩ := w'
  dsimp only at ho ht hp hs hd hh
  subst ho ht hp
  unfold grow World.drewN
  dsimp only
  rw [← hh, show drawn + (drawn' - drawn) = drawn' by omega]
theorem cmpLays_st (blk off size : Nat) (w : World) : CmpLays Tryz.prog 192 #[] St.cells 9 cmpSt blk off size w :=
  fun _ _ _ _ x y => (syn_Sort1 x y _).mono fun _ _ ⟨he, hg⟩ => ⟨he, gr_grow hg⟩

theorem flatK_get (l : List St) (j : Nat) (u : Value) (h : (l.flatMap St.cells)[j]? = some u) : j < l.length * 9 ∧ (flatK St.cells 9 l.toArray)[j]! = u := by
  have hj : j < l.length * 9 := by rw [← flat_len St.cells 9 St.cells_len l]; exact (List.getElem?_eq_some_iff.1 h).1
  refine ⟨hj, ?_⟩
  have hi : j / 9 < l.length := by omega
  have hf : j % 9 < 9 := Nat.mod_lt _ (by decide)
  rw [get_flatK _ _ _ _ (by simpa using hj)]
  have e : j = j / 9 * 9 + j % 9 := by omega
  have h' := h
  rw [e, flat_get St.cells 9 St.cells_len l (j / 9) (j % 9) hf _ (List.getElem?_eq_getElem hi)] at h'
  have e1 : l.toArray[j / 9]! = l[j / 9] := by rw [getElem!_pos l.toArray (j / 9) (by simpa using hi)]; simp
  rw [e1, List.getElem!_eq_getElem?_getD, h']
  rfl
theorem holds_st {w : World} {b o : Nat} {l : List St} (hx : ∀ j u, (l.flatMap St.cells)[j]? = some u → w.cell? ⟨b, o + j, none⟩ = some u) (hf : ∀ i, w.frozen? ⟨b, i, none⟩ = false) : HoldsK St.cells 9 w b o l.toArray := by
  intro j hj
  rw [size_flatK] at hj
  have hj' : j < (l.flatMap St.cells).length := by rw [flat_len St.cells 9 St.cells_len]; simpa using hj
  have hu := List.getElem?_eq_getElem hj'
  refine ⟨?_, hf _⟩
  rw [hx j _ hu, ← (flatK_get l j _ hu).2]
  rfl
theorem cells_st {w : World} {b o : Nat} {l : List St} (h : HoldsK St.cells 9 w b o l.toArray) (j : Nat) (u : Value) (hu : (l.flatMap St.cells)[j]? = some u) : w.cell? ⟨b, o + j, none⟩ = some u := by
  obtain ⟨hj, he⟩ := flatK_get l j u hu
  have := (h j (by rw [size_flatK]; simpa using hj)).1
  rw [he] at this
  exact this
theorem sort_grown (w : World) (blk off n : Nat) (d : Array St) (os : Array Obj) : w.grownBy (sortWorldK St.cells 9 w blk off n d os) (some blk) := by
  refine ⟨rfl, rfl, rfl, ?_, fun k hk hne => ?_⟩
  · unfold sortWorldK; rw [Go.Sort.size_grow, size_putRowK]; exact Nat.le_add_right _ _
  · have hkb : ¬ blk = k := fun e => hne (by rw [e])
    show ((w.heap.modify blk _) ++ os)[k]? = w.heap[k]?
    rw [Array.getElem?_append_left (by simpa using hk)]
    simp [Array.getElem?_modify, hkb]
theorem sort_frozen (w : World) (blk off n : Nat) (d : Array St) (os : Array Obj) (hb : blk < w.heap.size) (i : Nat) : (sortWorldK St.cells 9 w blk off n d os).frozen? ⟨blk, i, none⟩ = w.frozen? ⟨blk, i, none⟩ := by
  unfold sortWorldK
  rw [Go.Sort.frozen?_grow _ _ _ (by rw [size_putRowK]; exact hb)]
  unfold putRowK
  rw [frozen?_putRow]
  rfl

theorem st_SortFunc (b o cap : Nat) (l : List St) (w : World) (hl : l.length ≤ 10000) (hb : b < w.heap.size)
    (hx : ∀ j u, (l.flatMap St.cells)[j]? = some u → w.cell? ⟨b, o + j, none⟩ = some u) (hf : ∀ i, w.frozen? ⟨b, i, none⟩ = false) :
    Calls Tryz.prog 191 #[.slice (some ⟨b, o, none⟩) l.length cap, .func (.func 192) #[] #[]] w fun e w' =>
      e = .returned (.tuple #[]) ∧ (∀ j u, ((sortS l).flatMap St.cells)[j]? = some u → w'.cell? ⟨b, o + j, none⟩ = some u) ∧ (∀ i, w'.frozen? ⟨b, i, none⟩ = false) ∧ w.grownBy w' (some b) ∧ ShK w w' b := by
  have eg : ∀ args w, (callFunc 192 args).run Tryz.prog w = .ok (.enter 192 args) w := enters_of Tryz.func192 (by kernel_rfl) rfl
  have hH := holds_st hx hf
  have h := AnyQ.slices_SortFunc_total (α := St) Tryz.sortL 9 Tryz.isAgg80 Tryz.sizeOf80 St.cells St.cells_len st_one cmpSt swo_st 192 #[] b o cap l.toArray w eg (cmpLays_st b o _ w) hH hb (by simp; omega) tot_st
  have hs : l.toArray.size = l.length := by simp
  rw [hs] at h
  refine h.mono ?_
  rintro e w' ⟨he, n, os, rfl⟩
  refine ⟨he, ?_, fun i => (sort_frozen w b o n _ os hb i).trans (hf i), sort_grown w b o n _ os, sh_sort _ _ _ _ _ _ _ _ _⟩
  exact cells_st (holdsK_sortWorldK_c St.cells 9 w b o l.toArray _ n os hH hb (by simp))
theorem st_SortFunc_none (p : Option Addr) (cap : Nat) (fv : Value) (w : World) : Calls Tryz.prog 191 #[.slice p 0 cap, fv] w fun e w' => e = .returned (.tuple #[]) ∧ w' = w :=
  AnyF.slices_SortFunc_none Tryz.sortL p cap fv w
theorem st_Compact_nil (cap : Nat) (w : World) : Calls Tryz.prog 193 #[.slice none 0 cap] w fun e w' => e = .returned (.slice none 0 cap) ∧ w' = w := by
  go_enter Tryz.func193, Tryz.ntmps193
  go_wp2
  go_ret
  exact ⟨rfl, rfl⟩

set_option maxRecDepth 100000 in
theorem st_CloneW (va : Value) (l : List St) (w : World) (ha : SlA w 9 va l.length (l.flatMap St.cells)) (hl : l.length ≤ 10000) :
    Calls Tryz.prog 190 #[va] w fun e w' => Below w.heap.size w w' ∧ ∃ v, e = .returned v ∧ w'.ownsRow w.heap.size 80 9 v l.length (l.flatMap St.cells) := by
  have hmax : maxLen = 9223372036854775807 := by decide
  rcases ha with ha | ⟨⟨a, c, rfl⟩, hn, -⟩
  case inr =>
    obtain rfl : l = [] := List.eq_nil_of_length_eq_zero hn
    obtain ⟨inf, hinf, hz0, hz1, hz2⟩ := info_parts st_info
    have HINF := Lib.hid hinf
    have q22 : ∀ (w : World) (a : Option Addr) (n c n' c' : Nat), (binOp .eql 22 (.slice a n c) (.slice none n' c')).run Tryz.prog w = .ok (.bool a.isNone) w := fun w a n c n' c' => Lib.run_eql_slice_nil w _ _ a n c n' c' Tryz.underlying22
    clear hn hl hinf
    go_enter Tryz.func190, Tryz.ntmps190
    go_wp2_with (at_builtin; refine halt_ ?_)
    unfold Halt_
    refine app_zero _ rfl _ _ 22 rfl 80 inf Tryz.underlying22 HINF.out (some ⟨w.heap.size, 0, none⟩) 0 0 (Nat.le_refl _) rfl _ _ rfl ?_
    go_wp2
    go_ret
    exact ⟨(Below.refl _ _).alloc (Nat.le_refl _) _, _, rfl, by simp, .inr ⟨w.heap.size, 0, #[], rfl, Nat.le_refl _, heap_new1 _ _, Nat.le_refl _, by omega, by simp, by simp⟩⟩
  rcases ha.2.2 with ⟨rfl, h0⟩ | ⟨b, off, cap, rfl, hc, hm, hlt, hx⟩
  · refine (AnyE.slices_Clone_nil Tryz.cloneL 0 0 w).mono ?_
    rintro e w' ⟨rfl, rfl⟩
    exact ⟨Below.refl _ _, _, rfl, by obtain rfl : l = [] := List.eq_nil_of_length_eq_zero h0; exact World.ownsRow_nil _ _ _ _⟩
  · obtain ⟨inf, hinf, hz0, hz1, hz2⟩ := info_parts st_info
    refine (AnyE.slices_Clone Tryz.cloneL inf _ 9 136 hinf hz0 hz1 hz2 rfl (by decide) Tryz.sizeOf80 b off l.length cap (l.flatMap St.cells) w (flat_len _ _ St.cells_len _) ha.2.1 (by omega) hx (sts_one l)).mono ?_
    rintro e w' ⟨v', rfl, hown, hnn, hb⟩
    exact ⟨hb, v', rfl, hown⟩

set_option maxRecDepth 100000 in
set_option maxHeartbeats 4000000 in
theorem syn_SortO (va : Value) (l : List St) (w : World) (ha : SlA w 9 va l.length (l.flatMap St.cells)) (hl : l.length ≤ 10000) :
    Calls Tryz.prog 128 #[va] w fun e w' => ∃ v, e = .returned v ∧ w'.ownsRow w.heap.size 80 9 v (insAll [] l).length ((insAll [] l).flatMap St.cells) ∧ Below w.heap.size w w' := by
  have hmax : maxLen = 9223372036854775807 := by decide
  have C := Lib.hid (st_CloneW va l w ha hl)
  have F := Lib.hid (fun g cap W h1 h2 h3 => st_SortFunc g 0 cap l W hl h1 h2 h3)
  have K := Lib.hid (fun g cap W => st_Compact g 0 cap (sortS l) W)
  have DS := dedup_sort l
  have DL := dedup_len (sortS l)
  rw [sort_len, DS] at DL
  simp only [sort_len, DS] at K
  clear DS ha
  go_enter Tryz.func128, Tryz.ntmps128
  go_wp2_with fail
  refine C.out.mono ?_
  rintro e w1 ⟨hb1, v1, rfl, hr⟩
  have HB1 := Lib.hid hb1
  have HOWN := Lib.hid hr
  rcases hr.2 with ⟨rfl, hr0⟩ | ⟨g, cap, cur, rfl, hwg, hgc, hlc, hcm, hcs, _⟩
  · obtain rfl : l = [] := List.eq_nil_of_length_eq_zero hr0
    clear hb1 hr hr0 HOWN
    go_wp2_with fail
    refine (st_SortFunc_none _ _ _ _).mono ?_
    rintro e w2 ⟨rfl, rfl⟩
    go_wp2_with fail
    refine (st_Compact_nil _ _).mono ?_
    rintro e w2 ⟨rfl, rfl⟩
    go_wp2
    go_ret
    exact ⟨_, rfl, World.ownsRow_nil _ _ _ _, HB1.out⟩
  · have hg : g < w1.heap.size := (Array.getElem?_eq_some_iff.1 hgc).1
    rw [hmax] at hcm
    have HX := Lib.hid (show ∀ j u, (l.flatMap St.cells)[j]? = some u → w1.cell? ⟨g, 0 + j, none⟩ = some u from fun j u hu => by
      have := hr.cells (g := g) rfl j u hu
      rwa [addr_add] at this)
    have HF := Lib.hid (show ∀ i, w1.frozen? ⟨g, i, none⟩ = false from fun i => by simp [World.frozen?, hgc])
    have HGC := Lib.hid hgc
    have HCS := Lib.hid hcs
    clear hb1 hr hgc hcs HOWN
    go_wp2_with fail
    refine (F.out g cap _ hg HX.out HF.out).mono ?_
    rintro e w2 ⟨rfl, hx2, hf2, hg2, hs2⟩
    have HS2 := Lib.hid hs2
    clear hs2
    have HX2 := Lib.hid hx2
    have HF2 := Lib.hid hf2
    have HG2 := Lib.hid hg2
    clear hx2 hf2 hg2
    go_wp2_with fail
    refine (K.out g cap _ hl hlc hcm (Nat.lt_of_lt_of_le hg HG2.out.size) HX2.out HF2.out).mono ?_
    rintro e w3 ⟨rfl, hx3, hg3, hs3⟩
    have HS3 := Lib.hid (HS2.out.trans hs3)
    clear hs3
    have HX3 := Lib.hid hx3
    have HG3 := Lib.hid (gb_trans HG2.out hg3)
    clear hx3 hg3
    go_wp2
    go_ret
    exact ⟨_, rfl, own_of_sh HGC.out HCS.out HS3.out hwg (by omega) (by rw [hmax]; omega) (flat_len _ _ St.cells_len _) HX3.out, HB1.out.grown HG3.out HB1.out.size (by rintro k ⟨⟩; exact hwg)⟩
end Go.Proofs.YtomhekohcadijaaGreatDoor
namespace Go.Proofs.YtomhekohcadijaaGreatDoor
open Go.RowKit Go.Shelf

theorem eqSt_comm (s t : St) : eqSt s t = eqSt t s := by
  unfold eqSt; rw [Bool.eq_iff_iff, decide_eq_true_iff, decide_eq_true_iff]; exact eq_comm
set_option maxRecDepth 100000 in
set_option maxHeartbeats 2000000 in
theorem st_Index (va : Value) (l : List St) (s : St) (w : World) (ha : SlA w 9 va l.length (l.flatMap St.cells)) :
    Calls Tryz.prog 211 #[va, sv s] w fun e w' => (∃ i : Int, e = .returned (.int .i64 i) ∧ decide (0 ≤ i) = hasS l s) ∧ Below w.heap.size w w' := by
  have hmax := ha.max
  have hEq := stmt_eql'
  by_cases h0 : 0 < l.length
  · obtain ⟨b1, o1, c1, rfl, hc1, hm1, hb1, hx1⟩ := ha.pos h0
    have HX1 := Lib.hid hx1
    have HS := Lib.hid (fun k (hl : k < l.length) (e : l[k] = s) => has_yes hl e)
    have HE := Lib.hid (fun k (hk : ¬ k < l.length) h => has_end (l := l) (s := s) (k := k) hk h)
    have HD := Lib.hid (fun k (hl : k < l.length) => show (eqSt s l[k] = true ↔ l[k] = s) from by rw [eqSt_comm]; exact decide_eq_true_iff)
    generalize hasS l s = res at HS HE ⊢
    clear ha hx1
    obtain ⟨ks, ⟨h1, h2⟩, who, ⟨a1, a2⟩, ⟨b1', b2'⟩, via⟩ := s
    go_enter Tryz.func211, Tryz.ntmps211
    go_wp2
    go_loopw [8] (fun i wr => ∃ k n : Nat, k ≤ l.length ∧ i = .int .i64 k ∧ wr = (w.alloc (.cells #[.int .i64 ks, .string h1, .string h2, .string who, .string a1, .string a2, .string b1', .string b2', .string via] 80)).drewN n ∧ Hid (∀ j (hj : j < l.length), j < k → ¬ l[j] = ⟨ks, ⟨h1, h2⟩, who, ⟨a1, a2⟩, ⟨b1', b2'⟩, via⟩)) (fun i _ => l.length - (intOf i).toNat)
    case atStart => exact ⟨0, 0, by omega, rfl, rfl, Lib.hid (fun _ _ h => absurd h (by omega))⟩
    case round =>
      obtain ⟨k, n, hk, rfl, rfl, HT⟩ := hrel
      by_cases hlt : k < l.length
      · obtain ⟨p0, p1, p2, p3, p4, p5, p6, p7, p8⟩ := st_cell (w := w) HX1.out k hlt
        have hD := HD.out k hlt
        cases he : eqSt ⟨ks, ⟨h1, h2⟩, who, ⟨a1, a2⟩, ⟨b1', b2'⟩, via⟩ l[k] with
        | true =>
          have R := Lib.hid (HS.out k hlt (hD.1 he))
          change eqSt _ ⟨l[k].k, ⟨l[k].h.o, l[k].h.n⟩, l[k].who, ⟨l[k].a.o, l[k].a.n⟩, ⟨l[k].b.o, l[k].b.n⟩, l[k].via⟩ = true at he
          clear hD
          go_wp2_with fail
          go_big_quiet (fail)
          go_wp2
          go_ret
          exact ⟨⟨(k : Int), rfl, by rw [R.out, decide_eq_true_iff]; omega⟩, below_drewN (below_drewN ((Below.refl _ _).alloc (Nat.le_refl _) _) _) _⟩
        | false =>
          have HN : Hid (∀ j (hj : j < l.length), j < k + 1 → ¬ l[j] = ⟨ks, ⟨h1, h2⟩, who, ⟨a1, a2⟩, ⟨b1', b2'⟩, via⟩) := Lib.hid (fun j hj hjk => by
            by_cases hjk' : j < k
            · exact HT.out j hj hjk'
            · obtain rfl : j = k := by omega
              intro e; rw [hD.2 e] at he; cases he)
          change eqSt _ ⟨l[k].k, ⟨l[k].h.o, l[k].h.n⟩, l[k].who, ⟨l[k].a.o, l[k].a.n⟩, ⟨l[k].b.o, l[k].b.n⟩, l[k].via⟩ = false at he
          clear hD
          go_wp2_with fail
          go_big_quiet (fail)
          go_wp2
          exact ⟨⟨k + 1, n + nq, by omega, by go_num, rfl, HN⟩, by simp [intOf]; omega⟩
      · have R := Lib.hid (HE.out k hlt HT.out)
        go_wp2
        go_ret
        exact ⟨⟨-1, rfl, by rw [R.out]; rfl⟩, below_drewN ((Below.refl _ _).alloc (Nat.le_refl _) _) _⟩
  · obtain ⟨a1, c1, rfl⟩ := ha.form
    obtain rfl : l = [] := List.eq_nil_of_length_eq_zero (by omega)
    clear ha h0 hmax
    obtain ⟨ks, ⟨h1, h2⟩, who, ⟨a1', a2'⟩, ⟨b1', b2'⟩, via⟩ := s
    go_enter Tryz.func211, Tryz.ntmps211
    go_wp2
    go_loopw [8] (fun i wr => i = .int .i64 0 ∧ Below w.heap.size w wr) (fun _ _ => 0)
    case atStart => exact ⟨rfl, (Below.refl _ _).alloc (Nat.le_refl _) _⟩
    case round =>
      obtain ⟨rfl, hbw⟩ := hrel
      go_wp2
      go_ret
      exact ⟨⟨-1, rfl, rfl⟩, hbw⟩

set_option maxHeartbeats 1000000 in
theorem st_Contains (va : Value) (l : List St) (s : St) (w : World) (ha : SlA w 9 va l.length (l.flatMap St.cells)) :
    Calls Tryz.prog 207 #[va, sv s] w fun e w' => e = .returned (.bool (hasS l s)) ∧ Below w.heap.size w w' := by
  have I := Lib.hid (fun W h => st_Index va l s W h)
  have HA := Lib.hid ha
  generalize hasS l s = res at I ⊢
  obtain ⟨ks, ⟨h1, h2⟩, who, ⟨a1, a2⟩, ⟨b1', b2'⟩, via⟩ := s
  clear ha
  go_enter Tryz.func207, Tryz.ntmps207
  go_wp2_with fail
  refine (I.out _ (HA.out.below ((Below.refl _ _).alloc (Nat.le_refl _) _))).mono ?_
  rintro e w1 ⟨⟨i, rfl, hi⟩, hb⟩
  have HI := Lib.hid hi
  have HB := Lib.hid (((Below.refl _ w).alloc (Nat.le_refl _) _).trans (hb.mono (by simp)) : Below w.heap.size w w1)
  clear hi hb
  go_wp2
  go_ret
  exact ⟨ret_b HI.out, HB.out⟩

set_option maxRecDepth 100000 in
set_option maxHeartbeats 2000000 in
theorem st_Equal (va vb : Value) (l m : List St) (w : World) (ha : SlA w 9 va l.length (l.flatMap St.cells)) (hb : SlA w 9 vb m.length (m.flatMap St.cells)) :
    Calls Tryz.prog 137 #[va, vb] w fun e w' => e = .returned (.bool (decide (l = m))) ∧ ∃ n, w' = w.drewN n := by
  have hmax := ha.max
  have hmax2 := hb.max
  by_cases hl : l.length = m.length
  case neg =>
    have R := Lib.hid (same_len hl)
    have d : ((l.length : Int) != (m.length : Int)) = true := by rw [bne_iff_ne]; omega
    obtain ⟨a1, c1, rfl⟩ := ha.form
    obtain ⟨a2, c2, rfl⟩ := hb.form
    clear ha hb hl
    go_enter Tryz.func137, Tryz.ntmps137
    go_wp2
    go_ret
    exact ⟨ret_b R.out.symm, 0, rfl⟩
  have hNe := stmt_neq'
  have hne : ((l.length : Int) != (m.length : Int)) = false := by rw [hl]; simp
  by_cases h0 : 0 < l.length
  · obtain ⟨b1, o1, c1, rfl, hc1, hm1, _, hx1⟩ := ha.pos h0
    obtain ⟨b2, o2, c2, rfl, hc2, hm2, _, hx2⟩ := hb.pos (by omega)
    have HX1 := Lib.hid hx1
    have HX2 := Lib.hid hx2
    have HL := Lib.hid hl
    clear ha hb hx1 hx2 hl
    go_enter Tryz.func137, Tryz.ntmps137
    go_wp2
    go_loopw [13] (fun i wr => ∃ k n : Nat, k ≤ l.length ∧ i = .int .i64 k ∧ wr = w.drewN n ∧ Hid (l.take k = m.take k)) (fun i _ => l.length - (intOf i).toNat)
    case atStart => exact ⟨0, 0, by omega, rfl, rfl, Lib.hid (by simp)⟩
    case round =>
      obtain ⟨k, n, hk, rfl, rfl, HT⟩ := hrel
      by_cases hlt : k < l.length
      · have hlt2 : k < m.length := by have := HL.out; omega
        obtain ⟨p0, p1, p2, p3, p4, p5, p6, p7, p8⟩ := st_cell HX1.out k hlt
        obtain ⟨q0, q1, q2, q3, q4, q5, q6, q7, q8⟩ := st_cell HX2.out k hlt2
        by_cases he : l[k] = m[k]
        · have HN := Lib.hid (take_more HT.out hlt hlt2 he)
          have d1 : (!eqSt ⟨l[k].k, ⟨l[k].h.o, l[k].h.n⟩, l[k].who, ⟨l[k].a.o, l[k].a.n⟩, ⟨l[k].b.o, l[k].b.n⟩, l[k].via⟩ ⟨m[k].k, ⟨m[k].h.o, m[k].h.n⟩, m[k].who, ⟨m[k].a.o, m[k].a.n⟩, ⟨m[k].b.o, m[k].b.n⟩, m[k].via⟩) = false := by
            have := congrArg (!·) (decide_eq_true he); exact this
          clear he
          go_wp2_with fail
          go_big_quiet (fail)
          go_wp2
          exact ⟨⟨k + 1, n + nq, by omega, by go_num, rfl, HN⟩, by simp [intOf]; omega⟩
        · have R := Lib.hid (same_no hlt hlt2 he)
          have d1 : (!eqSt ⟨l[k].k, ⟨l[k].h.o, l[k].h.n⟩, l[k].who, ⟨l[k].a.o, l[k].a.n⟩, ⟨l[k].b.o, l[k].b.n⟩, l[k].via⟩ ⟨m[k].k, ⟨m[k].h.o, m[k].h.n⟩, m[k].who, ⟨m[k].a.o, m[k].a.n⟩, ⟨m[k].b.o, m[k].b.n⟩, m[k].via⟩) = true := by
            have := congrArg (!·) (decide_eq_false he); exact this
          clear he
          go_wp2_with fail
          go_big_quiet (fail)
          go_wp2
          go_ret
          exact ⟨ret_b R.out.symm, n + nq, by simp [World.drewN, Nat.add_assoc]⟩
      · have R := Lib.hid (same_end HT.out hlt (by have := HL.out; omega))
        go_wp2
        go_ret
        exact ⟨ret_b R.out.symm, n, rfl⟩
  · have R := Lib.hid (same_end (l := l) (m := m) (k := 0) (by simp) h0 (by omega))
    obtain ⟨a1, c1, rfl⟩ := ha.form
    obtain ⟨a2, c2, rfl⟩ := hb.form
    have d0 : l.length = 0 := by omega
    have d02 : m.length = 0 := by omega
    clear ha hb h0 hmax hl hmax2
    go_enter Tryz.func137, Tryz.ntmps137
    go_wp2
    go_loopw [13] (fun i wr => i = .int .i64 0 ∧ wr = w) (fun _ _ => 0)
    case atStart => exact ⟨rfl, rfl⟩
    case round =>
      obtain ⟨rfl, rfl⟩ := hrel
      go_wp2
      go_ret
      exact ⟨ret_b R.out.symm, 0, rfl⟩
end Go.Proofs.YtomhekohcadijaaGreatDoor
