/- crupperref03.Parse: what it returns, for every line: the same as syn.Parse. -/
import Derived.Test.YtakpahlgbcgnmaaDoorSynLaw
import Derived.Test.YtakpahlgbcgnmaaDoorSynMore2
import Derived.Test.YtakpahlgbcgnmaaDoorRef02Tok
import Derived.Deep.RegionHeld3
namespace Go.Proofs.YtakpahlgbcgnmaaDoor
open Go.RowKit Go.Shelf

theorem list5 {α : Type} {l : List α} (h : l.length = 5) : ∃ t0 t1 t2 t3 t4, l = [t0, t1, t2, t3, t4] := by
  match l, h with
  | [t0, t1, t2, t3, t4], _ => exact ⟨t0, t1, t2, t3, t4, rfl⟩
theorem list7 {α : Type} {l : List α} (h : l.length = 7) : ∃ t0 t1 t2 t3 t4 t5 t6, l = [t0, t1, t2, t3, t4, t5, t6] := by
  match l, h with
  | [t0, t1, t2, t3, t4, t5, t6], _ => exact ⟨t0, t1, t2, t3, t4, t5, t6, rfl⟩
theorem list9 {α : Type} {l : List α} (h : l.length = 9) : ∃ t0 t1 t2 t3 t4 t5 t6 t7 t8, l = [t0, t1, t2, t3, t4, t5, t6, t7, t8] := by
  match l, h with
  | [t0, t1, t2, t3, t4, t5, t6, t7, t8], _ => exact ⟨t0, t1, t2, t3, t4, t5, t6, t7, t8, rfl⟩
theorem list11 {α : Type} {l : List α} (h : l.length = 11) : ∃ t0 t1 t2 t3 t4 t5 t6 t7 t8 t9 t10, l = [t0, t1, t2, t3, t4, t5, t6, t7, t8, t9, t10] := by
  match l, h with
  | [t0, t1, t2, t3, t4, t5, t6, t7, t8, t9, t10], _ => exact ⟨t0, t1, t2, t3, t4, t5, t6, t7, t8, t9, t10, rfl⟩
theorem fits_le : ∀ (l : List Tok) (s : List Int), fitsS l s ≤ l.length
  | [], s => by rw [fits_none]; simp
  | t :: l, [] => by rw [fits_end]; omega
  | t :: l, k :: s => by
    rw [fits_cons]
    have := fits_le l s
    split <;> simp <;> omega
def noEx (l : List Tok) (s : List Int) (n : Nat) : Prop := ¬ (fitsS l s = l.length ∧ fitsS l s = n)
def bestK (l : List Tok) : Nat → Nat
  | 0 => 0
  | 1 => fitsS l sh1
  | 2 => max (fitsS l sh1) (fitsS l sh2)
  | 3 => max (max (fitsS l sh1) (fitsS l sh2)) (fitsS l sh3)
  | _ => best l
def noExK (l : List Tok) : Nat → Prop
  | 0 => True
  | 1 => noEx l sh1 5
  | 2 => noEx l sh1 5 ∧ noEx l sh2 7
  | 3 => noEx l sh1 5 ∧ noEx l sh2 7 ∧ noEx l sh3 9
  | _ => noEx l sh1 5 ∧ noEx l sh2 7 ∧ noEx l sh3 9 ∧ noEx l sh4 11
theorem best_le (l : List Tok) : best l ≤ l.length := by
  have := fits_le l sh1; have := fits_le l sh2; have := fits_le l sh3; have := fits_le l sh4
  unfold best; omega
theorem refS_end (l : List Tok) (e : Int) (h : noExK l 4) : refS l e = refEnd l e := by
  obtain ⟨h1, h2, h3, h4⟩ := h
  unfold refS
  rw [if_neg h1, if_neg h2, if_neg h3, if_neg h4]
theorem refEnd_yes (l : List Tok) (e : Int) (h : best l = l.length) : refEnd l e = (noS, e, 3) := if_pos h
theorem refEnd_no (l : List Tok) (e : Int) (h : best l < l.length) : refEnd l e = (noS, l[best l].col, 2) := by
  unfold refEnd
  rw [if_neg (by omega)]
  simp [List.getD_eq_getElem?_getD, List.getElem?_eq_getElem h]
theorem refS_1 (l : List Tok) (e : Int) (h : fitsS l sh1 = l.length ∧ fitsS l sh1 = 5) : refS l e = (⟨1, ⟨tx l 0, tx l 2⟩, tx l 4, noR, noR, emp⟩, 0, 0) := if_pos h
theorem refS_2 (l : List Tok) (e : Int) (h1 : noExK l 1) (h : fitsS l sh2 = l.length ∧ fitsS l sh2 = 7) : refS l e = (⟨2, ⟨tx l 0, tx l 2⟩, emp, ⟨tx l 4, tx l 6⟩, noR, emp⟩, 0, 0) := by
  unfold refS; rw [if_neg h1, if_pos h]
theorem refS_3 (l : List Tok) (e : Int) (h1 : noExK l 2) (h : fitsS l sh3 = l.length ∧ fitsS l sh3 = 9) : refS l e = (⟨3, ⟨tx l 0, tx l 2⟩, emp, ⟨tx l 4, tx l 6⟩, noR, tx l 8⟩, 0, 0) := by
  unfold refS; rw [if_neg h1.1, if_neg h1.2, if_pos h]
theorem refS_4 (l : List Tok) (e : Int) (h1 : noExK l 3) (h : fitsS l sh4 = l.length ∧ fitsS l sh4 = 11) : refS l e = (normalS ⟨4, ⟨tx l 0, tx l 2⟩, emp, ⟨tx l 4, tx l 6⟩, ⟨tx l 8, tx l 10⟩, emp⟩, 0, 0) := by
  unfold refS; rw [if_neg h1.1, if_neg h1.2.1, if_neg h1.2.2, if_pos h]
theorem cast_max (a b : Nat) : ((max a b : Nat) : Int) = max (a : Int) (b : Int) := by omega
theorem sl_cells {w : World} {b off : Nat} {xs : List Value} (h : ∀ j u, xs[j]? = some u → w.cell? ⟨b, off + j, none⟩ = some u) (j : Nat) (u : Value) (hu : xs[j]? = some u) : w.cell? ⟨b, off + j, none⟩ = some u := h j u hu

set_option maxRecDepth 100000 in
set_option maxHeartbeats 8000000 in
theorem ref3_Parse (s : ByteArray) (w : World) (hs : s.size ≤ 9223372036854775806) :
    Calls Tryd.prog 22 #[.string s] w fun e w' => e = .returned (.tuple #[sv (parseS s).1, .int .i64 (parseS s).2.1, .int .i64 (parseS s).2.2]) ∧ Below w.heap.size w w' := by
  have E := Lib.hid (show parseS s = parseT (tokens (bl s)) (endOf s) from rfl)
  have HEnd := Lib.hid (fun W => ref3_End s W hs)
  have hen : endOf' s = endOf s := rfl
  rw [hen] at HEnd
  generalize endOf s = en at E HEnd
  generalize parseS s = res at E ⊢
  clear hen
  go_enter Tryd.func22, Tryd.ntmps22
  go_wp2_with fail
  refine (ref2_Tokens_any s _ (by omega)).mono ?_
  rintro e w1 ⟨va, rfl, hown1, hb1⟩
  obtain ⟨sa, sc, rfl⟩ := own_form hown1
  have HLOW : Hid (∀ b o, sa = some ⟨b, o, none⟩ → w.heap.size < b) := Lib.hid (by
    intro b o e
    subst e
    rcases hown1.2 with ⟨h0, _⟩ | ⟨g, cap, cur, h0, hb, _⟩
    · cases h0
    · cases h0
      simp at hb
      omega)
  have hsl1 := Lib.hid (Sl.of_own hown1)
  have hres := (keep1 hb1)
  have hbw1 := (((Below.refl _ _).alloc (Nat.le_refl _) _).trans (hb1.mono (by simp)) : Below w.heap.size w w1)
  clear hown1 hb1
  generalize tokens (bl s) = t at hsl1 E ⊢
  obtain ⟨l, i, y⟩ := t
  dsimp only at hsl1 E ⊢
  by_cases hy : y = 0
  · subst hy
    replace E := Lib.hid (E.out.trans ((parseT_good rfl).trans (law_parse l en)))
    have hz1 := hbw1.size
    have hzw : w.heap.size < w1.heap.size := hres.2.2
    have HBW := Lib.hid hbw1
    clear hbw1
    go_wp2_with fail
    refine (ref3_shapes w1).mono ?_
    rintro e w2 ⟨v, r1, r2, r3, r4, rfl, hv, g1, g2, g3, g4, hb2⟩
    obtain ⟨vb, vo, vc, rfl, hvc, hvm, hvlt, hvx⟩ := hv.pos (by decide)
    have v0 := sl_cells hvx 0 r1 rfl
    have v1 := sl_cells hvx 1 r2 rfl
    have v2 := sl_cells hvx 2 r3 rfl
    have v3 := sl_cells hvx 3 r4 rfl
    simp only [Nat.add_zero] at v0
    have G1 := Lib.hid g1
    have G2 := Lib.hid g2
    have G3 := Lib.hid g3
    have G4 := Lib.hid g4
    obtain ⟨ra1, rc1, rfl⟩ := g1.form
    obtain ⟨ra2, rc2, rfl⟩ := g2.form
    obtain ⟨ra3, rc3, rfl⟩ := g3.form
    obtain ⟨ra4, rc4, rfl⟩ := g4.form
    have hbw2 := HBW.out.trans (hb2.mono hz1)
    have HBW2 := Lib.hid hbw2
    have hz2 := hbw2.size
    have hsl2 := Lib.hid (hsl1.out.below hb2)
    have hres2 := hres.below hb2
    have HRES := Lib.hid hres2
    have hmax := hsl2.out.max
    have hzz2 := hres2.2.2
    clear hv hvx g1 g2 g3 g4 hres hres2 hb2 hbw2 hsl1
    have F1 := Lib.hid (fun n => ref3_fits _ _ l sh1 (w2.drewN n) hsl2.out G1.out (by decide))
    have F2 := Lib.hid (fun n => ref3_fits _ _ l sh2 (w2.drewN n) hsl2.out G2.out (by decide))
    have F3 := Lib.hid (fun n => ref3_fits _ _ l sh3 (w2.drewN n) hsl2.out G3.out (by decide))
    have F4 := Lib.hid (fun n => ref3_fits _ _ l sh4 (w2.drewN n) hsl2.out G4.out (by decide))
    go_wp2_with fail
    go_loopw [8, 26] (fun b i wr => ∃ k n m : Nat, k ≤ 4 ∧ i = .int .i64 k ∧ b = .int .i64 m ∧ wr = w2.drewN n ∧ Hid (m = bestK l k) ∧ Hid (noExK l k)) (fun _ i _ => 4 - (intOf i).toNat)
    case atStart => exact ⟨0, 0, 0, by omega, rfl, rfl, rfl, Lib.hid rfl, Lib.hid trivial⟩
    case round =>
      obtain ⟨k, n, m, hk, rfl, rfl, rfl, HM, HN⟩ := hrel
      by_cases k0 : k = 0
      · subst k0
        by_cases hex : fitsS l sh1 = l.length ∧ fitsS l sh1 = 5
        · obtain ⟨hx1, hx2⟩ := hex
          obtain ⟨t0, t1, t2, t3, t4, rfl⟩ := list5 (hx1.symm.trans hx2)
          have E1 : Hid (res = (⟨1, ⟨⟨t0.text.toArray⟩, ⟨t2.text.toArray⟩⟩, ⟨t4.text.toArray⟩, noR, noR, emp⟩, 0, 0)) := Lib.hid (E.out.trans (refS_1 _ en ⟨hx1, hx2⟩))
          obtain ⟨tb, tof, tc, he, hc, hm, hlt, hx⟩ := hsl2.out.pos (by simp)
          simp only [Value.slice.injEq, true_and] at he
          obtain ⟨rfl, rfl⟩ := he
          have p0 : w2.cell? ⟨tb, tof + 1, none⟩ = some (.string ⟨t0.text.toArray⟩) := (tok_kind hx 0 (by simp)).2.1
          have p2 : w2.cell? ⟨tb, tof + 6 + 1, none⟩ = some (.string ⟨t2.text.toArray⟩) := (tok_kind hx 2 (by simp)).2.1
          have p4 : w2.cell? ⟨tb, tof + 12 + 1, none⟩ = some (.string ⟨t4.text.toArray⟩) := (tok_kind hx 4 (by simp)).2.1
          have FF := Lib.hid (F1.out n)
          rw [hx2] at FF
          have HM2 := Lib.hid HM
          obtain ⟨ca, fa, za⟩ := id HRES.out
          clear hx1 hx2 hx E HM
          go_wp2_with (go_at_call 74; refine FF.out.mono ?_; rintro e w3 ⟨rfl, nq, rfl⟩)
          obtain ⟨w4, hw4⟩ : ∃ w4, w4 = w2.drewN (n + nq) := ⟨_, rfl⟩
          have P0 : w4.cell? ⟨tb, tof + 1, none⟩ = some (.string ⟨t0.text.toArray⟩) := by rw [hw4]; exact p0
          have P2 : w4.cell? ⟨tb, tof + 6 + 1, none⟩ = some (.string ⟨t2.text.toArray⟩) := by rw [hw4]; exact p2
          have P4 : w4.cell? ⟨tb, tof + 12 + 1, none⟩ = some (.string ⟨t4.text.toArray⟩) := by rw [hw4]; exact p4
          have HB4 : Hid (Below w2.heap.size w2 w4) := Lib.hid (by rw [hw4]; exact below_drewN (Below.refl _ _) _)
          have CA4 := Lib.hid (Blk.below HRES.out HB4.out)
          have hlt4 : tb < w4.heap.size := by rw [hw4]; exact hlt
          have qn : ∀ (cs : Array Value) (t : TypeId) (o : Nat), (w4.drew.alloc (.cells cs t)).cell? ⟨w4.heap.size, o, none⟩ = cs[o]? := fun cs t o => World.cell?_alloc_at cs t _ o rfl
          have qf : ∀ (cs : Array Value) (t : TypeId) (o : Nat), (w4.drew.alloc (.cells cs t)).frozen? ⟨w4.heap.size, o, none⟩ = false := fun cs t o => (Blk.new w4.drew cs t).2.1 o
          rw [← hw4]
          clear ca fa za p0 p2 p4 hlt hw4
          have hwr : IntKind.i64.wrap 1 = 1 := by rfl
          go_region_held3 (fun W => W.cell? ⟨tb, tof + 1, none⟩ = some (.string ⟨t0.text.toArray⟩) ∧ W.cell? ⟨tb, tof + 6 + 1, none⟩ = some (.string ⟨t2.text.toArray⟩)) (first | exact ⟨P0, P2⟩ | go_keep) (fail)
          try rw [hwr]
          obtain ⟨w5, hw5⟩ : ∃ w5, w5 = (w4.alloc (.cells #[.int .i64 1, .string ⟨t0.text.toArray⟩, .string ⟨t2.text.toArray⟩, .string ⟨#[]⟩, .string ⟨#[]⟩, .string ⟨#[]⟩, .string ⟨#[]⟩, .string ⟨#[]⟩, .string ⟨#[]⟩] 31)).drew := ⟨_, rfl⟩
          have HB5 : Hid (Below w2.heap.size w2 w5) := Lib.hid (by rw [hw5]; exact below_drew (HB4.out.alloc HB4.out.size _))
          have B5 : Blk w5 w4.heap.size #[.int .i64 1, .string ⟨t0.text.toArray⟩, .string ⟨t2.text.toArray⟩, .string ⟨#[]⟩, .string ⟨#[]⟩, .string ⟨#[]⟩, .string ⟨#[]⟩, .string ⟨#[]⟩, .string ⟨#[]⟩] := by rw [hw5]; exact Blk.new w4 _ _
          have R4 : w5.cell? ⟨tb, tof + 12 + 1, none⟩ = some (.string ⟨t4.text.toArray⟩) := by rw [hw5]; exact (World.cell?_alloc_past _ _ _ hlt4).trans P4
          obtain ⟨ca, fa, za⟩ := Blk.below HRES.out HB5.out
          obtain ⟨cb, fb, zb⟩ := id B5
          have hne : w.heap.size < w4.heap.size := Nat.lt_of_lt_of_le HRES.out.2.2 HB4.out.size
          have hlt5 : tb < w4.heap.size := hlt4
          rw [← hw5]
          clear hw5 B5 qn qf CA4 P0 P2 P4
          go_wp2_with fail
          refine bodyPost_ret (v := .tuple #[sv ⟨1, ⟨⟨t0.text.toArray⟩, ⟨t2.text.toArray⟩⟩, ⟨t4.text.toArray⟩, noR, noR, emp⟩, .int .i64 0, .int .i64 0]) (by simp [results, Tryd.results22, go_sem, ca, fa, noR]) rfl ⟨by rw [E1.out], ?_⟩
          have hb5 := HB5.out
          have hz4 := HB4.out.size
          have hz5 := HB5.out.size
          have hb4 := HBW2.out
          (repeat' (first | with_reducible exact Below.refl _ _ | with_reducible assumption | with_reducible (refine Below.setCell ?_ ?_ _) | with_reducible (refine Below.alloc ?_ ?_ _) | with_reducible (refine below_drew ?_) | with_reducible (refine below_drewN ?_ _) | with_reducible (refine Below.trans ?_ (Below.mono (by assumption) ?_)) | omega | (simp; done) | (simp; omega)))
        · have HN1 : Hid (noExK l 1) := Lib.hid hex
          have HM1 : Hid (max m (fitsS l sh1) = bestK l 1) := Lib.hid (by rw [HM.out]; show max 0 _ = fitsS l sh1; omega)
          have FF := Lib.hid (F1.out n)
          by_cases e1 : fitsS l sh1 = l.length
          · have d1 : ((fitsS l sh1 : Int) == (l.length : Int)) = true := by rw [beq_iff_eq]; omega
            have d2 : ((fitsS l sh1 : Int) == 5) = false := by rw [beq_eq_false_iff_ne]; exact fun h => hex ⟨e1, by omega⟩
            clear hex e1
            have HM2 := Lib.hid HM
            clear HM
            go_wp2_with (go_at_call 74; refine FF.out.mono ?_; rintro e w3 ⟨rfl, nq, rfl⟩)
            exact ⟨⟨1, n + nq, max m (fitsS l sh1), by omega, by go_num, by rw [cast_max], by simp, HM1, HN1⟩, by simp [intOf]⟩
          · have d1 : ((fitsS l sh1 : Int) == (l.length : Int)) = false := by rw [beq_eq_false_iff_ne]; omega
            clear hex e1
            have HM2 := Lib.hid HM
            clear HM
            go_wp2_with (go_at_call 74; refine FF.out.mono ?_; rintro e w3 ⟨rfl, nq, rfl⟩)
            exact ⟨⟨1, n + nq, max m (fitsS l sh1), by omega, by go_num, by rw [cast_max], by simp, HM1, HN1⟩, by simp [intOf]⟩
      by_cases k1 : k = 1
      · subst k1
        by_cases hex : fitsS l sh2 = l.length ∧ fitsS l sh2 = 7
        · obtain ⟨hx1, hx2⟩ := hex
          obtain ⟨t0, t1, t2, t3, t4, t5, t6, rfl⟩ := list7 (hx1.symm.trans hx2)
          have E1 : Hid (res = (normalS ⟨2, ⟨⟨t0.text.toArray⟩, ⟨t2.text.toArray⟩⟩, emp, ⟨⟨t4.text.toArray⟩, ⟨t6.text.toArray⟩⟩, noR, emp⟩, 0, 0)) := Lib.hid (E.out.trans ((refS_2 _ en HN.out ⟨hx1, hx2⟩).trans (by rw [normal2]; rfl)))
          obtain ⟨tb, tof, tc, he, hc, hm, hlt, hx⟩ := hsl2.out.pos (by simp)
          simp only [Value.slice.injEq, true_and] at he
          obtain ⟨rfl, rfl⟩ := he
          have p0 : w2.cell? ⟨tb, tof + 1, none⟩ = some (.string ⟨t0.text.toArray⟩) := (tok_kind hx 0 (by simp)).2.1
          have p2 : w2.cell? ⟨tb, tof + 6 + 1, none⟩ = some (.string ⟨t2.text.toArray⟩) := (tok_kind hx 2 (by simp)).2.1
          have p4 : w2.cell? ⟨tb, tof + 12 + 1, none⟩ = some (.string ⟨t4.text.toArray⟩) := (tok_kind hx 4 (by simp)).2.1
          have p6 : w2.cell? ⟨tb, tof + 18 + 1, none⟩ = some (.string ⟨t6.text.toArray⟩) := (tok_kind hx 6 (by simp)).2.1
          have FF := Lib.hid (F2.out n)
          rw [hx2] at FF
          have HM2 := Lib.hid HM
          obtain ⟨ca, fa, za⟩ := id HRES.out
          clear hx1 hx2 hx E HM
          go_wp2_with (go_at_call 74; refine FF.out.mono ?_; rintro e w3 ⟨rfl, nq, rfl⟩)
          obtain ⟨w4, hw4⟩ : ∃ w4, w4 = w2.drewN (n + nq) := ⟨_, rfl⟩
          have P0 : w4.cell? ⟨tb, tof + 1, none⟩ = some (.string ⟨t0.text.toArray⟩) := by rw [hw4]; exact p0
          have P2 : w4.cell? ⟨tb, tof + 6 + 1, none⟩ = some (.string ⟨t2.text.toArray⟩) := by rw [hw4]; exact p2
          have P4 : w4.cell? ⟨tb, tof + 12 + 1, none⟩ = some (.string ⟨t4.text.toArray⟩) := by rw [hw4]; exact p4
          have P6 : w4.cell? ⟨tb, tof + 18 + 1, none⟩ = some (.string ⟨t6.text.toArray⟩) := by rw [hw4]; exact p6
          have HB4 : Hid (Below w2.heap.size w2 w4) := Lib.hid (by rw [hw4]; exact below_drewN (Below.refl _ _) _)
          have CA4 := Lib.hid (Blk.below HRES.out HB4.out)
          have hlt4 : tb < w4.heap.size := by rw [hw4]; exact hlt
          have qn : ∀ (cs : Array Value) (t : TypeId) (o : Nat), (w4.drew.alloc (.cells cs t)).cell? ⟨w4.heap.size, o, none⟩ = cs[o]? := fun cs t o => World.cell?_alloc_at cs t _ o rfl
          have qf : ∀ (cs : Array Value) (t : TypeId) (o : Nat), (w4.drew.alloc (.cells cs t)).frozen? ⟨w4.heap.size, o, none⟩ = false := fun cs t o => (Blk.new w4.drew cs t).2.1 o
          rw [← hw4]
          clear ca fa za p0 p2 p4 p6 hlt hw4
          have hwr : IntKind.i64.wrap 2 = 2 := by rfl
          go_region_held3 (fun W => W.cell? ⟨tb, tof + 1, none⟩ = some (.string ⟨t0.text.toArray⟩) ∧ W.cell? ⟨tb, tof + 6 + 1, none⟩ = some (.string ⟨t2.text.toArray⟩)) (first | exact ⟨P0, P2⟩ | go_keep) (fail)
          try rw [hwr]
          obtain ⟨w5, hw5⟩ : ∃ w5, w5 = (w4.alloc (.cells #[.int .i64 2, .string ⟨t0.text.toArray⟩, .string ⟨t2.text.toArray⟩, .string ⟨#[]⟩, .string ⟨#[]⟩, .string ⟨#[]⟩, .string ⟨#[]⟩, .string ⟨#[]⟩, .string ⟨#[]⟩] 31)).drew := ⟨_, rfl⟩
          have HB5 : Hid (Below w2.heap.size w2 w5) := Lib.hid (by rw [hw5]; exact below_drew (HB4.out.alloc HB4.out.size _))
          have B5 : Blk w5 w4.heap.size #[.int .i64 2, .string ⟨t0.text.toArray⟩, .string ⟨t2.text.toArray⟩, .string ⟨#[]⟩, .string ⟨#[]⟩, .string ⟨#[]⟩, .string ⟨#[]⟩, .string ⟨#[]⟩, .string ⟨#[]⟩] := by rw [hw5]; exact Blk.new w4 _ _
          have R4 : w5.cell? ⟨tb, tof + 12 + 1, none⟩ = some (.string ⟨t4.text.toArray⟩) := by rw [hw5]; exact (World.cell?_alloc_past _ _ _ hlt4).trans P4
          have R6 : w5.cell? ⟨tb, tof + 18 + 1, none⟩ = some (.string ⟨t6.text.toArray⟩) := by rw [hw5]; exact (World.cell?_alloc_past _ _ _ hlt4).trans P6
          obtain ⟨ca, fa, za⟩ := Blk.below HRES.out HB5.out
          obtain ⟨cb, fb, zb⟩ := id B5
          have hne : w.heap.size < w4.heap.size := Nat.lt_of_lt_of_le HRES.out.2.2 HB4.out.size
          have hlt5 : tb < w4.heap.size := hlt4
          rw [← hw5]
          clear hw5 B5 qn qf CA4 P0 P2 P4 P6
          go_wp2_with fail
          refine region_tail 10 (by kernel_rfl) (by kernel_rfl) ?_
          simp only [List.take_succ_cons, List.take_zero, List.drop_succ_cons, List.drop_zero]
          repeat still_step
          refine wpStill_nil ?_
          go_wp2_with fail
          refine (ref3_Normal ⟨2, ⟨⟨t0.text.toArray⟩, ⟨t2.text.toArray⟩⟩, emp, ⟨⟨t4.text.toArray⟩, ⟨t6.text.toArray⟩⟩, noR, emp⟩ _).mono ?_
          have hb5 := HB5.out
          have hz4 := HB4.out.size
          have hz5 := HB5.out.size
          rintro e w9 ⟨rfl, hb9⟩
          have hb6 : Below w2.heap.size w2 w9 := by
            (repeat' (first | with_reducible exact Below.refl _ _ | with_reducible assumption | with_reducible (refine Below.setCell ?_ ?_ _) | with_reducible (refine Below.alloc ?_ ?_ _) | with_reducible (refine below_drew ?_) | with_reducible (refine below_drewN ?_ _) | with_reducible (refine Below.trans ?_ (Below.mono (by assumption) ?_)) | omega | (simp; done) | (simp; omega)))
          obtain ⟨cc, fc, zc⟩ := Blk.below HRES.out hb6
          clear ca fa za
          generalize normalS ⟨2, ⟨⟨t0.text.toArray⟩, ⟨t2.text.toArray⟩⟩, emp, ⟨⟨t4.text.toArray⟩, ⟨t6.text.toArray⟩⟩, noR, emp⟩ = nz at *
          obtain ⟨nk, ⟨nh1, nh2⟩, nwho, ⟨na1, na2⟩, ⟨nb1, nb2⟩, nvia⟩ := nz
          go_wp2_with fail
          refine bodyPost_ret (v := .tuple #[sv ⟨nk, ⟨nh1, nh2⟩, nwho, ⟨na1, na2⟩, ⟨nb1, nb2⟩, nvia⟩, .int .i64 0, .int .i64 0]) (by simp [results, Tryd.results22, go_sem, cc, fc]) rfl ⟨by rw [E1.out], ?_⟩
          have hb4 := HBW2.out
          (repeat' (first | with_reducible exact Below.refl _ _ | with_reducible assumption | with_reducible (refine Below.setCell ?_ ?_ _) | with_reducible (refine Below.alloc ?_ ?_ _) | with_reducible (refine below_drew ?_) | with_reducible (refine below_drewN ?_ _) | with_reducible (refine Below.trans ?_ (Below.mono (by assumption) ?_)) | omega | (simp; done) | (simp; omega)))
        · have HN1 : Hid (noExK l 2) := Lib.hid ⟨HN.out, hex⟩
          have HM1 : Hid (max m (fitsS l sh2) = bestK l 2) := Lib.hid (by rw [HM.out]; rfl)
          have FF := Lib.hid (F2.out n)
          by_cases e1 : fitsS l sh2 = l.length
          · have d1 : ((fitsS l sh2 : Int) == (l.length : Int)) = true := by rw [beq_iff_eq]; omega
            have d2 : ((fitsS l sh2 : Int) == 7) = false := by rw [beq_eq_false_iff_ne]; exact fun h => hex ⟨e1, by omega⟩
            clear hex e1
            have HM2 := Lib.hid HM
            clear HM
            go_wp2_with (go_at_call 74; refine FF.out.mono ?_; rintro e w3 ⟨rfl, nq, rfl⟩)
            exact ⟨⟨2, n + nq, max m (fitsS l sh2), by omega, by go_num, by rw [cast_max], by simp, HM1, HN1⟩, by simp [intOf]⟩
          · have d1 : ((fitsS l sh2 : Int) == (l.length : Int)) = false := by rw [beq_eq_false_iff_ne]; omega
            clear hex e1
            have HM2 := Lib.hid HM
            clear HM
            go_wp2_with (go_at_call 74; refine FF.out.mono ?_; rintro e w3 ⟨rfl, nq, rfl⟩)
            exact ⟨⟨2, n + nq, max m (fitsS l sh2), by omega, by go_num, by rw [cast_max], by simp, HM1, HN1⟩, by simp [intOf]⟩
      by_cases k2 : k = 2
      · subst k2
        by_cases hex : fitsS l sh3 = l.length ∧ fitsS l sh3 = 9
        · obtain ⟨hx1, hx2⟩ := hex
          obtain ⟨t0, t1, t2, t3, t4, t5, t6, t7, t8, rfl⟩ := list9 (hx1.symm.trans hx2)
          have E1 : Hid (res = (normalS ⟨3, ⟨⟨t0.text.toArray⟩, ⟨t2.text.toArray⟩⟩, emp, ⟨⟨t4.text.toArray⟩, ⟨t6.text.toArray⟩⟩, noR, ⟨t8.text.toArray⟩⟩, 0, 0)) := Lib.hid (E.out.trans ((refS_3 _ en HN.out ⟨hx1, hx2⟩).trans (by rw [normal3]; rfl)))
          obtain ⟨tb, tof, tc, he, hc, hm, hlt, hx⟩ := hsl2.out.pos (by simp)
          simp only [Value.slice.injEq, true_and] at he
          obtain ⟨rfl, rfl⟩ := he
          have p0 : w2.cell? ⟨tb, tof + 1, none⟩ = some (.string ⟨t0.text.toArray⟩) := (tok_kind hx 0 (by simp)).2.1
          have p2 : w2.cell? ⟨tb, tof + 6 + 1, none⟩ = some (.string ⟨t2.text.toArray⟩) := (tok_kind hx 2 (by simp)).2.1
          have p4 : w2.cell? ⟨tb, tof + 12 + 1, none⟩ = some (.string ⟨t4.text.toArray⟩) := (tok_kind hx 4 (by simp)).2.1
          have p6 : w2.cell? ⟨tb, tof + 18 + 1, none⟩ = some (.string ⟨t6.text.toArray⟩) := (tok_kind hx 6 (by simp)).2.1
          have p8 : w2.cell? ⟨tb, tof + 24 + 1, none⟩ = some (.string ⟨t8.text.toArray⟩) := (tok_kind hx 8 (by simp)).2.1
          have FF := Lib.hid (F3.out n)
          rw [hx2] at FF
          have HM2 := Lib.hid HM
          obtain ⟨ca, fa, za⟩ := id HRES.out
          clear hx1 hx2 hx E HM
          go_wp2_with (go_at_call 74; refine FF.out.mono ?_; rintro e w3 ⟨rfl, nq, rfl⟩)
          obtain ⟨w4, hw4⟩ : ∃ w4, w4 = w2.drewN (n + nq) := ⟨_, rfl⟩
          have P0 : w4.cell? ⟨tb, tof + 1, none⟩ = some (.string ⟨t0.text.toArray⟩) := by rw [hw4]; exact p0
          have P2 : w4.cell? ⟨tb, tof + 6 + 1, none⟩ = some (.string ⟨t2.text.toArray⟩) := by rw [hw4]; exact p2
          have P4 : w4.cell? ⟨tb, tof + 12 + 1, none⟩ = some (.string ⟨t4.text.toArray⟩) := by rw [hw4]; exact p4
          have P6 : w4.cell? ⟨tb, tof + 18 + 1, none⟩ = some (.string ⟨t6.text.toArray⟩) := by rw [hw4]; exact p6
          have P8 : w4.cell? ⟨tb, tof + 24 + 1, none⟩ = some (.string ⟨t8.text.toArray⟩) := by rw [hw4]; exact p8
          have HB4 : Hid (Below w2.heap.size w2 w4) := Lib.hid (by rw [hw4]; exact below_drewN (Below.refl _ _) _)
          have CA4 := Lib.hid (Blk.below HRES.out HB4.out)
          have hlt4 : tb < w4.heap.size := by rw [hw4]; exact hlt
          have qn : ∀ (cs : Array Value) (t : TypeId) (o : Nat), (w4.drew.alloc (.cells cs t)).cell? ⟨w4.heap.size, o, none⟩ = cs[o]? := fun cs t o => World.cell?_alloc_at cs t _ o rfl
          have qf : ∀ (cs : Array Value) (t : TypeId) (o : Nat), (w4.drew.alloc (.cells cs t)).frozen? ⟨w4.heap.size, o, none⟩ = false := fun cs t o => (Blk.new w4.drew cs t).2.1 o
          rw [← hw4]
          clear ca fa za p0 p2 p4 p6 p8 hlt hw4
          have hwr : IntKind.i64.wrap 3 = 3 := by rfl
          go_region_held3 (fun W => W.cell? ⟨tb, tof + 1, none⟩ = some (.string ⟨t0.text.toArray⟩) ∧ W.cell? ⟨tb, tof + 6 + 1, none⟩ = some (.string ⟨t2.text.toArray⟩)) (first | exact ⟨P0, P2⟩ | go_keep) (fail)
          try rw [hwr]
          obtain ⟨w5, hw5⟩ : ∃ w5, w5 = (w4.alloc (.cells #[.int .i64 3, .string ⟨t0.text.toArray⟩, .string ⟨t2.text.toArray⟩, .string ⟨#[]⟩, .string ⟨#[]⟩, .string ⟨#[]⟩, .string ⟨#[]⟩, .string ⟨#[]⟩, .string ⟨#[]⟩] 31)).drew := ⟨_, rfl⟩
          have HB5 : Hid (Below w2.heap.size w2 w5) := Lib.hid (by rw [hw5]; exact below_drew (HB4.out.alloc HB4.out.size _))
          have B5 : Blk w5 w4.heap.size #[.int .i64 3, .string ⟨t0.text.toArray⟩, .string ⟨t2.text.toArray⟩, .string ⟨#[]⟩, .string ⟨#[]⟩, .string ⟨#[]⟩, .string ⟨#[]⟩, .string ⟨#[]⟩, .string ⟨#[]⟩] := by rw [hw5]; exact Blk.new w4 _ _
          have R4 : w5.cell? ⟨tb, tof + 12 + 1, none⟩ = some (.string ⟨t4.text.toArray⟩) := by rw [hw5]; exact (World.cell?_alloc_past _ _ _ hlt4).trans P4
          have R6 : w5.cell? ⟨tb, tof + 18 + 1, none⟩ = some (.string ⟨t6.text.toArray⟩) := by rw [hw5]; exact (World.cell?_alloc_past _ _ _ hlt4).trans P6
          have R8 : w5.cell? ⟨tb, tof + 24 + 1, none⟩ = some (.string ⟨t8.text.toArray⟩) := by rw [hw5]; exact (World.cell?_alloc_past _ _ _ hlt4).trans P8
          obtain ⟨ca, fa, za⟩ := Blk.below HRES.out HB5.out
          obtain ⟨cb, fb, zb⟩ := id B5
          have hne : w.heap.size < w4.heap.size := Nat.lt_of_lt_of_le HRES.out.2.2 HB4.out.size
          have hlt5 : tb < w4.heap.size := hlt4
          rw [← hw5]
          clear hw5 B5 qn qf CA4 P0 P2 P4 P6 P8
          go_wp2_with fail
          refine region_tail 10 (by kernel_rfl) (by kernel_rfl) ?_
          simp only [List.take_succ_cons, List.take_zero, List.drop_succ_cons, List.drop_zero]
          repeat still_step
          refine wpStill_nil ?_
          go_wp2_with fail
          refine (ref3_Normal ⟨3, ⟨⟨t0.text.toArray⟩, ⟨t2.text.toArray⟩⟩, emp, ⟨⟨t4.text.toArray⟩, ⟨t6.text.toArray⟩⟩, noR, ⟨t8.text.toArray⟩⟩ _).mono ?_
          have hb5 := HB5.out
          have hz4 := HB4.out.size
          have hz5 := HB5.out.size
          rintro e w9 ⟨rfl, hb9⟩
          have hb6 : Below w2.heap.size w2 w9 := by
            (repeat' (first | with_reducible exact Below.refl _ _ | with_reducible assumption | with_reducible (refine Below.setCell ?_ ?_ _) | with_reducible (refine Below.alloc ?_ ?_ _) | with_reducible (refine below_drew ?_) | with_reducible (refine below_drewN ?_ _) | with_reducible (refine Below.trans ?_ (Below.mono (by assumption) ?_)) | omega | (simp; done) | (simp; omega)))
          obtain ⟨cc, fc, zc⟩ := Blk.below HRES.out hb6
          clear ca fa za
          generalize normalS ⟨3, ⟨⟨t0.text.toArray⟩, ⟨t2.text.toArray⟩⟩, emp, ⟨⟨t4.text.toArray⟩, ⟨t6.text.toArray⟩⟩, noR, ⟨t8.text.toArray⟩⟩ = nz at *
          obtain ⟨nk, ⟨nh1, nh2⟩, nwho, ⟨na1, na2⟩, ⟨nb1, nb2⟩, nvia⟩ := nz
          go_wp2_with fail
          refine bodyPost_ret (v := .tuple #[sv ⟨nk, ⟨nh1, nh2⟩, nwho, ⟨na1, na2⟩, ⟨nb1, nb2⟩, nvia⟩, .int .i64 0, .int .i64 0]) (by simp [results, Tryd.results22, go_sem, cc, fc]) rfl ⟨by rw [E1.out], ?_⟩
          have hb4 := HBW2.out
          (repeat' (first | with_reducible exact Below.refl _ _ | with_reducible assumption | with_reducible (refine Below.setCell ?_ ?_ _) | with_reducible (refine Below.alloc ?_ ?_ _) | with_reducible (refine below_drew ?_) | with_reducible (refine below_drewN ?_ _) | with_reducible (refine Below.trans ?_ (Below.mono (by assumption) ?_)) | omega | (simp; done) | (simp; omega)))
        · have HN1 : Hid (noExK l 3) := Lib.hid ⟨HN.out.1, HN.out.2, hex⟩
          have HM1 : Hid (max m (fitsS l sh3) = bestK l 3) := Lib.hid (by rw [HM.out]; rfl)
          have FF := Lib.hid (F3.out n)
          by_cases e1 : fitsS l sh3 = l.length
          · have d1 : ((fitsS l sh3 : Int) == (l.length : Int)) = true := by rw [beq_iff_eq]; omega
            have d2 : ((fitsS l sh3 : Int) == 9) = false := by rw [beq_eq_false_iff_ne]; exact fun h => hex ⟨e1, by omega⟩
            clear hex e1
            have HM2 := Lib.hid HM
            clear HM
            go_wp2_with (go_at_call 74; refine FF.out.mono ?_; rintro e w3 ⟨rfl, nq, rfl⟩)
            exact ⟨⟨3, n + nq, max m (fitsS l sh3), by omega, by go_num, by rw [cast_max], by simp, HM1, HN1⟩, by simp [intOf]⟩
          · have d1 : ((fitsS l sh3 : Int) == (l.length : Int)) = false := by rw [beq_eq_false_iff_ne]; omega
            clear hex e1
            have HM2 := Lib.hid HM
            clear HM
            go_wp2_with (go_at_call 74; refine FF.out.mono ?_; rintro e w3 ⟨rfl, nq, rfl⟩)
            exact ⟨⟨3, n + nq, max m (fitsS l sh3), by omega, by go_num, by rw [cast_max], by simp, HM1, HN1⟩, by simp [intOf]⟩
      by_cases k3 : k = 3
      · subst k3
        by_cases hex : fitsS l sh4 = l.length ∧ fitsS l sh4 = 11
        · obtain ⟨hx1, hx2⟩ := hex
          obtain ⟨t0, t1, t2, t3, t4, t5, t6, t7, t8, t9, t10, rfl⟩ := list11 (hx1.symm.trans hx2)
          have E1 : Hid (res = (normalS ⟨4, ⟨⟨t0.text.toArray⟩, ⟨t2.text.toArray⟩⟩, emp, ⟨⟨t4.text.toArray⟩, ⟨t6.text.toArray⟩⟩, ⟨⟨t8.text.toArray⟩, ⟨t10.text.toArray⟩⟩, emp⟩, 0, 0)) := Lib.hid (E.out.trans (refS_4 _ en HN.out ⟨hx1, hx2⟩))
          obtain ⟨tb, tof, tc, he, hc, hm, hlt, hx⟩ := hsl2.out.pos (by simp)
          simp only [Value.slice.injEq, true_and] at he
          obtain ⟨rfl, rfl⟩ := he
          have p0 : w2.cell? ⟨tb, tof + 1, none⟩ = some (.string ⟨t0.text.toArray⟩) := (tok_kind hx 0 (by simp)).2.1
          have p2 : w2.cell? ⟨tb, tof + 6 + 1, none⟩ = some (.string ⟨t2.text.toArray⟩) := (tok_kind hx 2 (by simp)).2.1
          have p4 : w2.cell? ⟨tb, tof + 12 + 1, none⟩ = some (.string ⟨t4.text.toArray⟩) := (tok_kind hx 4 (by simp)).2.1
          have p6 : w2.cell? ⟨tb, tof + 18 + 1, none⟩ = some (.string ⟨t6.text.toArray⟩) := (tok_kind hx 6 (by simp)).2.1
          have p8 : w2.cell? ⟨tb, tof + 24 + 1, none⟩ = some (.string ⟨t8.text.toArray⟩) := (tok_kind hx 8 (by simp)).2.1
          have p10 : w2.cell? ⟨tb, tof + 30 + 1, none⟩ = some (.string ⟨t10.text.toArray⟩) := (tok_kind hx 10 (by simp)).2.1
          have FF := Lib.hid (F4.out n)
          rw [hx2] at FF
          have HM2 := Lib.hid HM
          obtain ⟨ca, fa, za⟩ := id HRES.out
          clear hx1 hx2 hx E HM
          go_wp2_with (go_at_call 74; refine FF.out.mono ?_; rintro e w3 ⟨rfl, nq, rfl⟩)
          obtain ⟨w4, hw4⟩ : ∃ w4, w4 = w2.drewN (n + nq) := ⟨_, rfl⟩
          have P0 : w4.cell? ⟨tb, tof + 1, none⟩ = some (.string ⟨t0.text.toArray⟩) := by rw [hw4]; exact p0
          have P2 : w4.cell? ⟨tb, tof + 6 + 1, none⟩ = some (.string ⟨t2.text.toArray⟩) := by rw [hw4]; exact p2
          have P4 : w4.cell? ⟨tb, tof + 12 + 1, none⟩ = some (.string ⟨t4.text.toArray⟩) := by rw [hw4]; exact p4
          have P6 : w4.cell? ⟨tb, tof + 18 + 1, none⟩ = some (.string ⟨t6.text.toArray⟩) := by rw [hw4]; exact p6
          have P8 : w4.cell? ⟨tb, tof + 24 + 1, none⟩ = some (.string ⟨t8.text.toArray⟩) := by rw [hw4]; exact p8
          have P10 : w4.cell? ⟨tb, tof + 30 + 1, none⟩ = some (.string ⟨t10.text.toArray⟩) := by rw [hw4]; exact p10
          have HB4 : Hid (Below w2.heap.size w2 w4) := Lib.hid (by rw [hw4]; exact below_drewN (Below.refl _ _) _)
          have CA4 := Lib.hid (Blk.below HRES.out HB4.out)
          have hlt4 : tb < w4.heap.size := by rw [hw4]; exact hlt
          have qn : ∀ (cs : Array Value) (t : TypeId) (o : Nat), (w4.drew.alloc (.cells cs t)).cell? ⟨w4.heap.size, o, none⟩ = cs[o]? := fun cs t o => World.cell?_alloc_at cs t _ o rfl
          have qf : ∀ (cs : Array Value) (t : TypeId) (o : Nat), (w4.drew.alloc (.cells cs t)).frozen? ⟨w4.heap.size, o, none⟩ = false := fun cs t o => (Blk.new w4.drew cs t).2.1 o
          rw [← hw4]
          clear ca fa za p0 p2 p4 p6 p8 p10 hlt hw4
          have hwr : IntKind.i64.wrap 4 = 4 := by rfl
          go_region_held3 (fun W => W.cell? ⟨tb, tof + 1, none⟩ = some (.string ⟨t0.text.toArray⟩) ∧ W.cell? ⟨tb, tof + 6 + 1, none⟩ = some (.string ⟨t2.text.toArray⟩)) (first | exact ⟨P0, P2⟩ | go_keep) (fail)
          try rw [hwr]
          obtain ⟨w5, hw5⟩ : ∃ w5, w5 = (w4.alloc (.cells #[.int .i64 4, .string ⟨t0.text.toArray⟩, .string ⟨t2.text.toArray⟩, .string ⟨#[]⟩, .string ⟨#[]⟩, .string ⟨#[]⟩, .string ⟨#[]⟩, .string ⟨#[]⟩, .string ⟨#[]⟩] 31)).drew := ⟨_, rfl⟩
          have HB5 : Hid (Below w2.heap.size w2 w5) := Lib.hid (by rw [hw5]; exact below_drew (HB4.out.alloc HB4.out.size _))
          have B5 : Blk w5 w4.heap.size #[.int .i64 4, .string ⟨t0.text.toArray⟩, .string ⟨t2.text.toArray⟩, .string ⟨#[]⟩, .string ⟨#[]⟩, .string ⟨#[]⟩, .string ⟨#[]⟩, .string ⟨#[]⟩, .string ⟨#[]⟩] := by rw [hw5]; exact Blk.new w4 _ _
          have R4 : w5.cell? ⟨tb, tof + 12 + 1, none⟩ = some (.string ⟨t4.text.toArray⟩) := by rw [hw5]; exact (World.cell?_alloc_past _ _ _ hlt4).trans P4
          have R6 : w5.cell? ⟨tb, tof + 18 + 1, none⟩ = some (.string ⟨t6.text.toArray⟩) := by rw [hw5]; exact (World.cell?_alloc_past _ _ _ hlt4).trans P6
          have R8 : w5.cell? ⟨tb, tof + 24 + 1, none⟩ = some (.string ⟨t8.text.toArray⟩) := by rw [hw5]; exact (World.cell?_alloc_past _ _ _ hlt4).trans P8
          have R10 : w5.cell? ⟨tb, tof + 30 + 1, none⟩ = some (.string ⟨t10.text.toArray⟩) := by rw [hw5]; exact (World.cell?_alloc_past _ _ _ hlt4).trans P10
          obtain ⟨ca, fa, za⟩ := Blk.below HRES.out HB5.out
          obtain ⟨cb, fb, zb⟩ := id B5
          have hne : w.heap.size < w4.heap.size := Nat.lt_of_lt_of_le HRES.out.2.2 HB4.out.size
          have hlt5 : tb < w4.heap.size := hlt4
          rw [← hw5]
          clear hw5 B5 qn qf CA4 P0 P2 P4 P6 P8 P10
          go_wp2_with fail
          refine region_tail 10 (by kernel_rfl) (by kernel_rfl) ?_
          simp only [List.take_succ_cons, List.take_zero, List.drop_succ_cons, List.drop_zero]
          repeat still_step
          refine wpStill_nil ?_
          go_wp2_with fail
          refine region_tail 10 (by kernel_rfl) (by kernel_rfl) ?_
          simp only [List.take_succ_cons, List.take_zero, List.drop_succ_cons, List.drop_zero]
          repeat still_step
          refine wpStill_nil ?_
          go_wp2_with fail
          refine (ref3_Normal ⟨4, ⟨⟨t0.text.toArray⟩, ⟨t2.text.toArray⟩⟩, emp, ⟨⟨t4.text.toArray⟩, ⟨t6.text.toArray⟩⟩, ⟨⟨t8.text.toArray⟩, ⟨t10.text.toArray⟩⟩, emp⟩ _).mono ?_
          have hb5 := HB5.out
          have hz4 := HB4.out.size
          have hz5 := HB5.out.size
          rintro e w9 ⟨rfl, hb9⟩
          have hb6 : Below w2.heap.size w2 w9 := by
            (repeat' (first | with_reducible exact Below.refl _ _ | with_reducible assumption | with_reducible (refine Below.setCell ?_ ?_ _) | with_reducible (refine Below.alloc ?_ ?_ _) | with_reducible (refine below_drew ?_) | with_reducible (refine below_drewN ?_ _) | with_reducible (refine Below.trans ?_ (Below.mono (by assumption) ?_)) | omega | (simp; done) | (simp; omega)))
          obtain ⟨cc, fc, zc⟩ := Blk.below HRES.out hb6
          clear ca fa za
          generalize normalS ⟨4, ⟨⟨t0.text.toArray⟩, ⟨t2.text.toArray⟩⟩, emp, ⟨⟨t4.text.toArray⟩, ⟨t6.text.toArray⟩⟩, ⟨⟨t8.text.toArray⟩, ⟨t10.text.toArray⟩⟩, emp⟩ = nz at *
          obtain ⟨nk, ⟨nh1, nh2⟩, nwho, ⟨na1, na2⟩, ⟨nb1, nb2⟩, nvia⟩ := nz
          go_wp2_with fail
          refine bodyPost_ret (v := .tuple #[sv ⟨nk, ⟨nh1, nh2⟩, nwho, ⟨na1, na2⟩, ⟨nb1, nb2⟩, nvia⟩, .int .i64 0, .int .i64 0]) (by simp [results, Tryd.results22, go_sem, cc, fc]) rfl ⟨by rw [E1.out], ?_⟩
          have hb4 := HBW2.out
          (repeat' (first | with_reducible exact Below.refl _ _ | with_reducible assumption | with_reducible (refine Below.setCell ?_ ?_ _) | with_reducible (refine Below.alloc ?_ ?_ _) | with_reducible (refine below_drew ?_) | with_reducible (refine below_drewN ?_ _) | with_reducible (refine Below.trans ?_ (Below.mono (by assumption) ?_)) | omega | (simp; done) | (simp; omega)))
        · have HN1 : Hid (noExK l 4) := Lib.hid ⟨HN.out.1, HN.out.2.1, HN.out.2.2, hex⟩
          have HM1 : Hid (max m (fitsS l sh4) = bestK l 4) := Lib.hid (by rw [HM.out]; rfl)
          have FF := Lib.hid (F4.out n)
          by_cases e1 : fitsS l sh4 = l.length
          · have d1 : ((fitsS l sh4 : Int) == (l.length : Int)) = true := by rw [beq_iff_eq]; omega
            have d2 : ((fitsS l sh4 : Int) == 11) = false := by rw [beq_eq_false_iff_ne]; exact fun h => hex ⟨e1, by omega⟩
            clear hex e1
            have HM2 := Lib.hid HM
            clear HM
            go_wp2_with (go_at_call 74; refine FF.out.mono ?_; rintro e w3 ⟨rfl, nq, rfl⟩)
            exact ⟨⟨4, n + nq, max m (fitsS l sh4), by omega, by go_num, by rw [cast_max], by simp, HM1, HN1⟩, by simp [intOf]⟩
          · have d1 : ((fitsS l sh4 : Int) == (l.length : Int)) = false := by rw [beq_eq_false_iff_ne]; omega
            clear hex e1
            have HM2 := Lib.hid HM
            clear HM
            go_wp2_with (go_at_call 74; refine FF.out.mono ?_; rintro e w3 ⟨rfl, nq, rfl⟩)
            exact ⟨⟨4, n + nq, max m (fitsS l sh4), by omega, by go_num, by rw [cast_max], by simp, HM1, HN1⟩, by simp [intOf]⟩
      obtain rfl : k = 4 := by omega
      have E4 := Lib.hid (E.out.trans (refS_end l en HN.out))
      have hm4 : m = best l := HM.out
      have hbl := best_le l
      obtain ⟨ca, fa, za⟩ := id HRES.out
      have hb4 := HBW2.out
      by_cases hbe : best l = l.length
      · have E5 := Lib.hid (E4.out.trans (refEnd_yes l en hbe))
        have d1 : ((m : Int) == (l.length : Int)) = true := by rw [beq_iff_eq]; omega
        clear hm4 hbl hbe E E4 HM HN
        go_wp2_with (go_at_call 75; refine (HEnd.out _).mono ?_; rintro e w3 ⟨rfl, rfl⟩)
        refine bodyPost_ret (v := .tuple #[sv noS, .int .i64 en, .int .i64 3]) (by simp [results, Tryd.results22, go_sem, ca, fa, noS, noR]) rfl ⟨by rw [E5.out], ?_⟩
        (repeat' (first | with_reducible exact Below.refl _ _ | with_reducible assumption | with_reducible (refine Below.setCell ?_ ?_ _) | with_reducible (refine Below.alloc ?_ ?_ _) | with_reducible (refine below_drew ?_) | with_reducible (refine below_drewN ?_ _) | with_reducible (refine Below.trans ?_ (Below.mono (by assumption) ?_)) | omega | (simp; done) | (simp; omega)))
      · have hlb : best l < l.length := by omega
        have E5 := Lib.hid (E4.out.trans (refEnd_no l en hlb))
        have d1 : ((m : Int) == (l.length : Int)) = false := by rw [beq_eq_false_iff_ne]; omega
        obtain ⟨tb, tof, tc, he, hc, hm, hlt, hx⟩ := hsl2.out.pos (by omega)
        simp only [Value.slice.injEq, true_and] at he
        obtain ⟨rfl, rfl⟩ := he
        subst hm4
        obtain ⟨p0, p1, p2⟩ := tok_kind hx (best l) hlb
        generalize l[best l].col = cl at p2 E5
        generalize best l = bb at *
        have hbg : ¬ tb = w.heap.size := by have := HLOW.out tb tof rfl; omega
        clear hbl hbe E E4 HM HN hx p0 p1
        go_wp2_with fail
        go_region
        go_wp2_with fail
        refine bodyPost_ret (v := .tuple #[sv noS, .int .i64 cl, .int .i64 2]) (by simp [results, Tryd.results22, go_sem, ca, fa, noS, noR]) rfl ⟨by rw [E5.out], ?_⟩
        (repeat' (first | with_reducible exact Below.refl _ _ | with_reducible assumption | with_reducible (refine Below.setCell ?_ ?_ _) | with_reducible (refine Below.alloc ?_ ?_ _) | with_reducible (refine below_drew ?_) | with_reducible (refine below_drewN ?_ _) | with_reducible (refine Below.trans ?_ (Below.mono (by assumption) ?_)) | omega | (simp; done) | (simp; omega)))
  · replace E := Lib.hid (E.out.trans (parseT_bad hy))
    have d : (y != 0) = true := by simp [hy]
    clear hy
    obtain ⟨ca, fa, za⟩ := id hres
    go_wp2
    refine bodyPost_ret (v := .tuple #[sv noS, .int .i64 i, .int .i64 y]) (by simp [results, Tryd.results22, go_sem, ca, fa, noS, noR]) rfl ⟨by rw [E.out], ?_⟩
    have hb4 := hbw1
    (repeat' (first | with_reducible exact Below.refl _ _ | with_reducible assumption | with_reducible (refine Below.setCell ?_ ?_ _) | with_reducible (refine Below.alloc ?_ ?_ _) | with_reducible (refine below_drew ?_) | with_reducible (refine below_drewN ?_ _) | with_reducible (refine Below.trans ?_ (Below.mono (by assumption) ?_)) | omega | (simp; done) | (simp; omega)))
end Go.Proofs.YtakpahlgbcgnmaaDoor
