/- crupperref32.Out: roles that aren't among others, in order (printed by gen_rlall.py out of StOf). Package state: Reaches; the reference's MayCome and Reaches. Package state's Reaches, and the reference's MayCome and Reaches. The reference's Reaches. The statement StateReaches: the walk of the law. A region that draws its order, walked by hand: an operation that is taken first, and one whose guard says no. A store into a block of slices leaves all rows of other things as they were. -/
import Derived.Test.YtmpanikeeeoikaaGreatPart10
import Derived.Test.YtmpanikeeeoikaaGreatPart11
import Derived.Test.YtmpanikeeeoikaaGreatPart8
import Derived.Test.YtmpanikeeeoikaaGreatPart6
import Derived.Test.YtmpanikeeeoikaaGreatPart3
import Derived.Deep.RegionHeld3
import Derived.Test.YtmpanikeeeoikaaGreatPart4
namespace Go.Proofs.YtmpanikeeeoikaaGreat
open Go.RowKit Go.Shelf

theorem flat_snocR (l : List Rl) (x : Rl) : (l ++ [x]).flatMap Rl.cells = l.flatMap Rl.cells ++ x.cells := by simp
set_option maxRecDepth 100000 in
set_option maxHeartbeats 4000000 in
/-- crupperref10.Of: those of a row in order that aren't in another one, in a row of its own. -/
theorem ref32_OutO (va vb : Value) (l0 m : List Rl) (w : World) (ha0 : SlA w 2 va l0.length (l0.flatMap Rl.cells)) (hb0 : SlA w 2 vb m.length (m.flatMap Rl.cells)) (hl0 : l0.length ≤ 1000) :
    Calls Tryz.prog 28 #[va, vb] w fun e w' => ∃ v base, e = .returned v ∧ w.heap.size ≤ base ∧ base ≤ w'.heap.size ∧ w'.ownsRow base 50 2 v ((ordR l0).filter fun x => !hasR m x).length (((ordR l0).filter fun x => !hasR m x).flatMap Rl.cells) ∧ Below w.heap.size w w' := by
  have RS := Lib.hid (ref5_Sort va l0 w ha0 hl0)
  have hlen := ord_lenR l0
  have HBM := Lib.hid hb0
  obtain ⟨bo, bc, hvb⟩ := hb0.form
  subst hvb
  have RH := Lib.hid (fun x W h => ref5_Has (.slice bo m.length bc) m x W h)
  obtain ⟨a0, ac0, hva⟩ := ha0.form
  subst hva
  change Hid (Calls Tryz.prog 35 _ w fun e w' => ∃ v, e = .returned v ∧ Sl w' 2 v (ordR l0).length ((ordR l0).flatMap Rl.cells) ∧ Below w.heap.size w w') at RS
  generalize ordR l0 = l at RS hlen ⊢
  generalize hp : (fun x => !hasR m x) = p
  have PE := Lib.hid (show ∀ x, p x = !hasR m x from fun x => by rw [← hp])
  clear ha0 hb0 hp
  go_enter Tryz.func28, Tryz.ntmps28
  go_wp2_with fail
  refine RS.out.mono ?_
  rintro e w1 ⟨va, rfl, hs1, hb1⟩
  have HA := Lib.hid hs1
  have HB0 := Lib.hid hb1
  have HBM := Lib.hid (HBM.out.below hb1)
  have hmax := hs1.max
  obtain ⟨ao, cap, hva⟩ := hs1.form
  subst hva
  clear hs1 hb1
  go_wp2_with fail
  go_loopw [5, 11] (fun vo i wr => ∃ k : Nat, k ≤ l.length ∧ i = .int .i64 k ∧ Hid (Below w1.heap.size w1 wr) ∧ Hid (wr.ownsRow w1.heap.size 50 2 vo ((l.take k).filter p).length (((l.take k).filter p).flatMap Rl.cells))) (fun _ i _ => l.length - (intOf i).toNat)
  case atStart => exact ⟨0, by omega, rfl, Lib.hid (Below.refl _ _), Lib.hid (World.ownsRow_nil _ _ _ _)⟩
  case round =>
    obtain ⟨k, hk, rfl, HB, HO⟩ := hrel
    obtain ⟨oo, oc, rfl⟩ := own_form HO.out
    by_cases hlt : k < l.length
    · obtain ⟨b1, o1, c1, he1, hc1, hm1, hb1, hx1⟩ := HA.out.pos (by omega)
      simp only [Value.slice.injEq, true_and] at he1
      obtain ⟨rfl, rfl⟩ := he1
      obtain ⟨p0, p1⟩ := rl_cell (w := wr) (fun j u hu => (HB.out.cell (p := ⟨b1, o1 + j, none⟩) hb1).trans (hx1 j u hu)) k hlt
      have hbr : b1 < wr.heap.size := Nat.lt_of_lt_of_le hb1 HB.out.size
      have PC := Lib.hid (fun W h => RH.out l[k] W h)
      have PX := Lib.hid (PE.out l[k])
      have FY := Lib.hid (fun h => filter_yesR (p := p) hlt h)
      have FN := Lib.hid (fun h => filter_noR (p := p) hlt h)
      have hlk : ((l.take k).filter p).length ≤ l.length := Nat.le_trans (List.length_filter_le _ _) (by simp; omega)
      generalize l[k] = x at *
      obtain ⟨x1, x2⟩ := x
      rw [PX.out] at FY FN
      generalize hasR m ⟨x1, x2⟩ = px at PC FY FN
      clear PX
      clear hx1
      have HB1 := Lib.hid (HB.out.alloc HB.out.size (.cells #[.string x1, .string x2] 50))
      go_wp2_with fail
      refine (PC.out _ (HBM.out.below HB1.out)).mono ?_
      rintro e w2 ⟨rfl, hb2⟩
      have HB2 := Lib.hid (HB1.out.trans (hb2.mono HB1.out.size))
      have HBK := Lib.hid (keep1 hb2)
      have HO2 := Lib.hid (own_below (own_below HO.out ((Below.refl _ _).alloc (Nat.le_refl _) _)) hb2)
      obtain ⟨cx, fx, zx⟩ := HBK.out
      have hz2 := HB2.out.size
      clear hb2
      cases px with
      | true =>
        have e := Lib.hid (FN.out rfl)
        clear FY FN
        go_wp2_with fail
        exact ⟨⟨k + 1, by omega, by go_num, HB2, Lib.hid (by rw [e.out]; exact HO2.out)⟩, by simp [intOf]; omega⟩
      | false =>
        have e := Lib.hid (FY.out rfl)
        clear FY FN
        have hown := HO2.out
        go_wp2_with (at_builtin; refine halt_ ?_)
        unfold Halt_
        refine app_own Tryz.underlying23 rl_info' rfl (by decide) (by decide) rfl _ _ rfl w1.heap.size rfl (hown.alloc _) [.string x1, .string x2] rfl (heap_new1 _ _) rfl (rlc_one ⟨x1, x2⟩) ?_ ?_ ?_
        · omega
        · simp; omega
        intro a' cap' w3 hown' hgrow
        have HO3 := Lib.hid (show w3.ownsRow w1.heap.size 50 2 _ (((l.take (k + 1)).filter p).length) (((l.take (k + 1)).filter p).flatMap Rl.cells) by rw [e.out, flat_snocR, List.length_append]; exact hown')
        have HB3 := Lib.hid (below_own (HB2.out.alloc HB2.out.size (.cells #[.string x1, .string x2] 50)) (hown.alloc _) hgrow (by simp; omega) (Nat.le_refl _))
        clear hown' hgrow hown
        go_wp2_with fail
        refine ⟨⟨k + 1, by omega, by go_num, HB3, ?_⟩, by simp [intOf]; omega⟩
        rw [e.out, List.length_append] at HO3
        rw [e.out, List.length_append]
        exact HO3
    · have e := Lib.hid (show l.take k = l by rw [List.take_of_length_le (by omega)])
      go_wp2_with fail
      go_ret
      exact ⟨_, w1.heap.size, rfl, HB0.out.size, HB.out.size, by have := HO.out; rw [e.out] at this ⊢; exact this, HB0.out.trans (HB.out.mono HB0.out.size)⟩
theorem ref32_Out (va vb : Value) (l0 m : List Rl) (w : World) (ha0 : SlA w 2 va l0.length (l0.flatMap Rl.cells)) (hb0 : SlA w 2 vb m.length (m.flatMap Rl.cells)) (hl0 : l0.length ≤ 1000) :
    Calls Tryz.prog 28 #[va, vb] w fun e w' => ∃ v, e = .returned v ∧ Sl w' 2 v ((ordR l0).filter fun x => !hasR m x).length (((ordR l0).filter fun x => !hasR m x).flatMap Rl.cells) ∧ Below w.heap.size w w' :=
  (ref32_OutO va vb l0 m w ha0 hb0 hl0).mono fun _ _ ⟨v, _, he, _, _, ho, hb⟩ => ⟨v, he, Sl.of_own ho, hb⟩
theorem ref32_out (va vb : Value) (l m : List Rl) (w : World) (ha : SlA w 2 va l.length (l.flatMap Rl.cells)) (hb : SlA w 2 vb m.length (m.flatMap Rl.cells)) (hl : l.length ≤ 1000) :
    Calls Tryz.prog 28 #[va, vb] w fun e w' => ∃ v, e = .returned v ∧ Sl w' 2 v (outR l m).length ((outR l m).flatMap Rl.cells) ∧ Below w.heap.size w w' := ref32_Out va vb l m w ha hb hl
end Go.Proofs.YtmpanikeeeoikaaGreat
namespace Go.Proofs.YtmpanikeeeoikaaGreat
open Go.RowKit Go.Shelf

section
variable {α : Type} {l : List α} {p : α → Bool}
theorem all_no {k : Nat} (hk : k < l.length) (h : p l[k] = false) : l.all p = false := by
  rw [List.all_eq_false]; exact ⟨l[k], List.getElem_mem hk, by rw [h]; exact Bool.false_ne_true⟩
theorem all_end' (h : ∀ j (hj : j < l.length), p l[j] = true) : l.all p = true := by
  rw [List.all_eq_true]; intro x hx
  obtain ⟨j, hj, rfl⟩ := List.getElem_of_mem hx
  exact h j hj
theorem any_yes {k : Nat} (hk : k < l.length) (h : p l[k] = true) : l.any p = true := by
  rw [List.any_eq_true]; exact ⟨l[k], List.getElem_mem hk, h⟩
theorem any_end (h : ∀ j (hj : j < l.length), p l[j] = false) : l.any p = false := by
  rw [List.any_eq_false]; intro x hx
  obtain ⟨j, hj, rfl⟩ := List.getElem_of_mem hx
  rw [h j hj]; exact Bool.false_ne_true
end

def cOk (l : List St) (g : List Rl) (s : St) : Bool := rightS s && (hasS l s || !hasR g s.h)
def stays (h : List Rl) (m : List St) (s : St) : Bool := hasR h s.h && !hasS m s
def reachS (l : List St) (g h : List Rl) (m : List St) : Bool := m.all (cOk l g) && !(l.any (stays h m))

end Go.Proofs.YtmpanikeeeoikaaGreat
namespace Go.Proofs.YtmpanikeeeoikaaGreat
open Go.RowKit Go.Shelf

theorem cOk_no1 {l : List St} {g : List Rl} {s : St} (h : rightS s = false) : cOk l g s = false := by unfold cOk; rw [h]; rfl
theorem cOk_eq {l : List St} {g : List Rl} {s : St} (h : rightS s = true) : cOk l g s = (hasS l s || !hasR g s.h) := by unfold cOk; rw [h]; rfl

end Go.Proofs.YtmpanikeeeoikaaGreat
namespace Go.Proofs.YtmpanikeeeoikaaGreat
open Go.RowKit Go.Shelf

set_option maxRecDepth 100000 in
set_option maxHeartbeats 4000000 in
theorem ref10_Reaches (v0 v1 v2 v3 vc : Value) (l m : List St) (g h : List Rl) (qs : List Qv) (w : World) (hp : PolAt w v0 v1 v2 v3 l g h qs) (hc : SlA w 9 vc m.length (m.flatMap St.cells)) (hm : allLe m 4294967) :
    Calls Tryz.prog 22 #[pv v0 v1 v2 v3, vc] w fun e w' => e = .returned (.bool (reachS l g h m)) ∧ Below w.heap.size w w' := by
  have HP := Lib.hid hp
  have HC := Lib.hid hc
  have hmaxm := hc.max
  have hmaxl := hp.rs.max
  obtain ⟨a0, c0, rfl⟩ := hp.rs.form
  obtain ⟨a1, c1, rfl⟩ := hp.rg.form
  obtain ⟨a2, c2, rfl⟩ := hp.rh.form
  obtain ⟨a3, c3, rfl⟩ := hp.rq.form
  obtain ⟨ac, cc, rfl⟩ := hc.form
  have HT := Lib.hid (show OneAt w #[.slice a0 l.length c0, .slice a1 g.length c1, .slice a2 h.length c2, .slice a3 qs.length c3] (w.alloc (.cells #[.slice a0 l.length c0, .slice a1 g.length c1, .slice a2 h.length c2, .slice a3 qs.length c3] 26)) from ⟨Blk.new w _ _, (Below.refl _ _).alloc (Nat.le_refl _) _⟩)
  have RI := Lib.hid (fun k (hk : k < m.length) W => ref3_Right m[k] W (hm _ (List.getElem_mem hk)))
  have SI := Lib.hid (fun x W (hb : Below w.heap.size w W) => ref3_Has (.slice a0 l.length c0) l x W (hp.rs.below hb))
  have MI := Lib.hid (fun k (hk : k < m.length) W (hb : Below w.heap.size w W) => ref5_Has (.slice a1 g.length c1) g m[k].h W (hp.rg.below hb))
  have EN := Lib.hid (fun k (hk : k < m.length) (h : cOk l g m[k] = false) => all_no hk h)
  have EE := Lib.hid (fun (h : ∀ j (hj : j < m.length), cOk l g m[j] = true) => all_end' h)
  have HH := Lib.hid (fun x W (hb : Below w.heap.size w W) => ref5_Has (.slice a2 h.length c2) h x W (hp.rh.below hb))
  have HM := Lib.hid (fun x W (hb : Below w.heap.size w W) => ref3_Has (.slice ac m.length cc) m x W (hc.below hb))
  have NY := Lib.hid (fun k (hk : k < l.length) (hh : stays h m l[k] = true) => any_yes hk hh)
  have NE := Lib.hid (fun (hh : ∀ j (hj : j < l.length), stays h m l[j] = false) => any_end hh)
  unfold reachS
  generalize m.all (cOk l g) = r1 at EN EE ⊢
  generalize l.any (stays h m) = r2 at NY NE ⊢
  clear hp hc hm
  go_enter Tryz.func22, Tryz.ntmps22
  go_wp2_with fail
  go_loopw [11] (fun i wr => ∃ k : Nat, k ≤ m.length ∧ i = .int .i64 k ∧ Hid (OneAt w #[.slice a0 l.length c0, .slice a1 g.length c1, .slice a2 h.length c2, .slice a3 qs.length c3] wr) ∧ Hid (∀ j (hj : j < m.length), j < k → cOk l g m[j] = true)) (fun i _ => m.length - (intOf i).toNat)
  case atStart => exact ⟨0, by omega, rfl, HT, Lib.hid (fun _ _ h => absurd h (by omega))⟩
  case round =>
    clear HT
    obtain ⟨k, hk, rfl, HT, HJ⟩ := hrel
    by_cases hlt : k < m.length
    · obtain ⟨b1, o1, e1, he1, hc1, hm1, hb1, hx1⟩ := HC.out.pos (by omega)
      simp only [Value.slice.injEq, true_and] at he1
      obtain ⟨rfl, rfl⟩ := he1
      obtain ⟨p0, p1, p2, p3, p4, p5, p6, p7, p8⟩ := st_cell (w := wr) (fun j u hu => (HT.out.low.cell (p := ⟨b1, o1 + j, none⟩) hb1).trans (hx1 j u hu)) k hlt
      have hbr : b1 < wr.heap.size := Nat.lt_of_lt_of_le hb1 HT.out.low.size
      have RK := Lib.hid (fun W => RI.out k hlt W)
      have SK := Lib.hid (fun W hb => SI.out m[k] W hb)
      have MK := Lib.hid (fun W hb => MI.out k hlt W hb)
      have ENk := Lib.hid (fun h => EN.out k hlt h)
      have K1 := Lib.hid (fun (hh : rightS m[k] = false) => cOk_no1 (l := l) (g := g) hh)
      have K2 := Lib.hid (fun (hh : rightS m[k] = true) => cOk_eq (l := l) (g := g) hh)
      have HJ2 : Hid (cOk l g m[k] = true → ∀ j (hj : j < m.length), j < k + 1 → cOk l g m[j] = true) := Lib.hid (fun hpk j hj hjk => by
        by_cases h : j < k
        · exact HJ.out j hj h
        · obtain rfl : j = k := by omega
          exact hpk)
      have hek : m[k] = ⟨m[k].k, ⟨m[k].h.o, m[k].h.n⟩, m[k].who, ⟨m[k].a.o, m[k].a.n⟩, ⟨m[k].b.o, m[k].b.n⟩, m[k].via⟩ := rfl
      clear hx1
      generalize cOk l g m[k] = ck at ENk K1 K2 HJ2
      generalize m[k] = x at *
      obtain ⟨xk, ⟨x1, x2⟩, xw, ⟨x3, x4⟩, ⟨x5, x6⟩, xv⟩ := x
      clear hek
      generalize rightS ⟨xk, ⟨x1, x2⟩, xw, ⟨x3, x4⟩, ⟨x5, x6⟩, xv⟩ = rr at RK MK K1 K2
      generalize hasS l ⟨xk, ⟨x1, x2⟩, xw, ⟨x3, x4⟩, ⟨x5, x6⟩, xv⟩ = rs at SK K2
      generalize hasR g _ = rg at MK K2
      have HT1 := Lib.hid (HT.out.alloc (.cells #[.int .i64 xk, .string x1, .string x2, .string xw, .string x3, .string x4, .string x5, .string x6, .string xv] 52))
      have HBK := Lib.hid (Blk.new wr #[.int .i64 xk, .string x1, .string x2, .string xw, .string x3, .string x4, .string x5, .string x6, .string xv] 52)
      go_wp2_with fail
      refine (RK.out _).mono ?_
      rintro e w2 ⟨rfl, hb2⟩
      have HT2 := Lib.hid (HT1.out.later hb2)
      have HBK2 := Lib.hid (HBK.out.below hb2)
      obtain ⟨ca, fa, za⟩ := HT2.out.a
      obtain ⟨cx, fx, zx⟩ := HBK2.out
      clear hb2
      cases rr with
      | false =>
        have R := Lib.hid (ENk.out (K1.out rfl))
        go_wp2
        go_ret
        exact ⟨ret_b (by rw [R.out]; rfl), HT2.out.low⟩
      | true =>
        have K3 := Lib.hid (K2.out rfl)
        clear K1 K2
        go_wp2_with fail
        refine (SK.out _ HT2.out.low).mono ?_
        rintro e w3 ⟨rfl, hb3⟩
        have HT3 := Lib.hid (HT2.out.later hb3)
        have HBK3 := Lib.hid (HBK2.out.below hb3)
        obtain ⟨ca, fa, za⟩ := HT3.out.a
        obtain ⟨cx, fx, zx⟩ := HBK3.out
        clear hb3
        cases rs with
        | true =>
          have HJ3 := Lib.hid (HJ2.out (by rw [K3.out]; rfl))
          go_wp2
          exact ⟨⟨k + 1, by omega, by go_num, HT3, HJ3⟩, by simp [intOf]; omega⟩
        | false =>
          go_wp2_with fail
          refine (MK.out _ HT3.out.low).mono ?_
          rintro e w4 ⟨rfl, hb4⟩
          have HT4 := Lib.hid (HT3.out.later hb4)
          clear hb4
          cases rg with
          | true =>
            have R := Lib.hid (ENk.out (by rw [K3.out]; rfl))
            go_wp2
            go_ret
            exact ⟨ret_b (by rw [R.out]; rfl), HT4.out.low⟩
          | false =>
            have HJ3 := Lib.hid (HJ2.out (by rw [K3.out]; rfl))
            go_wp2
            exact ⟨⟨k + 1, by omega, by go_num, HT4, HJ3⟩, by simp [intOf]; omega⟩
    · have R := Lib.hid (EE.out (fun j hj => HJ.out j hj (by omega)))
      obtain ⟨ca, fa, za⟩ := HT.out.a
      clear EN EE RI SI MI HJ
      go_wp2_with fail
      clear ca fa za
      go_loopw [34] (fun i wr => ∃ k : Nat, k ≤ l.length ∧ i = .int .i64 k ∧ Hid (OneAt w #[.slice a0 l.length c0, .slice a1 g.length c1, .slice a2 h.length c2, .slice a3 qs.length c3] wr) ∧ Hid (∀ j (hj : j < l.length), j < k → stays h m l[j] = false)) (fun i _ => l.length - (intOf i).toNat)
      case atStart => exact ⟨0, by omega, rfl, HT, Lib.hid (fun _ _ h => absurd h (by omega))⟩
      case round =>
        clear HT
        obtain ⟨k, hk, rfl, HT, HJ⟩ := hrel
        by_cases hlt : k < l.length
        · obtain ⟨b1, o1, e1, he1, hc1, hm1, hb1, hx1⟩ := HP.out.rs.pos (by omega)
          simp only [Value.slice.injEq, true_and] at he1
          obtain ⟨rfl, rfl⟩ := he1
          obtain ⟨p0, p1, p2, p3, p4, p5, p6, p7, p8⟩ := st_cell (w := wr) (fun j u hu => (HT.out.low.cell (p := ⟨b1, o1 + j, none⟩) hb1).trans (hx1 j u hu)) k hlt
          have hbr : b1 < wr.heap.size := Nat.lt_of_lt_of_le hb1 HT.out.low.size
          have HK := Lib.hid (fun W hb => HH.out l[k].h W hb)
          have MK := Lib.hid (fun W hb => HM.out l[k] W hb)
          have NYk := Lib.hid (fun hh => NY.out k hlt hh)
          have ST := Lib.hid (show stays h m l[k] = (hasR h l[k].h && !hasS m l[k]) from rfl)
          have HJ2 : Hid (stays h m l[k] = false → ∀ j (hj : j < l.length), j < k + 1 → stays h m l[j] = false) := Lib.hid (fun hpk j hj hjk => by
            by_cases h : j < k
            · exact HJ.out j hj h
            · obtain rfl : j = k := by omega
              exact hpk)
          have hek : l[k] = ⟨l[k].k, ⟨l[k].h.o, l[k].h.n⟩, l[k].who, ⟨l[k].a.o, l[k].a.n⟩, ⟨l[k].b.o, l[k].b.n⟩, l[k].via⟩ := rfl
          clear hx1
          generalize stays h m l[k] = ck at NYk ST HJ2
          generalize l[k] = x at *
          obtain ⟨xk, ⟨x1, x2⟩, xw, ⟨x3, x4⟩, ⟨x5, x6⟩, xv⟩ := x
          clear hek
          generalize hasS m ⟨xk, ⟨x1, x2⟩, xw, ⟨x3, x4⟩, ⟨x5, x6⟩, xv⟩ = rs at MK ST
          generalize hasR h _ = rh at HK ST
          have HT1 := Lib.hid (HT.out.alloc (.cells #[.int .i64 xk, .string x1, .string x2, .string xw, .string x3, .string x4, .string x5, .string x6, .string xv] 52))
          have HBK := Lib.hid (Blk.new wr #[.int .i64 xk, .string x1, .string x2, .string xw, .string x3, .string x4, .string x5, .string x6, .string xv] 52)
          obtain ⟨ca, fa, za⟩ := HT.out.a
          go_wp2_with fail
          refine (HK.out _ HT1.out.low).mono ?_
          rintro e w2 ⟨rfl, hb2⟩
          have HT2 := Lib.hid (HT1.out.later hb2)
          have HBK2 := Lib.hid (HBK.out.below hb2)
          clear hb2 ca fa za
          cases rh with
          | false =>
            have HJ3 := Lib.hid (HJ2.out (by rw [ST.out]; rfl))
            go_wp2
            exact ⟨⟨k + 1, by omega, by go_num, HT2, HJ3⟩, by simp [intOf]; omega⟩
          | true =>
            obtain ⟨cx, fx, zx⟩ := HBK2.out
            go_wp2_with fail
            refine (MK.out _ HT2.out.low).mono ?_
            rintro e w3 ⟨rfl, hb3⟩
            have HT3 := Lib.hid (HT2.out.later hb3)
            clear hb3 cx fx zx
            cases rs with
            | true =>
              have HJ3 := Lib.hid (HJ2.out (by rw [ST.out]; rfl))
              go_wp2
              exact ⟨⟨k + 1, by omega, by go_num, HT3, HJ3⟩, by simp [intOf]; omega⟩
            | false =>
              have R2 := Lib.hid (NYk.out (by rw [ST.out]; rfl))
              go_wp2
              go_ret
              exact ⟨ret_b (by rw [R.out, R2.out]; rfl), HT3.out.low⟩
        · have R2 := Lib.hid (NE.out (fun j hj => HJ.out j hj (by omega)))
          go_wp2
          go_ret
          exact ⟨ret_b (by rw [R.out, R2.out]; rfl), HT.out.low⟩
end Go.Proofs.YtmpanikeeeoikaaGreat
namespace Go.Proofs.YtmpanikeeeoikaaGreat
open Go.RowKit Go.Shelf

theorem ref10_OfM (va vb : Value) (l m : List St) (w : World) (ha : SlA w 9 va l.length (l.flatMap St.cells)) (hb : SlA w 9 vb m.length (m.flatMap St.cells)) (hl : l.length ≤ 1000) :
    Calls Tryz.prog 27 #[va, vb, .bool false] w fun e w' => ∃ v, e = .returned v ∧ Sl w' 9 v (minusS l m).length ((minusS l m).flatMap St.cells) ∧ Below w.heap.size w w' := by
  have h := ref10_Of va vb l m w ha hb hl
  rw [← ord_filter] at h
  exact h
end Go.Proofs.YtmpanikeeeoikaaGreat
namespace Go.Proofs.YtmpanikeeeoikaaGreat
open Go.RowKit Go.Shelf

def nthOp : List Oper → Nat → Option Oper
  | [], _ => none
  | o :: _, 0 => some o
  | _ :: r, n + 1 => nthOp r n
theorem nthOp_get : ∀ (l : List Oper) (i : Nat), l.toArray[i]? = nthOp l i
  | [], i => by simp [nthOp]
  | o :: r, 0 => by simp [nthOp]
  | o :: r, n + 1 => by have := nthOp_get r n; simpa [nthOp] using this

theorem held_yes {P : Program} {md : Region.Mode} {S : World → Prop} {Q : Exit → Act → World → Prop} {fuel : Nat} {listed : Array Bool} {a : Act} {w : World} {v : Value} {oi : Oper} {l : List Oper} (i : Nat) (hi : nthOp l i = some oi)
    (hs : Region.noSelect l.toArray = true) (hf : Region.free md l.toArray listed i = true) (hr : (Region.ready md l.toArray listed).contains i = true)
    (hQ : ∀ c a w, Q (.panic c) (a.put oi.dst v) w → Q (.panic c) a w) (hw : Region.wanted oi (yielded l.toArray a.tmps) = true) (hS : S w) (hy : ∀ w, S w → (execOp a.eval oi).run P w = .ok (.value v) w)
    (h : wpAnyH P md l.toArray Q S fuel (listed.setIfInBounds i true) (a.put oi.dst v) w) : wpAnyH P md l.toArray Q S (fuel + 1) listed a w :=
  wpAnyH_take (by rw [nthOp_get]; exact hi) hs hf hr hQ (Or.inl ⟨hw, hy⟩) hS h

theorem held_no {P : Program} {md : Region.Mode} {S : World → Prop} {Q : Exit → Act → World → Prop} {fuel : Nat} {listed : Array Bool} {a : Act} {w : World} {oi : Oper} {l : List Oper} (i : Nat) (hi : nthOp l i = some oi)
    (hs : Region.noSelect l.toArray = true) (hf : Region.free md l.toArray listed i = true) (hr : (Region.ready md l.toArray listed).contains i = true)
    (hQ : ∀ c a w, Q (.panic c) (a.put oi.dst undef) w → Q (.panic c) a w) (hw : Region.wanted oi (yielded l.toArray a.tmps) = false) (hS : S w)
    (h : wpAnyH P md l.toArray Q S fuel (listed.setIfInBounds i true) (a.put oi.dst undef) w) : wpAnyH P md l.toArray Q S (fuel + 1) listed a w :=
  wpAnyH_take (by rw [nthOp_get]; exact hi) hs hf hr hQ (Or.inr ⟨hw, rfl⟩) hS h

theorem held_call {P : Program} {md : Region.Mode} {S : World → Prop} {Q : Exit → Act → World → Prop} {fuel : Nat} {listed : Array Bool} {a : Act} {w : World} {oi : Oper} {l : List Oper} (i : Nat) (hi : nthOp l i = some oi)
    (hr : Region.ready md l.toArray listed = [i])
    (h : ∀ K' : Act → World → Prop, Shut (∀ a w, S w → (S w → wpAnyH P md l.toArray Q S fuel (listed.setIfInBounds i true) a w) → K' a w) → if Region.wanted oi (yielded l.toArray a.tmps) = true then Oper.wp P oi a w K' Q else K' (a.put oi.dst undef) w) :
    wpAnyH P md l.toArray Q S (fuel + 1) listed a w :=
  wpAnyH_ready hr (by simp) (AllReadyH.cons (by rw [nthOp_get]; exact hi) h AllReadyH.nil)
end Go.Proofs.YtmpanikeeeoikaaGreat
namespace Go.Proofs.YtmpanikeeeoikaaGreat
open Go.RowKit Go.Shelf

def isSl : Value → Bool
  | .slice .. => true
  | _ => false
/-- A block that holds slices alone stands whole. -/
def BlkS (w : World) (g n : Nat) : Prop := ∃ cs : Array Value, Blk w g cs ∧ cs.size = n ∧ ∀ c ∈ cs.toList, isSl c = true
theorem cell_far (w : World) (g g' o o' : Nat) (v : Value) (h : ¬ g = g') : (w.setCell ⟨g, o, none⟩ v).cell? ⟨g', o', none⟩ = w.cell? ⟨g', o', none⟩ :=
  World.cell?_setCell_other w ⟨g, o, none⟩ ⟨g', o', none⟩ v (fun e => h (by injection e))
theorem Blk.far {w : World} {g g' o : Nat} {cs : Array Value} {v : Value} (h : Blk w g' cs) (hne : ¬ g = g') : Blk (w.setCell ⟨g, o, none⟩ v) g' cs :=
  ⟨fun o' => (cell_far w g g' o o' v hne).trans (h.1 o'), fun o' => by simpa using h.2.1 o', by simpa using h.2.2⟩
theorem Blk.put {w : World} {g o : Nat} {cs : Array Value} {v : Value} (h : Blk w g cs) (ho : o < cs.size) : Blk (w.setCell ⟨g, o, none⟩ v) g (cs.setIfInBounds o v) := by
  refine ⟨fun i => ?_, fun i => by simpa using h.2.1 i, by simpa using h.2.2⟩
  by_cases e : i = o
  · subst e
    rw [World.cell?_setCell_same (u := cs[i]) _ _ _ (by rw [h.1 i]; exact Array.getElem?_eq_getElem ho)]
    simp [ho]
  · rw [set_far _ _ _ _ _ e, h.1 i, Array.getElem?_setIfInBounds, if_neg (fun h => e h.symm)]
theorem BlkS.put {w : World} {g n o : Nat} {v : Value} (h : BlkS w g n) (ho : o < n) (hv : isSl v = true) : BlkS (w.setCell ⟨g, o, none⟩ v) g n := by
  obtain ⟨cs, hb, rfl, hc⟩ := h
  refine ⟨_, hb.put ho, by simp, fun c hcm => ?_⟩
  rw [Array.toList_setIfInBounds] at hcm
  rcases List.mem_or_eq_of_mem_set hcm with h | rfl
  · exact hc c h
  · exact hv
/-- A row of what isn't a slice is the same behind a store into a block of slices. -/
theorem Sl.set {w : World} {size n g m o : Nat} {v x : Value} {xs : List Value} (h : Sl w size v n xs) (hg : BlkS w g m) (hx : ∀ u ∈ xs, isSl u = false) : Sl (w.setCell ⟨g, o, none⟩ x) size v n xs := by
  obtain ⟨h1, h2, h3⟩ := h
  refine ⟨h1, h2, ?_⟩
  rcases h3 with h3 | ⟨b, off, cap, hv, hc, hm, hb, hcell⟩
  · exact .inl h3
  · refine .inr ⟨b, off, cap, hv, hc, hm, by simpa using hb, fun j u hu => ?_⟩
    by_cases e : g = b
    · subst e
      obtain ⟨cs, hbk, _, hcs⟩ := hg
      have h4 := hcell j u hu
      rw [hbk.1] at h4
      have h5 := hcs u (Array.mem_toList_iff.2 (Array.mem_of_getElem? h4))
      rw [hx u (List.mem_of_getElem? hu)] at h5; cases h5
    · exact (cell_far _ _ _ _ _ _ e).trans (hcell j u hu)
theorem st_noSl (l : List St) : ∀ u ∈ l.flatMap St.cells, isSl u = false := by
  intro u hu
  obtain ⟨x, _, hx⟩ := List.mem_flatMap.1 hu
  simp only [St.cells, List.mem_cons, List.not_mem_nil, or_false] at hx
  rcases hx with rfl | rfl | rfl | rfl | rfl | rfl | rfl | rfl | rfl <;> rfl
theorem rl_noSl (l : List Rl) : ∀ u ∈ l.flatMap Rl.cells, isSl u = false := by
  intro u hu
  obtain ⟨x, _, hx⟩ := List.mem_flatMap.1 hu
  simp only [Rl.cells, List.mem_cons, List.not_mem_nil, or_false] at hx
  rcases hx with rfl | rfl <;> rfl
theorem below_put {n g o : Nat} {w w' : World} {v : Value} (h : Below n w w') (hg : n ≤ g) : Below n w (w'.setCell ⟨g, o, none⟩ v) :=
  ⟨h.os, h.tape, h.output, by simpa [World.setCell] using h.size, fun k hk => (Below.heap_setCell _ _ _ _ (by dsimp only; omega)).trans (h.block k hk)⟩
/-- A row of values stored into a block, one behind the other. -/
def puts (w : World) (g : Nat) : Nat → List Value → World
  | _, [] => w
  | o, v :: vs => puts (w.setCell ⟨g, o, none⟩ v) g (o + 1) vs
theorem BlkS.puts {g n : Nat} : ∀ (vs : List Value) (o : Nat) (w : World), BlkS w g n → o + vs.length ≤ n → (∀ v ∈ vs, isSl v = true) → BlkS (puts w g o vs) g n
  | [], _, _, h, _, _ => h
  | v :: vs, o, w, h, ho, hv => by
    rw [List.length_cons] at ho
    exact BlkS.puts vs (o + 1) _ (h.put (by omega) (hv v (by simp))) (by omega) (fun x hx => hv x (by simp [hx]))
theorem Sl.puts {size n g m : Nat} {v : Value} {xs : List Value} (hx : ∀ u ∈ xs, isSl u = false) : ∀ (vs : List Value) (o : Nat) (w : World), Sl w size v n xs → BlkS w g m → o + vs.length ≤ m → (∀ v ∈ vs, isSl v = true) → Sl (puts w g o vs) size v n xs
  | [], _, _, h, _, _, _ => h
  | y :: vs, o, w, h, hg, ho, hv => by
    rw [List.length_cons] at ho
    exact Sl.puts hx vs (o + 1) _ (h.set hg hx) (hg.put (by omega) (hv y (by simp))) (by omega) (fun x hx => hv x (by simp [hx]))
theorem below_puts {n g : Nat} {w0 : World} (hg : n ≤ g) : ∀ (vs : List Value) (o : Nat) (w : World), Below n w0 w → Below n w0 (puts w g o vs)
  | [], _, _, h => h
  | v :: vs, o, w, h => below_puts hg vs (o + 1) _ (below_put h hg)
theorem Blk.puts_far {g g' : Nat} {cs : Array Value} (hne : ¬ g = g') : ∀ (vs : List Value) (o : Nat) (w : World), Blk w g' cs → Blk (puts w g o vs) g' cs
  | [], _, _, h => h
  | v :: vs, o, w, h => Blk.puts_far hne vs (o + 1) _ (h.far hne)
end Go.Proofs.YtmpanikeeeoikaaGreat
