/- crupperref10.Of. -/
import Derived.Test.YtmpanikeeeoikaaStFns
namespace Go.Proofs.Ytmpanikeeeoikaa
open Go.RowKit Go.Shelf

set_option maxRecDepth 100000 in
set_option maxHeartbeats 4000000 in
/-- crupperref10.Of: those of a row in order that aren't in another one. -/
theorem ref10_Of (va vb : Value) (l0 m : List St) (w : World) (ha0 : SlA w 9 va l0.length (l0.flatMap St.cells)) (hb0 : SlA w 9 vb m.length (m.flatMap St.cells)) (hl0 : l0.length ≤ 1000) :
    Calls Try.prog 15 #[va, vb, .bool false] w fun e w' => ∃ v, e = .returned v ∧ Sl w' 9 v ((ord l0).filter fun x => !hasS m x).length (((ord l0).filter fun x => !hasS m x).flatMap St.cells) ∧ Below w.heap.size w w' := by
  have RS := Lib.hid (ref3_Sort va l0 w ha0 hl0)
  have hlen := ord_len l0
  have HBM := Lib.hid hb0
  obtain ⟨bo, bc, hvb⟩ := hb0.form
  subst hvb
  have RH := Lib.hid (fun x W h => ref3_Has (.slice bo m.length bc) m x W h)
  obtain ⟨a0, ac0, hva⟩ := ha0.form
  subst hva
  change Hid (Calls Try.prog 25 _ w fun e w' => ∃ v, e = .returned v ∧ Sl w' 9 v (ord l0).length ((ord l0).flatMap St.cells) ∧ Below w.heap.size w w') at RS
  generalize ord l0 = l at RS hlen ⊢
  generalize hp : (fun x => !hasS m x) = p
  have PE := Lib.hid (show ∀ x, p x = !hasS m x from fun x => by rw [← hp])
  clear ha0 hb0 hp
  go_enter Try.func15, Try.ntmps15
  go_wp2_with fail
  refine RS.out.mono ?_
  rintro e w1 ⟨va, rfl, hs1, hb1⟩
  have HA := Lib.hid hs1
  have HB0 := Lib.hid hb1
  have HBM := Lib.hid (HBM.out.below hb1)
  have hmax := hs1.max
  obtain ⟨ao, cap, hva⟩ := hs1.form
  subst hva
  clear hs1 hb1
  go_wp2_with fail
  go_loopw [7, 13] (fun vo i wr => ∃ k : Nat, k ≤ l.length ∧ i = .int .i64 k ∧ Hid (Below w1.heap.size w1 wr) ∧ Hid (wr.ownsRow w1.heap.size 30 9 vo ((l.take k).filter p).length (((l.take k).filter p).flatMap St.cells))) (fun _ i _ => l.length - (intOf i).toNat)
  case atStart => exact ⟨0, by omega, rfl, Lib.hid (Below.refl _ _), Lib.hid (World.ownsRow_nil _ _ _ _)⟩
  case round =>
    obtain ⟨k, hk, rfl, HB, HO⟩ := hrel
    obtain ⟨oo, oc, rfl⟩ := own_form HO.out
    by_cases hlt : k < l.length
    · obtain ⟨b1, o1, c1, he1, hc1, hm1, hb1, hx1⟩ := HA.out.pos (by omega)
      simp only [Value.slice.injEq, true_and] at he1
      obtain ⟨rfl, rfl⟩ := he1
      obtain ⟨p0, p1, p2, p3, p4, p5, p6, p7, p8⟩ := st_cell (w := wr) (fun j u hu => (HB.out.cell (p := ⟨b1, o1 + j, none⟩) hb1).trans (hx1 j u hu)) k hlt
      have hbr : b1 < wr.heap.size := Nat.lt_of_lt_of_le hb1 HB.out.size
      have PC := Lib.hid (fun W h => RH.out l[k] W h)
      have PX := Lib.hid (PE.out l[k])
      have FY := Lib.hid (fun h => filter_yes (p := p) hlt h)
      have FN := Lib.hid (fun h => filter_no (p := p) hlt h)
      have hlk : ((l.take k).filter p).length ≤ l.length := Nat.le_trans (List.length_filter_le _ _) (by simp; omega)
      have hek : l[k] = ⟨l[k].k, ⟨l[k].h.o, l[k].h.n⟩, l[k].who, ⟨l[k].a.o, l[k].a.n⟩, ⟨l[k].b.o, l[k].b.n⟩, l[k].via⟩ := rfl
      generalize l[k] = x at *
      obtain ⟨xk, ⟨x1, x2⟩, xw, ⟨x3, x4⟩, ⟨x5, x6⟩, xv⟩ := x
      rw [PX.out] at FY FN
      generalize hasS m ⟨xk, ⟨x1, x2⟩, xw, ⟨x3, x4⟩, ⟨x5, x6⟩, xv⟩ = px at PC FY FN
      clear PX
      clear hek hx1
      have HB1 := Lib.hid (HB.out.alloc HB.out.size (.cells #[.int .i64 xk, .string x1, .string x2, .string xw, .string x3, .string x4, .string x5, .string x6, .string xv] 30))
      go_wp2_with fail
      refine (PC.out _ (HBM.out.below HB1.out)).mono ?_
      rintro e w2 ⟨rfl, hb2⟩
      have HB2 := Lib.hid (HB1.out.trans (hb2.mono HB1.out.size))
      have HBK := Lib.hid (keep1 hb2)
      have HO2 := Lib.hid (own_below (own_below HO.out ((Below.refl _ _).alloc (Nat.le_refl _) _)) hb2)
      obtain ⟨cx, fx, zx⟩ := HBK.out
      have hz2 := HB2.out.size
      clear hb2
      cases px with
      | true =>
        have e := Lib.hid (FN.out rfl)
        clear FY FN
        go_wp2_with fail
        exact ⟨⟨k + 1, by omega, by go_num, HB2, Lib.hid (by rw [e.out]; exact HO2.out)⟩, by simp [intOf]; omega⟩
      | false =>
        have e := Lib.hid (FY.out rfl)
        clear FY FN
        have hown := HO2.out
        go_wp2_with (at_builtin; refine halt_ ?_)
        unfold Halt_
        refine app_own Try.underlying22 st_info rfl (by decide) (by decide) rfl _ _ rfl w1.heap.size rfl (hown.alloc _) [.int .i64 xk, .string x1, .string x2, .string xw, .string x3, .string x4, .string x5, .string x6, .string xv] rfl (heap_new1 _ _) rfl (st_one ⟨xk, ⟨x1, x2⟩, xw, ⟨x3, x4⟩, ⟨x5, x6⟩, xv⟩) ?_ ?_ ?_
        · omega
        · simp; omega
        intro a' cap' w3 hown' hgrow
        have HO3 := Lib.hid (show w3.ownsRow w1.heap.size 30 9 _ (((l.take (k + 1)).filter p).length) (((l.take (k + 1)).filter p).flatMap St.cells) by rw [e.out, flat_snoc, List.length_append]; exact hown')
        have HB3 := Lib.hid (below_own (HB2.out.alloc HB2.out.size (.cells #[.int .i64 xk, .string x1, .string x2, .string xw, .string x3, .string x4, .string x5, .string x6, .string xv] 30)) (hown.alloc _) hgrow (by simp; omega) (Nat.le_refl _))
        clear hown' hgrow hown
        go_wp2_with fail
        refine ⟨⟨k + 1, by omega, by go_num, HB3, ?_⟩, by simp [intOf]; omega⟩
        rw [e.out, List.length_append] at HO3
        rw [e.out, List.length_append]
        exact HO3
    · have e := Lib.hid (show l.take k = l by rw [List.take_of_length_le (by omega)])
      have HS := Lib.hid (Sl.of_own HO.out)
      go_wp2_with fail
      go_ret
      exact ⟨_, rfl, by have := HS.out; rw [e.out] at this ⊢; exact this, HB0.out.trans (HB.out.mono HB0.out.size)⟩
end Go.Proofs.Ytmpanikeeeoikaa
