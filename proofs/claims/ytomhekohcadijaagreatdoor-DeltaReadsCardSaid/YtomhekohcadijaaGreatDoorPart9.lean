/- The lines of a difference: delta.marks, delta.Lines (printed by gen_lines.py). -/
import Derived.Test.YtomhekohcadijaaGreatDoorPart8
import Derived.Test.YtomhekohcadijaaGreatDoorPart7
namespace Go.Proofs.YtomhekohcadijaaGreatDoor
open Go.RowKit Go.Shelf


theorem obj_ne {w : World} {base size n g : Nat} {e t : TypeId} {v : Value} {xs : List Value} {cs : Array Value} (ho : w.ownsRow base e size v n xs) (hg : w.heap[g]? = some (.cells cs t (0, 0))) (ht : ¬ t = e) : some g ≠ v.ownBlock := by
  intro h
  rcases ho.2 with ⟨rfl, _⟩ | ⟨g', cap, cur, rfl, _, hg', _⟩
  · cases h
  · injection h with h
    subst h
    rw [hg] at hg'
    injection hg' with h
    injection h with _ h _
    exact ht h
theorem obj_lt {w : World} {g : Nat} {o : Obj} (hg : w.heap[g]? = some o) : g < w.heap.size := (Array.getElem?_eq_some_iff.1 hg).1
theorem obj_grown {w w' : World} {g : Nat} {o : Obj} {r : Option Nat} (hg : w.heap[g]? = some o) (hr : w.grownBy w' r) (hne : some g ≠ r) : w'.heap[g]? = some o := (hr.block g (obj_lt hg) hne).trans hg
theorem obj_below {w w' : World} {g : Nat} {o : Obj} (hg : w.heap[g]? = some o) (hb : Below w.heap.size w w') : w'.heap[g]? = some o := (hb.block g (obj_lt hg)).trans hg
theorem obj_new (w : World) (o : Obj) : (w.alloc o).heap[w.heap.size]? = some o := heap_new1 _ _
theorem delta_marks (w : World) : Calls Tryz.prog 102 #[] w fun e w' => e = .returned (.slice (some ⟨w.heap.size, 0, none⟩) 6 6) ∧ w' = w.alloc (.cells #[.string mk0, .string mk1, .string mk2, .string mk3, .string mk4, .string mk5] 9) := by
  go_enter Tryz.func102, Tryz.ntmps102
  go_wp2
  go_ret
  exact ⟨rfl, rfl⟩

set_option maxRecDepth 100000 in
set_option maxHeartbeats 32000000 in
theorem delta_Lines (x0 x1 x2 x3 x4 x5 : Value) (d : Dl) (w : World) (hd : DlAt w x0 x1 x2 x3 x4 x5 d) (hk : d.le 300 4294967) :
    Calls Tryz.prog 50 #[dv x0 x1 x2 x3 x4 x5] w fun e w' => ∃ v, e = .returned v ∧ Sl w' 1 v d.lines.length (strs d.lines) ∧ Below w.heap.size w w' := by
  have HD := Lib.hid hd
  have HK := Lib.hid hk
  have n0 := hk.n0
  have n1 := hk.n1
  have n2 := hk.n2
  have n3 := hk.n3
  have n4 := hk.n4
  have n5 := hk.n5
  obtain ⟨da0, dc0, rfl⟩ := hd.a0.form
  obtain ⟨da1, dc1, rfl⟩ := hd.a1.form
  obtain ⟨da2, dc2, rfl⟩ := hd.a2.form
  obtain ⟨da3, dc3, rfl⟩ := hd.a3.form
  obtain ⟨da4, dc4, rfl⟩ := hd.a4.form
  obtain ⟨da5, dc5, rfl⟩ := hd.a5.form
  obtain ⟨wA, hA⟩ : ∃ wA, wA = (((w.alloc (.cells #[.slice da0 d.more.length dc0, .slice da1 d.gone.length dc1, .slice da2 d.grow.length dc2, .slice da3 d.ungrow.length dc3, .slice da4 d.shrink.length dc4, .slice da5 d.unshrink.length dc5] 32)).alloc (.cells #[.string mk0, .string mk1, .string mk2, .string mk3, .string mk4, .string mk5] 9)).alloc (.cells #[.slice da1 d.gone.length dc1, .slice da0 d.more.length dc0] 22)) := ⟨_, rfl⟩
  have HBX : Hid (ThreeAt w #[.slice da0 d.more.length dc0, .slice da1 d.gone.length dc1, .slice da2 d.grow.length dc2, .slice da3 d.ungrow.length dc3, .slice da4 d.shrink.length dc4, .slice da5 d.unshrink.length dc5] #[.string mk0, .string mk1, .string mk2, .string mk3, .string mk4, .string mk5] #[.slice da1 d.gone.length dc1, .slice da0 d.more.length dc0] wA) := Lib.hid (by rw [hA]; exact ThreeAt.new w _ _ _ _ _ _)
  have hAs : w.heap.size + 1 + 1 < wA.heap.size := by rw [hA]; simp
  have MA := Lib.hid (fun W => delta_marks W)
  have DE := Lib.hid (show d.lines = ((((((([] : List ByteArray) ++ lnS mk0 d.gone) ++ lnS mk1 d.more) ++ lnR mk2 d.ungrow) ++ lnR mk3 d.grow) ++ lnR mk4 d.unshrink) ++ lnR mk5 d.shrink) from rfl)
  generalize d.lines = dl at DE ⊢
  clear hd hk
  go_enter Tryz.func50, Tryz.ntmps50
  have HD0 := Lib.hid (TwoAt.new w #[.slice da0 d.more.length dc0, .slice da1 d.gone.length dc1, .slice da2 d.grow.length dc2, .slice da3 d.ungrow.length dc3, .slice da4 d.shrink.length dc4, .slice da5 d.unshrink.length dc5] #[.string mk0, .string mk1, .string mk2, .string mk3, .string mk4, .string mk5] 32 9)
  go_wp2_with fail
  refine (MA.out _).mono ?_
  rintro e w1 ⟨rfl, rfl⟩
  obtain ⟨ca, fa, za⟩ := HD0.out.a
  go_wp2_with fail
  clear ca fa za HD0 MA
  rw [← hA]
  clear hA
  have HB := Lib.hid (Below.refl wA.heap.size wA)
  have HO : Hid (wA.ownsRow wA.heap.size 9 1 (.slice none 0 0) ([] : List ByteArray).length (strs [])) := Lib.hid (World.ownsRow_nil _ _ _ _)
  obtain ⟨infs, his, hs0, hs1, hs2⟩ := info_parts str_info
  have HIS := Lib.hid his
  clear his
  go_loopw [2, 19] (fun vo i wr => ∃ ss : List ByteArray, Hid (Below wA.heap.size wA wr) ∧ Hid (wr.ownsRow wA.heap.size 9 1 vo ss.length (strs ss)) ∧ ((i = .int .i64 0 ∧ Hid (ss = ([] : List ByteArray))) ∨ (i = .int .i64 1 ∧ Hid (ss = (([] : List ByteArray) ++ lnS mk0 d.gone))) ∨ (i = .int .i64 2 ∧ Hid (ss = ((([] : List ByteArray) ++ lnS mk0 d.gone) ++ lnS mk1 d.more))))) (fun _ i _ => 2 - (intOf i).toNat)
  case atStart => exact ⟨[], HB, HO, .inl ⟨rfl, Lib.hid rfl⟩⟩
  case round =>
    clear HB HO
    obtain ⟨pp, HB, HO, ⟨rfl, HP⟩ | ⟨rfl, HP⟩ | ⟨rfl, HP⟩⟩ := hrel
    · obtain ⟨oo, oc, rfl⟩ := own_form HO.out
      have hpp : pp.length ≤ 0 := by rw [HP.out]; simp only [lnS, lnR, List.length_append, List.length_map, List.length_nil]; omega
      obtain ⟨ca, fa, za⟩ := (HBX.out.later HB.out).c
      go_wp2_with fail
      clear ca fa za
      go_loopw [2, 26] (fun vo i wr => ∃ (k : Nat) (ss : List ByteArray), k ≤ d.gone.length ∧ i = .int .i64 k ∧ Hid (ss = pp ++ lnS mk0 (d.gone.take k)) ∧ Hid (Below wA.heap.size wA wr) ∧ Hid (wr.ownsRow wA.heap.size 9 1 vo ss.length (strs ss))) (fun _ i _ => d.gone.length - (intOf i).toNat)
      case atStart => exact ⟨0, pp, by omega, rfl, Lib.hid (by simp [lnS]), HB, HO⟩
      case round =>
        clear HB HO
        obtain ⟨k, ss, hk, rfl, HS, HB, HO⟩ := hrel
        obtain ⟨oo, oc, rfl⟩ := own_form HO.out
        have hss : ss.length ≤ 300 := by rw [HS.out]; have := lnS_len mk0 pp d.gone k; omega
        by_cases hlt : k < d.gone.length
        · obtain ⟨b1, o1, c1, he1, hc1, hm1, hb1, hx1⟩ := HD.out.a1.pos (by omega)
          simp only [Value.slice.injEq, true_and] at he1
          obtain ⟨rfl, rfl⟩ := he1
          have hlow := HBX.out.low.trans (HB.out.mono HBX.out.low.size)
          obtain ⟨p0', p1', p2', p3', p4', p5', p6', p7', p8'⟩ := st_cell (w := wr) (fun j u hu => (hlow.cell (p := ⟨b1, o1 + j, none⟩) hb1).trans (hx1 j u hu)) k hlt
          have hbr : b1 < wr.heap.size := Nat.lt_of_lt_of_le hb1 hlow.size
          have hle := HK.out.t1 _ (List.getElem_mem hlt)
          have PR := Lib.hid (fun W => syn_Print d.gone[k] W hle)
          have htx := printS_big _ hle
          have HN := Lib.hid (lnS_more mk0 pp hlt)
          generalize printS d.gone[k] = tx at PR htx HN
          have hek : d.gone[k] = ⟨d.gone[k].k, ⟨d.gone[k].h.o, d.gone[k].h.n⟩, d.gone[k].who, ⟨d.gone[k].a.o, d.gone[k].a.n⟩, ⟨d.gone[k].b.o, d.gone[k].b.n⟩, d.gone[k].via⟩ := rfl
          clear hx1 hle hlow
          generalize d.gone[k] = x at *
          obtain ⟨xk, ⟨x1, x2⟩, xw, ⟨x3, x4⟩, ⟨x5, x6⟩, xv⟩ := x
          clear hek
          obtain ⟨wv, hwv⟩ : ∃ wv, wv = (wr.alloc (.cells #[.int .i64 xk, .string x1, .string x2, .string xw, .string x3, .string x4, .string x5, .string x6, .string xv] 80)).drew := ⟨_, rfl⟩
          have hbv : Below wr.heap.size wr wv := by rw [hwv]; exact below_drew ((Below.refl _ _).alloc (Nat.le_refl _) _)
          have hov : wv.heap[wr.heap.size]? = some (.cells #[.int .i64 xk, .string x1, .string x2, .string xw, .string x3, .string x4, .string x5, .string x6, .string xv] 80 (0, 0)) := by rw [hwv]; exact obj_new _ _
          have HBV := HB.out.trans (hbv.mono HB.out.size)
          have HMV := (HBX.out.later HBV).b
          have HOV := own_below HO.out hbv
          have HXV := blk_of hov
          go_wp2_with fail
          refine wp_region_held_drew (S := (fun W => (∀ o, W.cell? ⟨w.heap.size + 1, o, none⟩ = (#[.string mk0, .string mk1, .string mk2, .string mk3, .string mk4, .string mk5] : Array Value)[o]?) ∧ (∀ o, W.cell? ⟨wr.heap.size, o, none⟩ = (#[.int .i64 xk, .string x1, .string x2, .string xw, .string x3, .string x4, .string x5, .string x6, .string xv] : Array Value)[o]?))) (by kernel_rfl) (by rw [← hwv]; exact ⟨HMV.1, HXV.1⟩) (fun hHeld => ?_)
          rw [← hwv] at hHeld ⊢
          clear hwv
          (refine hyes 0 ?_); (refine hyes 1 ?_); (refine hyes 2 ?_); (refine hyes 3 ?_); (refine hyes 4 ?_); (refine hyes 5 ?_); (try simp only [Act.put, List.setIfInBounds_toArray, List.set])
          (refine held_call 6 rfl (by kernel_rfl) (fun K hK => ?_); go_simp)
          go_at_call 82; refine (PR.out _).mono ?_; rintro e w2 ⟨rfl, hb2⟩
          have HB2 := HBV.trans (hb2.mono HBV.size)
          have HM2 := HMV.below hb2
          have hov2 := obj_below hov hb2
          have HX2 := blk_of hov2
          have HO2 := own_below HOV hb2
          clear hb2
          (refine hK.out _ _ (⟨HM2.1, HX2.1⟩) (fun hHeld => ?_); clear hK K; (try simp only [Act.put, List.setIfInBounds_toArray, List.set]))
          have hcat : ¬ 9223372036854775807 < mk0.size + tx.size := by have : mk0.size = 2 := rfl; omega
          (refine hyes 7 ?_); (try simp only [Act.put, List.setIfInBounds_toArray, List.set])
          (refine held_call 8 rfl (by kernel_rfl) (fun K hK => ?_); go_simp)
          obtain ⟨w3, hw3⟩ : ∃ w3, w3 = (w2.alloc (.cells #[.string (mk0 ++ tx)] 9)) := ⟨_, rfl⟩
          have hb3 : Below w2.heap.size w2 w3 := by rw [hw3]; exact (Below.refl _ _).alloc (Nat.le_refl _) _
          have HSL : Sl w3 1 (.slice (some ⟨w2.heap.size, 0, none⟩) 1 1) 1 [.string (mk0 ++ tx)] := by rw [hw3]; exact Sl.new w2 [.string (mk0 ++ tx)] 9 1 1 w2.heap.size rfl rfl (by simp [maxLen])
          have HB3 := HB2.trans (hb3.mono HB2.size)
          have HM3 := HM2.below hb3
          have hov3 := obj_below hov2 hb3
          have HX3 := blk_of hov3
          have HO3 := own_below HO2 hb3
          have hmk : (⟨#[45, 32]⟩ : ByteArray) = mk0 := rfl
          try rw [hmk]
          rw [← hw3]
          clear hw3 hb3
          (refine hK.out _ _ (⟨HM3.1, HX3.1⟩) (fun hHeld => ?_); clear hK K; (try simp only [Act.put, List.setIfInBounds_toArray, List.set]))
          refine held_call 9 rfl (by kernel_rfl) (fun K hK => ?_)
          refine step_row rfl _ _ 27 rfl wA.heap.size 9 infs _ 1 16 Tryz.underlying27 HIS.out hs0 hs1 hs2 (Nat.le_of_ble_eq_true rfl) rfl (Nat.le_of_ble_eq_true rfl) _ ss.length _ rfl HO3 _ 1 _ rfl HSL.a (str1 _) (by omega) HB3.size ?_
          intro a5 c5 w4 hown5 hg5
          have hb4 := below_own HB3 HO3 hg5 HB3.size (Nat.le_refl _)
          have HM4 := (HBX.out.later hb4).b
          have hov4 := obj_grown hov3 hg5 (obj_ne HO3 hov3 (by decide))
          have HX4 := blk_of hov4
          have HO4 : Hid (w4.ownsRow wA.heap.size 9 1 (.slice a5 (ss.length + 1) c5) (ss.length + 1) (strs (ss ++ [mk0 ++ tx]))) := Lib.hid (by rw [strs_app]; exact hown5)
          have HB4 := Lib.hid hb4
          (refine hK.out _ _ (⟨HM4.1, HX4.1⟩) (fun hHeld => ?_); clear hK K; (try simp only [Act.put, List.setIfInBounds_toArray, List.set]))
          clear hov hov2 hov3 hov4 HX2 HX3 HX4 HXV HM2 HM3 HM4 HMV HB2 HB3 HBV HO2 HO3 HOV hown5 hg5 hb4 HSL hbv
          (refine hyes 10 ?_); (try simp only [Act.put, List.setIfInBounds_toArray, List.set])
          refine wpAnyH_done (by kernel_rfl) ?_ _
          go_wp2_with fail
          refine ⟨⟨k + 1, ss ++ [mk0 ++ tx], by omega, by go_num, Lib.hid (by rw [HN.out, HS.out]), HB4, ?_⟩, by simp [intOf]; omega⟩
          rw [List.length_append]
          exact HO4
        · have HE := Lib.hid (show ss = (([] : List ByteArray) ++ lnS mk0 d.gone) by have h := HS.out; rw [List.take_of_length_le (by omega), HP.out] at h; exact h)
          clear HS hss
          go_wp2_with fail
          exact ⟨⟨ss, HB, HO, .inr (.inl ⟨by go_num, HE⟩)⟩, by simp [intOf]⟩
    · obtain ⟨oo, oc, rfl⟩ := own_form HO.out
      have hpp : pp.length ≤ 300 := by rw [HP.out]; simp only [lnS, lnR, List.length_append, List.length_map, List.length_nil]; omega
      obtain ⟨ca, fa, za⟩ := (HBX.out.later HB.out).c
      go_wp2_with fail
      clear ca fa za
      go_loopw [2, 26] (fun vo i wr => ∃ (k : Nat) (ss : List ByteArray), k ≤ d.more.length ∧ i = .int .i64 k ∧ Hid (ss = pp ++ lnS mk1 (d.more.take k)) ∧ Hid (Below wA.heap.size wA wr) ∧ Hid (wr.ownsRow wA.heap.size 9 1 vo ss.length (strs ss))) (fun _ i _ => d.more.length - (intOf i).toNat)
      case atStart => exact ⟨0, pp, by omega, rfl, Lib.hid (by simp [lnS]), HB, HO⟩
      case round =>
        clear HB HO
        obtain ⟨k, ss, hk, rfl, HS, HB, HO⟩ := hrel
        obtain ⟨oo, oc, rfl⟩ := own_form HO.out
        have hss : ss.length ≤ 600 := by rw [HS.out]; have := lnS_len mk1 pp d.more k; omega
        by_cases hlt : k < d.more.length
        · obtain ⟨b1, o1, c1, he1, hc1, hm1, hb1, hx1⟩ := HD.out.a0.pos (by omega)
          simp only [Value.slice.injEq, true_and] at he1
          obtain ⟨rfl, rfl⟩ := he1
          have hlow := HBX.out.low.trans (HB.out.mono HBX.out.low.size)
          obtain ⟨p0', p1', p2', p3', p4', p5', p6', p7', p8'⟩ := st_cell (w := wr) (fun j u hu => (hlow.cell (p := ⟨b1, o1 + j, none⟩) hb1).trans (hx1 j u hu)) k hlt
          have hbr : b1 < wr.heap.size := Nat.lt_of_lt_of_le hb1 hlow.size
          have hle := HK.out.t0 _ (List.getElem_mem hlt)
          have PR := Lib.hid (fun W => syn_Print d.more[k] W hle)
          have htx := printS_big _ hle
          have HN := Lib.hid (lnS_more mk1 pp hlt)
          generalize printS d.more[k] = tx at PR htx HN
          have hek : d.more[k] = ⟨d.more[k].k, ⟨d.more[k].h.o, d.more[k].h.n⟩, d.more[k].who, ⟨d.more[k].a.o, d.more[k].a.n⟩, ⟨d.more[k].b.o, d.more[k].b.n⟩, d.more[k].via⟩ := rfl
          clear hx1 hle hlow
          generalize d.more[k] = x at *
          obtain ⟨xk, ⟨x1, x2⟩, xw, ⟨x3, x4⟩, ⟨x5, x6⟩, xv⟩ := x
          clear hek
          obtain ⟨wv, hwv⟩ : ∃ wv, wv = (wr.alloc (.cells #[.int .i64 xk, .string x1, .string x2, .string xw, .string x3, .string x4, .string x5, .string x6, .string xv] 80)).drew := ⟨_, rfl⟩
          have hbv : Below wr.heap.size wr wv := by rw [hwv]; exact below_drew ((Below.refl _ _).alloc (Nat.le_refl _) _)
          have hov : wv.heap[wr.heap.size]? = some (.cells #[.int .i64 xk, .string x1, .string x2, .string xw, .string x3, .string x4, .string x5, .string x6, .string xv] 80 (0, 0)) := by rw [hwv]; exact obj_new _ _
          have HBV := HB.out.trans (hbv.mono HB.out.size)
          have HMV := (HBX.out.later HBV).b
          have HOV := own_below HO.out hbv
          have HXV := blk_of hov
          go_wp2_with fail
          refine wp_region_held_drew (S := (fun W => (∀ o, W.cell? ⟨w.heap.size + 1, o, none⟩ = (#[.string mk0, .string mk1, .string mk2, .string mk3, .string mk4, .string mk5] : Array Value)[o]?) ∧ (∀ o, W.cell? ⟨wr.heap.size, o, none⟩ = (#[.int .i64 xk, .string x1, .string x2, .string xw, .string x3, .string x4, .string x5, .string x6, .string xv] : Array Value)[o]?))) (by kernel_rfl) (by rw [← hwv]; exact ⟨HMV.1, HXV.1⟩) (fun hHeld => ?_)
          rw [← hwv] at hHeld ⊢
          clear hwv
          (refine hyes 0 ?_); (refine hyes 1 ?_); (refine hyes 2 ?_); (refine hyes 3 ?_); (refine hyes 4 ?_); (refine hyes 5 ?_); (try simp only [Act.put, List.setIfInBounds_toArray, List.set])
          (refine held_call 6 rfl (by kernel_rfl) (fun K hK => ?_); go_simp)
          go_at_call 82; refine (PR.out _).mono ?_; rintro e w2 ⟨rfl, hb2⟩
          have HB2 := HBV.trans (hb2.mono HBV.size)
          have HM2 := HMV.below hb2
          have hov2 := obj_below hov hb2
          have HX2 := blk_of hov2
          have HO2 := own_below HOV hb2
          clear hb2
          (refine hK.out _ _ (⟨HM2.1, HX2.1⟩) (fun hHeld => ?_); clear hK K; (try simp only [Act.put, List.setIfInBounds_toArray, List.set]))
          have hcat : ¬ 9223372036854775807 < mk1.size + tx.size := by have : mk1.size = 2 := rfl; omega
          (refine hyes 7 ?_); (try simp only [Act.put, List.setIfInBounds_toArray, List.set])
          (refine held_call 8 rfl (by kernel_rfl) (fun K hK => ?_); go_simp)
          obtain ⟨w3, hw3⟩ : ∃ w3, w3 = (w2.alloc (.cells #[.string (mk1 ++ tx)] 9)) := ⟨_, rfl⟩
          have hb3 : Below w2.heap.size w2 w3 := by rw [hw3]; exact (Below.refl _ _).alloc (Nat.le_refl _) _
          have HSL : Sl w3 1 (.slice (some ⟨w2.heap.size, 0, none⟩) 1 1) 1 [.string (mk1 ++ tx)] := by rw [hw3]; exact Sl.new w2 [.string (mk1 ++ tx)] 9 1 1 w2.heap.size rfl rfl (by simp [maxLen])
          have HB3 := HB2.trans (hb3.mono HB2.size)
          have HM3 := HM2.below hb3
          have hov3 := obj_below hov2 hb3
          have HX3 := blk_of hov3
          have HO3 := own_below HO2 hb3
          have hmk : (⟨#[43, 32]⟩ : ByteArray) = mk1 := rfl
          try rw [hmk]
          rw [← hw3]
          clear hw3 hb3
          (refine hK.out _ _ (⟨HM3.1, HX3.1⟩) (fun hHeld => ?_); clear hK K; (try simp only [Act.put, List.setIfInBounds_toArray, List.set]))
          refine held_call 9 rfl (by kernel_rfl) (fun K hK => ?_)
          refine step_row rfl _ _ 27 rfl wA.heap.size 9 infs _ 1 16 Tryz.underlying27 HIS.out hs0 hs1 hs2 (Nat.le_of_ble_eq_true rfl) rfl (Nat.le_of_ble_eq_true rfl) _ ss.length _ rfl HO3 _ 1 _ rfl HSL.a (str1 _) (by omega) HB3.size ?_
          intro a5 c5 w4 hown5 hg5
          have hb4 := below_own HB3 HO3 hg5 HB3.size (Nat.le_refl _)
          have HM4 := (HBX.out.later hb4).b
          have hov4 := obj_grown hov3 hg5 (obj_ne HO3 hov3 (by decide))
          have HX4 := blk_of hov4
          have HO4 : Hid (w4.ownsRow wA.heap.size 9 1 (.slice a5 (ss.length + 1) c5) (ss.length + 1) (strs (ss ++ [mk1 ++ tx]))) := Lib.hid (by rw [strs_app]; exact hown5)
          have HB4 := Lib.hid hb4
          (refine hK.out _ _ (⟨HM4.1, HX4.1⟩) (fun hHeld => ?_); clear hK K; (try simp only [Act.put, List.setIfInBounds_toArray, List.set]))
          clear hov hov2 hov3 hov4 HX2 HX3 HX4 HXV HM2 HM3 HM4 HMV HB2 HB3 HBV HO2 HO3 HOV hown5 hg5 hb4 HSL hbv
          (refine hyes 10 ?_); (try simp only [Act.put, List.setIfInBounds_toArray, List.set])
          refine wpAnyH_done (by kernel_rfl) ?_ _
          go_wp2_with fail
          refine ⟨⟨k + 1, ss ++ [mk1 ++ tx], by omega, by go_num, Lib.hid (by rw [HN.out, HS.out]), HB4, ?_⟩, by simp [intOf]; omega⟩
          rw [List.length_append]
          exact HO4
        · have HE := Lib.hid (show ss = ((([] : List ByteArray) ++ lnS mk0 d.gone) ++ lnS mk1 d.more) by have h := HS.out; rw [List.take_of_length_le (by omega), HP.out] at h; exact h)
          clear HS hss
          go_wp2_with fail
          exact ⟨⟨ss, HB, HO, .inr (.inr (⟨by go_num, HE⟩))⟩, by simp [intOf]⟩
    · obtain ⟨oo, oc, rfl⟩ := own_form HO.out
      have HE := HP
      generalize pp = ss at *
      obtain ⟨ca, fa, za⟩ := (HBX.out.later HB.out).a
      go_wp2_with fail
      clear ca fa za
      obtain ⟨wB, hwB⟩ : ∃ wB, wB = wr.alloc (.cells #[.slice da3 d.ungrow.length dc3, .slice da2 d.grow.length dc2, .slice da5 d.unshrink.length dc5, .slice da4 d.shrink.length dc4] 23) := ⟨_, rfl⟩
      obtain ⟨gB, hgB⟩ : ∃ gB, gB = wr.heap.size := ⟨_, rfl⟩
      rw [← hwB, ← hgB]
      have hbB : Below wr.heap.size wr wB := by rw [hwB]; exact (Below.refl _ _).alloc (Nat.le_refl _) _
      have HG := Lib.hid (show wB.heap[gB]? = some (.cells #[.slice da3 d.ungrow.length dc3, .slice da2 d.grow.length dc2, .slice da5 d.unshrink.length dc5, .slice da4 d.shrink.length dc4] 23 (0, 0)) from by rw [hwB, hgB]; exact obj_new _ _)
      have HO := Lib.hid (own_below HO.out hbB)
      have HB := Lib.hid (HB.out.trans (hbB.mono HB.out.size))
      clear hwB hgB hbB HP
      go_loopw [2, 52] (fun vo i wr => ∃ ss : List ByteArray, Hid (Below wA.heap.size wA wr) ∧ Hid (wr.ownsRow wA.heap.size 9 1 vo ss.length (strs ss)) ∧ Hid (wr.heap[gB]? = some (.cells #[.slice da3 d.ungrow.length dc3, .slice da2 d.grow.length dc2, .slice da5 d.unshrink.length dc5, .slice da4 d.shrink.length dc4] 23 (0, 0))) ∧ ((i = .int .i64 0 ∧ Hid (ss = ((([] : List ByteArray) ++ lnS mk0 d.gone) ++ lnS mk1 d.more))) ∨ (i = .int .i64 1 ∧ Hid (ss = (((([] : List ByteArray) ++ lnS mk0 d.gone) ++ lnS mk1 d.more) ++ lnR mk2 d.ungrow))) ∨ (i = .int .i64 2 ∧ Hid (ss = ((((([] : List ByteArray) ++ lnS mk0 d.gone) ++ lnS mk1 d.more) ++ lnR mk2 d.ungrow) ++ lnR mk3 d.grow))) ∨ (i = .int .i64 3 ∧ Hid (ss = (((((([] : List ByteArray) ++ lnS mk0 d.gone) ++ lnS mk1 d.more) ++ lnR mk2 d.ungrow) ++ lnR mk3 d.grow) ++ lnR mk4 d.unshrink))) ∨ (i = .int .i64 4 ∧ Hid (ss = ((((((([] : List ByteArray) ++ lnS mk0 d.gone) ++ lnS mk1 d.more) ++ lnR mk2 d.ungrow) ++ lnR mk3 d.grow) ++ lnR mk4 d.unshrink) ++ lnR mk5 d.shrink))))) (fun _ i _ => 4 - (intOf i).toNat)
      case atStart => exact ⟨ss, HB, HO, HG, .inl ⟨rfl, HE⟩⟩
      case round =>
        clear HB HO HG HE
        obtain ⟨pp, HB, HO, HG, ⟨rfl, HP⟩ | ⟨rfl, HP⟩ | ⟨rfl, HP⟩ | ⟨rfl, HP⟩ | ⟨rfl, HP⟩⟩ := hrel
        · obtain ⟨oo, oc, rfl⟩ := own_form HO.out
          have hpp : pp.length ≤ 600 := by rw [HP.out]; simp only [lnS, lnR, List.length_append, List.length_map, List.length_nil]; omega
          obtain ⟨ca, fa, za⟩ := blk_of HG.out
          go_wp2_with fail
          clear ca fa za
          go_loopw [2, 59] (fun vo i wr => ∃ (k : Nat) (ss : List ByteArray), k ≤ d.ungrow.length ∧ i = .int .i64 k ∧ Hid (ss = pp ++ lnR mk2 (d.ungrow.take k)) ∧ Hid (Below wA.heap.size wA wr) ∧ Hid (wr.ownsRow wA.heap.size 9 1 vo ss.length (strs ss)) ∧ Hid (wr.heap[gB]? = some (.cells #[.slice da3 d.ungrow.length dc3, .slice da2 d.grow.length dc2, .slice da5 d.unshrink.length dc5, .slice da4 d.shrink.length dc4] 23 (0, 0)))) (fun _ i _ => d.ungrow.length - (intOf i).toNat)
          case atStart => exact ⟨0, pp, by omega, rfl, Lib.hid (by simp [lnR]), HB, HO, HG⟩
          case round =>
            clear HB HO HG
            obtain ⟨k, ss, hk, rfl, HS, HB, HO, HG⟩ := hrel
            obtain ⟨oo, oc, rfl⟩ := own_form HO.out
            have hss : ss.length ≤ 900 := by rw [HS.out]; have := lnR_len mk2 pp d.ungrow k; omega
            by_cases hlt : k < d.ungrow.length
            · obtain ⟨b1, o1, c1, he1, hc1, hm1, hb1, hx1⟩ := HD.out.a3.pos (by omega)
              simp only [Value.slice.injEq, true_and] at he1
              obtain ⟨rfl, rfl⟩ := he1
              have hlow := HBX.out.low.trans (HB.out.mono HBX.out.low.size)
              obtain ⟨p0', p1'⟩ := rl_cell (w := wr) (fun j u hu => (hlow.cell (p := ⟨b1, o1 + j, none⟩) hb1).trans (hx1 j u hu)) k hlt
              have hbr : b1 < wr.heap.size := Nat.lt_of_lt_of_le hb1 hlow.size
              have hle := HK.out.t3 _ (List.getElem_mem hlt)
              have PR := Lib.hid (fun W => syn_PrintRole d.ungrow[k] W hle)
              have htx := roleT_big _ hle
              have HN := Lib.hid (lnR_more mk2 pp hlt)
              generalize roleT d.ungrow[k] = tx at PR htx HN
              clear hx1 hle hlow
              generalize d.ungrow[k] = x at *
              obtain ⟨x1, x2⟩ := x
              obtain ⟨wv, hwv⟩ : ∃ wv, wv = (wr.alloc (.cells #[.string x1, .string x2] 78)).drew := ⟨_, rfl⟩
              have hbv : Below wr.heap.size wr wv := by rw [hwv]; exact below_drew ((Below.refl _ _).alloc (Nat.le_refl _) _)
              have hov : wv.heap[wr.heap.size]? = some (.cells #[.string x1, .string x2] 78 (0, 0)) := by rw [hwv]; exact obj_new _ _
              have HBV := HB.out.trans (hbv.mono HB.out.size)
              have HMV := (HBX.out.later HBV).b
              have HOV := own_below HO.out hbv
              have HGV := obj_below HG.out hbv
              have HXV := blk_of hov
              go_wp2_with fail
              refine wp_region_held_drew (S := (fun W => (∀ o, W.cell? ⟨w.heap.size + 1, o, none⟩ = (#[.string mk0, .string mk1, .string mk2, .string mk3, .string mk4, .string mk5] : Array Value)[o]?) ∧ (∀ o, W.cell? ⟨wr.heap.size, o, none⟩ = (#[.string x1, .string x2] : Array Value)[o]?))) (by kernel_rfl) (by rw [← hwv]; exact ⟨HMV.1, HXV.1⟩) (fun hHeld => ?_)
              rw [← hwv] at hHeld ⊢
              clear hwv
              have hwr : IntKind.i64.wrap 2 = 2 := rfl
              (refine hyes 0 ?_); (refine hyes 1 ?_); (refine hyes 2 ?_); (refine hyes 3 ?_); (refine hyes 4 ?_); (refine hyes 5 ?_); (refine hyes 6 ?_); (try simp only [Act.put, List.setIfInBounds_toArray, List.set])
              (refine held_call 7 rfl (by kernel_rfl) (fun K hK => ?_); go_simp)
              go_at_call 103; refine (PR.out _).mono ?_; rintro e w2 ⟨rfl, hb2⟩
              have HB2 := HBV.trans (hb2.mono HBV.size)
              have HM2 := HMV.below hb2
              have hov2 := obj_below hov hb2
              have HX2 := blk_of hov2
              have HG2 := obj_below HGV hb2
              have HO2 := own_below HOV hb2
              clear hb2
              (refine hK.out _ _ (⟨HM2.1, HX2.1⟩) (fun hHeld => ?_); clear hK K; (try simp only [Act.put, List.setIfInBounds_toArray, List.set]))
              have hcat : ¬ 9223372036854775807 < mk2.size + tx.size := by have : mk2.size = 7 := rfl; omega
              (refine hyes 8 ?_); (try simp only [Act.put, List.setIfInBounds_toArray, List.set])
              (refine held_call 9 rfl (by kernel_rfl) (fun K hK => ?_); go_simp)
              obtain ⟨w3, hw3⟩ : ∃ w3, w3 = (w2.alloc (.cells #[.string (mk2 ++ tx)] 9)) := ⟨_, rfl⟩
              have hb3 : Below w2.heap.size w2 w3 := by rw [hw3]; exact (Below.refl _ _).alloc (Nat.le_refl _) _
              have HSL : Sl w3 1 (.slice (some ⟨w2.heap.size, 0, none⟩) 1 1) 1 [.string (mk2 ++ tx)] := by rw [hw3]; exact Sl.new w2 [.string (mk2 ++ tx)] 9 1 1 w2.heap.size rfl rfl (by simp [maxLen])
              have HB3 := HB2.trans (hb3.mono HB2.size)
              have HM3 := HM2.below hb3
              have hov3 := obj_below hov2 hb3
              have HX3 := blk_of hov3
              have HG3 := obj_below HG2 hb3
              have HO3 := own_below HO2 hb3
              have hmk : (⟨#[45, 32, 103, 114, 111, 119, 32]⟩ : ByteArray) = mk2 := rfl
              try rw [hmk]
              rw [← hw3]
              clear hw3 hb3
              (refine hK.out _ _ (⟨HM3.1, HX3.1⟩) (fun hHeld => ?_); clear hK K; (try simp only [Act.put, List.setIfInBounds_toArray, List.set]))
              refine held_call 10 rfl (by kernel_rfl) (fun K hK => ?_)
              refine step_row rfl _ _ 27 rfl wA.heap.size 9 infs _ 1 16 Tryz.underlying27 HIS.out hs0 hs1 hs2 (Nat.le_of_ble_eq_true rfl) rfl (Nat.le_of_ble_eq_true rfl) _ ss.length _ rfl HO3 _ 1 _ rfl HSL.a (str1 _) (by omega) HB3.size ?_
              intro a5 c5 w4 hown5 hg5
              have hb4 := below_own HB3 HO3 hg5 HB3.size (Nat.le_refl _)
              have HM4 := (HBX.out.later hb4).b
              have hov4 := obj_grown hov3 hg5 (obj_ne HO3 hov3 (by decide))
              have HX4 := blk_of hov4
              have HG4 := Lib.hid (obj_grown HG3 hg5 (obj_ne HO3 HG3 (by decide)))
              have HO4 : Hid (w4.ownsRow wA.heap.size 9 1 (.slice a5 (ss.length + 1) c5) (ss.length + 1) (strs (ss ++ [mk2 ++ tx]))) := Lib.hid (by rw [strs_app]; exact hown5)
              have HB4 := Lib.hid hb4
              (refine hK.out _ _ (⟨HM4.1, HX4.1⟩) (fun hHeld => ?_); clear hK K; (try simp only [Act.put, List.setIfInBounds_toArray, List.set]))
              clear hov hov2 hov3 hov4 HX2 HX3 HX4 HXV HM2 HM3 HM4 HMV HB2 HB3 HBV HO2 HO3 HOV hown5 hg5 hb4 HSL hbv HGV HG2 HG3
              (refine hyes 11 ?_); (try simp only [Act.put, List.setIfInBounds_toArray, List.set])
              refine wpAnyH_done (by kernel_rfl) ?_ _
              go_wp2_with fail
              refine ⟨⟨k + 1, ss ++ [mk2 ++ tx], by omega, by go_num, Lib.hid (by rw [HN.out, HS.out]), HB4, ?_, HG4⟩, by simp [intOf]; omega⟩
              rw [List.length_append]
              exact HO4
            · have HE := Lib.hid (show ss = (((([] : List ByteArray) ++ lnS mk0 d.gone) ++ lnS mk1 d.more) ++ lnR mk2 d.ungrow) by have h := HS.out; rw [List.take_of_length_le (by omega), HP.out] at h; exact h)
              clear HS hss
              go_wp2_with fail
              exact ⟨⟨ss, HB, HO, HG, .inr (.inl ⟨by go_num, HE⟩)⟩, by simp [intOf]⟩
        · obtain ⟨oo, oc, rfl⟩ := own_form HO.out
          have hpp : pp.length ≤ 900 := by rw [HP.out]; simp only [lnS, lnR, List.length_append, List.length_map, List.length_nil]; omega
          obtain ⟨ca, fa, za⟩ := blk_of HG.out
          go_wp2_with fail
          clear ca fa za
          go_loopw [2, 59] (fun vo i wr => ∃ (k : Nat) (ss : List ByteArray), k ≤ d.grow.length ∧ i = .int .i64 k ∧ Hid (ss = pp ++ lnR mk3 (d.grow.take k)) ∧ Hid (Below wA.heap.size wA wr) ∧ Hid (wr.ownsRow wA.heap.size 9 1 vo ss.length (strs ss)) ∧ Hid (wr.heap[gB]? = some (.cells #[.slice da3 d.ungrow.length dc3, .slice da2 d.grow.length dc2, .slice da5 d.unshrink.length dc5, .slice da4 d.shrink.length dc4] 23 (0, 0)))) (fun _ i _ => d.grow.length - (intOf i).toNat)
          case atStart => exact ⟨0, pp, by omega, rfl, Lib.hid (by simp [lnR]), HB, HO, HG⟩
          case round =>
            clear HB HO HG
            obtain ⟨k, ss, hk, rfl, HS, HB, HO, HG⟩ := hrel
            obtain ⟨oo, oc, rfl⟩ := own_form HO.out
            have hss : ss.length ≤ 1200 := by rw [HS.out]; have := lnR_len mk3 pp d.grow k; omega
            by_cases hlt : k < d.grow.length
            · obtain ⟨b1, o1, c1, he1, hc1, hm1, hb1, hx1⟩ := HD.out.a2.pos (by omega)
              simp only [Value.slice.injEq, true_and] at he1
              obtain ⟨rfl, rfl⟩ := he1
              have hlow := HBX.out.low.trans (HB.out.mono HBX.out.low.size)
              obtain ⟨p0', p1'⟩ := rl_cell (w := wr) (fun j u hu => (hlow.cell (p := ⟨b1, o1 + j, none⟩) hb1).trans (hx1 j u hu)) k hlt
              have hbr : b1 < wr.heap.size := Nat.lt_of_lt_of_le hb1 hlow.size
              have hle := HK.out.t2 _ (List.getElem_mem hlt)
              have PR := Lib.hid (fun W => syn_PrintRole d.grow[k] W hle)
              have htx := roleT_big _ hle
              have HN := Lib.hid (lnR_more mk3 pp hlt)
              generalize roleT d.grow[k] = tx at PR htx HN
              clear hx1 hle hlow
              generalize d.grow[k] = x at *
              obtain ⟨x1, x2⟩ := x
              obtain ⟨wv, hwv⟩ : ∃ wv, wv = (wr.alloc (.cells #[.string x1, .string x2] 78)).drew := ⟨_, rfl⟩
              have hbv : Below wr.heap.size wr wv := by rw [hwv]; exact below_drew ((Below.refl _ _).alloc (Nat.le_refl _) _)
              have hov : wv.heap[wr.heap.size]? = some (.cells #[.string x1, .string x2] 78 (0, 0)) := by rw [hwv]; exact obj_new _ _
              have HBV := HB.out.trans (hbv.mono HB.out.size)
              have HMV := (HBX.out.later HBV).b
              have HOV := own_below HO.out hbv
              have HGV := obj_below HG.out hbv
              have HXV := blk_of hov
              go_wp2_with fail
              refine wp_region_held_drew (S := (fun W => (∀ o, W.cell? ⟨w.heap.size + 1, o, none⟩ = (#[.string mk0, .string mk1, .string mk2, .string mk3, .string mk4, .string mk5] : Array Value)[o]?) ∧ (∀ o, W.cell? ⟨wr.heap.size, o, none⟩ = (#[.string x1, .string x2] : Array Value)[o]?))) (by kernel_rfl) (by rw [← hwv]; exact ⟨HMV.1, HXV.1⟩) (fun hHeld => ?_)
              rw [← hwv] at hHeld ⊢
              clear hwv
              have hwr : IntKind.i64.wrap 3 = 3 := rfl
              (refine hyes 0 ?_); (refine hyes 1 ?_); (refine hyes 2 ?_); (refine hyes 3 ?_); (refine hyes 4 ?_); (refine hyes 5 ?_); (refine hyes 6 ?_); (try simp only [Act.put, List.setIfInBounds_toArray, List.set])
              (refine held_call 7 rfl (by kernel_rfl) (fun K hK => ?_); go_simp)
              go_at_call 103; refine (PR.out _).mono ?_; rintro e w2 ⟨rfl, hb2⟩
              have HB2 := HBV.trans (hb2.mono HBV.size)
              have HM2 := HMV.below hb2
              have hov2 := obj_below hov hb2
              have HX2 := blk_of hov2
              have HG2 := obj_below HGV hb2
              have HO2 := own_below HOV hb2
              clear hb2
              (refine hK.out _ _ (⟨HM2.1, HX2.1⟩) (fun hHeld => ?_); clear hK K; (try simp only [Act.put, List.setIfInBounds_toArray, List.set]))
              have hcat : ¬ 9223372036854775807 < mk3.size + tx.size := by have : mk3.size = 7 := rfl; omega
              (refine hyes 8 ?_); (try simp only [Act.put, List.setIfInBounds_toArray, List.set])
              (refine held_call 9 rfl (by kernel_rfl) (fun K hK => ?_); go_simp)
              obtain ⟨w3, hw3⟩ : ∃ w3, w3 = (w2.alloc (.cells #[.string (mk3 ++ tx)] 9)) := ⟨_, rfl⟩
              have hb3 : Below w2.heap.size w2 w3 := by rw [hw3]; exact (Below.refl _ _).alloc (Nat.le_refl _) _
              have HSL : Sl w3 1 (.slice (some ⟨w2.heap.size, 0, none⟩) 1 1) 1 [.string (mk3 ++ tx)] := by rw [hw3]; exact Sl.new w2 [.string (mk3 ++ tx)] 9 1 1 w2.heap.size rfl rfl (by simp [maxLen])
              have HB3 := HB2.trans (hb3.mono HB2.size)
              have HM3 := HM2.below hb3
              have hov3 := obj_below hov2 hb3
              have HX3 := blk_of hov3
              have HG3 := obj_below HG2 hb3
              have HO3 := own_below HO2 hb3
              have hmk : (⟨#[43, 32, 103, 114, 111, 119, 32]⟩ : ByteArray) = mk3 := rfl
              try rw [hmk]
              rw [← hw3]
              clear hw3 hb3
              (refine hK.out _ _ (⟨HM3.1, HX3.1⟩) (fun hHeld => ?_); clear hK K; (try simp only [Act.put, List.setIfInBounds_toArray, List.set]))
              refine held_call 10 rfl (by kernel_rfl) (fun K hK => ?_)
              refine step_row rfl _ _ 27 rfl wA.heap.size 9 infs _ 1 16 Tryz.underlying27 HIS.out hs0 hs1 hs2 (Nat.le_of_ble_eq_true rfl) rfl (Nat.le_of_ble_eq_true rfl) _ ss.length _ rfl HO3 _ 1 _ rfl HSL.a (str1 _) (by omega) HB3.size ?_
              intro a5 c5 w4 hown5 hg5
              have hb4 := below_own HB3 HO3 hg5 HB3.size (Nat.le_refl _)
              have HM4 := (HBX.out.later hb4).b
              have hov4 := obj_grown hov3 hg5 (obj_ne HO3 hov3 (by decide))
              have HX4 := blk_of hov4
              have HG4 := Lib.hid (obj_grown HG3 hg5 (obj_ne HO3 HG3 (by decide)))
              have HO4 : Hid (w4.ownsRow wA.heap.size 9 1 (.slice a5 (ss.length + 1) c5) (ss.length + 1) (strs (ss ++ [mk3 ++ tx]))) := Lib.hid (by rw [strs_app]; exact hown5)
              have HB4 := Lib.hid hb4
              (refine hK.out _ _ (⟨HM4.1, HX4.1⟩) (fun hHeld => ?_); clear hK K; (try simp only [Act.put, List.setIfInBounds_toArray, List.set]))
              clear hov hov2 hov3 hov4 HX2 HX3 HX4 HXV HM2 HM3 HM4 HMV HB2 HB3 HBV HO2 HO3 HOV hown5 hg5 hb4 HSL hbv HGV HG2 HG3
              (refine hyes 11 ?_); (try simp only [Act.put, List.setIfInBounds_toArray, List.set])
              refine wpAnyH_done (by kernel_rfl) ?_ _
              go_wp2_with fail
              refine ⟨⟨k + 1, ss ++ [mk3 ++ tx], by omega, by go_num, Lib.hid (by rw [HN.out, HS.out]), HB4, ?_, HG4⟩, by simp [intOf]; omega⟩
              rw [List.length_append]
              exact HO4
            · have HE := Lib.hid (show ss = ((((([] : List ByteArray) ++ lnS mk0 d.gone) ++ lnS mk1 d.more) ++ lnR mk2 d.ungrow) ++ lnR mk3 d.grow) by have h := HS.out; rw [List.take_of_length_le (by omega), HP.out] at h; exact h)
              clear HS hss
              go_wp2_with fail
              exact ⟨⟨ss, HB, HO, HG, .inr (.inr (.inl ⟨by go_num, HE⟩))⟩, by simp [intOf]⟩
        · obtain ⟨oo, oc, rfl⟩ := own_form HO.out
          have hpp : pp.length ≤ 1200 := by rw [HP.out]; simp only [lnS, lnR, List.length_append, List.length_map, List.length_nil]; omega
          obtain ⟨ca, fa, za⟩ := blk_of HG.out
          go_wp2_with fail
          clear ca fa za
          go_loopw [2, 59] (fun vo i wr => ∃ (k : Nat) (ss : List ByteArray), k ≤ d.unshrink.length ∧ i = .int .i64 k ∧ Hid (ss = pp ++ lnR mk4 (d.unshrink.take k)) ∧ Hid (Below wA.heap.size wA wr) ∧ Hid (wr.ownsRow wA.heap.size 9 1 vo ss.length (strs ss)) ∧ Hid (wr.heap[gB]? = some (.cells #[.slice da3 d.ungrow.length dc3, .slice da2 d.grow.length dc2, .slice da5 d.unshrink.length dc5, .slice da4 d.shrink.length dc4] 23 (0, 0)))) (fun _ i _ => d.unshrink.length - (intOf i).toNat)
          case atStart => exact ⟨0, pp, by omega, rfl, Lib.hid (by simp [lnR]), HB, HO, HG⟩
          case round =>
            clear HB HO HG
            obtain ⟨k, ss, hk, rfl, HS, HB, HO, HG⟩ := hrel
            obtain ⟨oo, oc, rfl⟩ := own_form HO.out
            have hss : ss.length ≤ 1500 := by rw [HS.out]; have := lnR_len mk4 pp d.unshrink k; omega
            by_cases hlt : k < d.unshrink.length
            · obtain ⟨b1, o1, c1, he1, hc1, hm1, hb1, hx1⟩ := HD.out.a5.pos (by omega)
              simp only [Value.slice.injEq, true_and] at he1
              obtain ⟨rfl, rfl⟩ := he1
              have hlow := HBX.out.low.trans (HB.out.mono HBX.out.low.size)
              obtain ⟨p0', p1'⟩ := rl_cell (w := wr) (fun j u hu => (hlow.cell (p := ⟨b1, o1 + j, none⟩) hb1).trans (hx1 j u hu)) k hlt
              have hbr : b1 < wr.heap.size := Nat.lt_of_lt_of_le hb1 hlow.size
              have hle := HK.out.t5 _ (List.getElem_mem hlt)
              have PR := Lib.hid (fun W => syn_PrintRole d.unshrink[k] W hle)
              have htx := roleT_big _ hle
              have HN := Lib.hid (lnR_more mk4 pp hlt)
              generalize roleT d.unshrink[k] = tx at PR htx HN
              clear hx1 hle hlow
              generalize d.unshrink[k] = x at *
              obtain ⟨x1, x2⟩ := x
              obtain ⟨wv, hwv⟩ : ∃ wv, wv = (wr.alloc (.cells #[.string x1, .string x2] 78)).drew := ⟨_, rfl⟩
              have hbv : Below wr.heap.size wr wv := by rw [hwv]; exact below_drew ((Below.refl _ _).alloc (Nat.le_refl _) _)
              have hov : wv.heap[wr.heap.size]? = some (.cells #[.string x1, .string x2] 78 (0, 0)) := by rw [hwv]; exact obj_new _ _
              have HBV := HB.out.trans (hbv.mono HB.out.size)
              have HMV := (HBX.out.later HBV).b
              have HOV := own_below HO.out hbv
              have HGV := obj_below HG.out hbv
              have HXV := blk_of hov
              go_wp2_with fail
              refine wp_region_held_drew (S := (fun W => (∀ o, W.cell? ⟨w.heap.size + 1, o, none⟩ = (#[.string mk0, .string mk1, .string mk2, .string mk3, .string mk4, .string mk5] : Array Value)[o]?) ∧ (∀ o, W.cell? ⟨wr.heap.size, o, none⟩ = (#[.string x1, .string x2] : Array Value)[o]?))) (by kernel_rfl) (by rw [← hwv]; exact ⟨HMV.1, HXV.1⟩) (fun hHeld => ?_)
              rw [← hwv] at hHeld ⊢
              clear hwv
              have hwr : IntKind.i64.wrap 4 = 4 := rfl
              (refine hyes 0 ?_); (refine hyes 1 ?_); (refine hyes 2 ?_); (refine hyes 3 ?_); (refine hyes 4 ?_); (refine hyes 5 ?_); (refine hyes 6 ?_); (try simp only [Act.put, List.setIfInBounds_toArray, List.set])
              (refine held_call 7 rfl (by kernel_rfl) (fun K hK => ?_); go_simp)
              go_at_call 103; refine (PR.out _).mono ?_; rintro e w2 ⟨rfl, hb2⟩
              have HB2 := HBV.trans (hb2.mono HBV.size)
              have HM2 := HMV.below hb2
              have hov2 := obj_below hov hb2
              have HX2 := blk_of hov2
              have HG2 := obj_below HGV hb2
              have HO2 := own_below HOV hb2
              clear hb2
              (refine hK.out _ _ (⟨HM2.1, HX2.1⟩) (fun hHeld => ?_); clear hK K; (try simp only [Act.put, List.setIfInBounds_toArray, List.set]))
              have hcat : ¬ 9223372036854775807 < mk4.size + tx.size := by have : mk4.size = 9 := rfl; omega
              (refine hyes 8 ?_); (try simp only [Act.put, List.setIfInBounds_toArray, List.set])
              (refine held_call 9 rfl (by kernel_rfl) (fun K hK => ?_); go_simp)
              obtain ⟨w3, hw3⟩ : ∃ w3, w3 = (w2.alloc (.cells #[.string (mk4 ++ tx)] 9)) := ⟨_, rfl⟩
              have hb3 : Below w2.heap.size w2 w3 := by rw [hw3]; exact (Below.refl _ _).alloc (Nat.le_refl _) _
              have HSL : Sl w3 1 (.slice (some ⟨w2.heap.size, 0, none⟩) 1 1) 1 [.string (mk4 ++ tx)] := by rw [hw3]; exact Sl.new w2 [.string (mk4 ++ tx)] 9 1 1 w2.heap.size rfl rfl (by simp [maxLen])
              have HB3 := HB2.trans (hb3.mono HB2.size)
              have HM3 := HM2.below hb3
              have hov3 := obj_below hov2 hb3
              have HX3 := blk_of hov3
              have HG3 := obj_below HG2 hb3
              have HO3 := own_below HO2 hb3
              have hmk : (⟨#[45, 32, 115, 104, 114, 105, 110, 107, 32]⟩ : ByteArray) = mk4 := rfl
              try rw [hmk]
              rw [← hw3]
              clear hw3 hb3
              (refine hK.out _ _ (⟨HM3.1, HX3.1⟩) (fun hHeld => ?_); clear hK K; (try simp only [Act.put, List.setIfInBounds_toArray, List.set]))
              refine held_call 10 rfl (by kernel_rfl) (fun K hK => ?_)
              refine step_row rfl _ _ 27 rfl wA.heap.size 9 infs _ 1 16 Tryz.underlying27 HIS.out hs0 hs1 hs2 (Nat.le_of_ble_eq_true rfl) rfl (Nat.le_of_ble_eq_true rfl) _ ss.length _ rfl HO3 _ 1 _ rfl HSL.a (str1 _) (by omega) HB3.size ?_
              intro a5 c5 w4 hown5 hg5
              have hb4 := below_own HB3 HO3 hg5 HB3.size (Nat.le_refl _)
              have HM4 := (HBX.out.later hb4).b
              have hov4 := obj_grown hov3 hg5 (obj_ne HO3 hov3 (by decide))
              have HX4 := blk_of hov4
              have HG4 := Lib.hid (obj_grown HG3 hg5 (obj_ne HO3 HG3 (by decide)))
              have HO4 : Hid (w4.ownsRow wA.heap.size 9 1 (.slice a5 (ss.length + 1) c5) (ss.length + 1) (strs (ss ++ [mk4 ++ tx]))) := Lib.hid (by rw [strs_app]; exact hown5)
              have HB4 := Lib.hid hb4
              (refine hK.out _ _ (⟨HM4.1, HX4.1⟩) (fun hHeld => ?_); clear hK K; (try simp only [Act.put, List.setIfInBounds_toArray, List.set]))
              clear hov hov2 hov3 hov4 HX2 HX3 HX4 HXV HM2 HM3 HM4 HMV HB2 HB3 HBV HO2 HO3 HOV hown5 hg5 hb4 HSL hbv HGV HG2 HG3
              (refine hyes 11 ?_); (try simp only [Act.put, List.setIfInBounds_toArray, List.set])
              refine wpAnyH_done (by kernel_rfl) ?_ _
              go_wp2_with fail
              refine ⟨⟨k + 1, ss ++ [mk4 ++ tx], by omega, by go_num, Lib.hid (by rw [HN.out, HS.out]), HB4, ?_, HG4⟩, by simp [intOf]; omega⟩
              rw [List.length_append]
              exact HO4
            · have HE := Lib.hid (show ss = (((((([] : List ByteArray) ++ lnS mk0 d.gone) ++ lnS mk1 d.more) ++ lnR mk2 d.ungrow) ++ lnR mk3 d.grow) ++ lnR mk4 d.unshrink) by have h := HS.out; rw [List.take_of_length_le (by omega), HP.out] at h; exact h)
              clear HS hss
              go_wp2_with fail
              exact ⟨⟨ss, HB, HO, HG, .inr (.inr (.inr (.inl ⟨by go_num, HE⟩)))⟩, by simp [intOf]⟩
        · obtain ⟨oo, oc, rfl⟩ := own_form HO.out
          have hpp : pp.length ≤ 1500 := by rw [HP.out]; simp only [lnS, lnR, List.length_append, List.length_map, List.length_nil]; omega
          obtain ⟨ca, fa, za⟩ := blk_of HG.out
          go_wp2_with fail
          clear ca fa za
          go_loopw [2, 59] (fun vo i wr => ∃ (k : Nat) (ss : List ByteArray), k ≤ d.shrink.length ∧ i = .int .i64 k ∧ Hid (ss = pp ++ lnR mk5 (d.shrink.take k)) ∧ Hid (Below wA.heap.size wA wr) ∧ Hid (wr.ownsRow wA.heap.size 9 1 vo ss.length (strs ss)) ∧ Hid (wr.heap[gB]? = some (.cells #[.slice da3 d.ungrow.length dc3, .slice da2 d.grow.length dc2, .slice da5 d.unshrink.length dc5, .slice da4 d.shrink.length dc4] 23 (0, 0)))) (fun _ i _ => d.shrink.length - (intOf i).toNat)
          case atStart => exact ⟨0, pp, by omega, rfl, Lib.hid (by simp [lnR]), HB, HO, HG⟩
          case round =>
            clear HB HO HG
            obtain ⟨k, ss, hk, rfl, HS, HB, HO, HG⟩ := hrel
            obtain ⟨oo, oc, rfl⟩ := own_form HO.out
            have hss : ss.length ≤ 1800 := by rw [HS.out]; have := lnR_len mk5 pp d.shrink k; omega
            by_cases hlt : k < d.shrink.length
            · obtain ⟨b1, o1, c1, he1, hc1, hm1, hb1, hx1⟩ := HD.out.a4.pos (by omega)
              simp only [Value.slice.injEq, true_and] at he1
              obtain ⟨rfl, rfl⟩ := he1
              have hlow := HBX.out.low.trans (HB.out.mono HBX.out.low.size)
              obtain ⟨p0', p1'⟩ := rl_cell (w := wr) (fun j u hu => (hlow.cell (p := ⟨b1, o1 + j, none⟩) hb1).trans (hx1 j u hu)) k hlt
              have hbr : b1 < wr.heap.size := Nat.lt_of_lt_of_le hb1 hlow.size
              have hle := HK.out.t4 _ (List.getElem_mem hlt)
              have PR := Lib.hid (fun W => syn_PrintRole d.shrink[k] W hle)
              have htx := roleT_big _ hle
              have HN := Lib.hid (lnR_more mk5 pp hlt)
              generalize roleT d.shrink[k] = tx at PR htx HN
              clear hx1 hle hlow
              generalize d.shrink[k] = x at *
              obtain ⟨x1, x2⟩ := x
              obtain ⟨wv, hwv⟩ : ∃ wv, wv = (wr.alloc (.cells #[.string x1, .string x2] 78)).drew := ⟨_, rfl⟩
              have hbv : Below wr.heap.size wr wv := by rw [hwv]; exact below_drew ((Below.refl _ _).alloc (Nat.le_refl _) _)
              have hov : wv.heap[wr.heap.size]? = some (.cells #[.string x1, .string x2] 78 (0, 0)) := by rw [hwv]; exact obj_new _ _
              have HBV := HB.out.trans (hbv.mono HB.out.size)
              have HMV := (HBX.out.later HBV).b
              have HOV := own_below HO.out hbv
              have HGV := obj_below HG.out hbv
              have HXV := blk_of hov
              go_wp2_with fail
              refine wp_region_held_drew (S := (fun W => (∀ o, W.cell? ⟨w.heap.size + 1, o, none⟩ = (#[.string mk0, .string mk1, .string mk2, .string mk3, .string mk4, .string mk5] : Array Value)[o]?) ∧ (∀ o, W.cell? ⟨wr.heap.size, o, none⟩ = (#[.string x1, .string x2] : Array Value)[o]?))) (by kernel_rfl) (by rw [← hwv]; exact ⟨HMV.1, HXV.1⟩) (fun hHeld => ?_)
              rw [← hwv] at hHeld ⊢
              clear hwv
              have hwr : IntKind.i64.wrap 5 = 5 := rfl
              (refine hyes 0 ?_); (refine hyes 1 ?_); (refine hyes 2 ?_); (refine hyes 3 ?_); (refine hyes 4 ?_); (refine hyes 5 ?_); (refine hyes 6 ?_); (try simp only [Act.put, List.setIfInBounds_toArray, List.set])
              (refine held_call 7 rfl (by kernel_rfl) (fun K hK => ?_); go_simp)
              go_at_call 103; refine (PR.out _).mono ?_; rintro e w2 ⟨rfl, hb2⟩
              have HB2 := HBV.trans (hb2.mono HBV.size)
              have HM2 := HMV.below hb2
              have hov2 := obj_below hov hb2
              have HX2 := blk_of hov2
              have HG2 := obj_below HGV hb2
              have HO2 := own_below HOV hb2
              clear hb2
              (refine hK.out _ _ (⟨HM2.1, HX2.1⟩) (fun hHeld => ?_); clear hK K; (try simp only [Act.put, List.setIfInBounds_toArray, List.set]))
              have hcat : ¬ 9223372036854775807 < mk5.size + tx.size := by have : mk5.size = 9 := rfl; omega
              (refine hyes 8 ?_); (try simp only [Act.put, List.setIfInBounds_toArray, List.set])
              (refine held_call 9 rfl (by kernel_rfl) (fun K hK => ?_); go_simp)
              obtain ⟨w3, hw3⟩ : ∃ w3, w3 = (w2.alloc (.cells #[.string (mk5 ++ tx)] 9)) := ⟨_, rfl⟩
              have hb3 : Below w2.heap.size w2 w3 := by rw [hw3]; exact (Below.refl _ _).alloc (Nat.le_refl _) _
              have HSL : Sl w3 1 (.slice (some ⟨w2.heap.size, 0, none⟩) 1 1) 1 [.string (mk5 ++ tx)] := by rw [hw3]; exact Sl.new w2 [.string (mk5 ++ tx)] 9 1 1 w2.heap.size rfl rfl (by simp [maxLen])
              have HB3 := HB2.trans (hb3.mono HB2.size)
              have HM3 := HM2.below hb3
              have hov3 := obj_below hov2 hb3
              have HX3 := blk_of hov3
              have HG3 := obj_below HG2 hb3
              have HO3 := own_below HO2 hb3
              have hmk : (⟨#[43, 32, 115, 104, 114, 105, 110, 107, 32]⟩ : ByteArray) = mk5 := rfl
              try rw [hmk]
              rw [← hw3]
              clear hw3 hb3
              (refine hK.out _ _ (⟨HM3.1, HX3.1⟩) (fun hHeld => ?_); clear hK K; (try simp only [Act.put, List.setIfInBounds_toArray, List.set]))
              refine held_call 10 rfl (by kernel_rfl) (fun K hK => ?_)
              refine step_row rfl _ _ 27 rfl wA.heap.size 9 infs _ 1 16 Tryz.underlying27 HIS.out hs0 hs1 hs2 (Nat.le_of_ble_eq_true rfl) rfl (Nat.le_of_ble_eq_true rfl) _ ss.length _ rfl HO3 _ 1 _ rfl HSL.a (str1 _) (by omega) HB3.size ?_
              intro a5 c5 w4 hown5 hg5
              have hb4 := below_own HB3 HO3 hg5 HB3.size (Nat.le_refl _)
              have HM4 := (HBX.out.later hb4).b
              have hov4 := obj_grown hov3 hg5 (obj_ne HO3 hov3 (by decide))
              have HX4 := blk_of hov4
              have HG4 := Lib.hid (obj_grown HG3 hg5 (obj_ne HO3 HG3 (by decide)))
              have HO4 : Hid (w4.ownsRow wA.heap.size 9 1 (.slice a5 (ss.length + 1) c5) (ss.length + 1) (strs (ss ++ [mk5 ++ tx]))) := Lib.hid (by rw [strs_app]; exact hown5)
              have HB4 := Lib.hid hb4
              (refine hK.out _ _ (⟨HM4.1, HX4.1⟩) (fun hHeld => ?_); clear hK K; (try simp only [Act.put, List.setIfInBounds_toArray, List.set]))
              clear hov hov2 hov3 hov4 HX2 HX3 HX4 HXV HM2 HM3 HM4 HMV HB2 HB3 HBV HO2 HO3 HOV hown5 hg5 hb4 HSL hbv HGV HG2 HG3
              (refine hyes 11 ?_); (try simp only [Act.put, List.setIfInBounds_toArray, List.set])
              refine wpAnyH_done (by kernel_rfl) ?_ _
              go_wp2_with fail
              refine ⟨⟨k + 1, ss ++ [mk5 ++ tx], by omega, by go_num, Lib.hid (by rw [HN.out, HS.out]), HB4, ?_, HG4⟩, by simp [intOf]; omega⟩
              rw [List.length_append]
              exact HO4
            · have HE := Lib.hid (show ss = ((((((([] : List ByteArray) ++ lnS mk0 d.gone) ++ lnS mk1 d.more) ++ lnR mk2 d.ungrow) ++ lnR mk3 d.grow) ++ lnR mk4 d.unshrink) ++ lnR mk5 d.shrink) by have h := HS.out; rw [List.take_of_length_le (by omega), HP.out] at h; exact h)
              clear HS hss
              go_wp2_with fail
              exact ⟨⟨ss, HB, HO, HG, .inr (.inr (.inr (.inr (⟨by go_num, HE⟩))))⟩, by simp [intOf]⟩
        · obtain ⟨oo, oc, rfl⟩ := own_form HO.out
          have HS := Lib.hid (Sl.of_own HO.out)
          have HE := Lib.hid (show pp = dl by rw [HP.out, DE.out])
          go_wp2
          go_ret
          exact ⟨_, rfl, by rw [← HE.out]; exact HS.out, HBX.out.low.trans (HB.out.mono HBX.out.low.size)⟩
end Go.Proofs.YtomhekohcadijaaGreatDoor
