/- The lines of a difference: crupperref32.Lines (printed by gen_lines.py). -/
import Derived.Test.YtmpanikeeeoikaaGreatPart13
import Derived.Test.YtmpanikeeeoikaaGreatPart8
import Derived.Test.YtmpanikeeeoikaaGreatPart7
namespace Go.Proofs.YtmpanikeeeoikaaGreat
open Go.RowKit Go.Shelf

theorem roleT_big (r : Rl) (h : r.le 4294967) : (roleT r).size ≤ 30000000 := Nat.le_trans (roleT_le r h) (by decide)
theorem printS_big (s : St) (h : s.le 4294967) : (printS s).size ≤ 30000000 := by
  obtain ⟨h0, h1, h2, h3, h4⟩ := h
  have r0 := roleT_le _ h0
  have r1 := roleT_le _ h2
  have r2 := roleT_le _ h3
  unfold printS
  have e1 : (⟨#[32, 60, 45, 32]⟩ : ByteArray).size = 4 := rfl
  have e2 : (⟨#[46]⟩ : ByteArray).size = 1 := rfl
  have e3 : (⟨#[32, 38, 32]⟩ : ByteArray).size = 3 := rfl
  have e4 : emp.size = 0 := rfl
  split
  · simp only [ByteArray.size_append]
    split
    · omega
    · split
      · simp only [ByteArray.size_append]; omega
      · split
        · simp only [ByteArray.size_append]; omega
        · omega
  · omega
theorem lnS_more {l : List St} {k : Nat} (mk : ByteArray) (P : List ByteArray) (h : k < l.length) : P ++ lnS mk (l.take (k + 1)) = (P ++ lnS mk (l.take k)) ++ [mk ++ printS l[k]] := by
  unfold lnS
  rw [List.take_succ_eq_append_getElem h, List.map_append, List.append_assoc]; rfl
theorem lnR_more {l : List Rl} {k : Nat} (mk : ByteArray) (P : List ByteArray) (h : k < l.length) : P ++ lnR mk (l.take (k + 1)) = (P ++ lnR mk (l.take k)) ++ [mk ++ roleT l[k]] := by
  unfold lnR
  rw [List.take_succ_eq_append_getElem h, List.map_append, List.append_assoc]; rfl
theorem lnS_len (mk : ByteArray) (P : List ByteArray) (l : List St) (k : Nat) : (P ++ lnS mk (l.take k)).length ≤ P.length + l.length := by
  unfold lnS
  rw [List.length_append, List.length_map, List.length_take]; omega
theorem lnR_len (mk : ByteArray) (P : List ByteArray) (l : List Rl) (k : Nat) : (P ++ lnR mk (l.take k)).length ≤ P.length + l.length := by
  unfold lnR
  rw [List.length_append, List.length_map, List.length_take]; omega

set_option maxRecDepth 100000 in
set_option maxHeartbeats 16000000 in
theorem ref32_Lines (x0 x1 x2 x3 x4 x5 : Value) (d : Dl) (w : World) (hd : DlAt w x0 x1 x2 x3 x4 x5 d) (hk : d.le 300 4294967) :
    Calls Tryz.prog 18 #[dv x0 x1 x2 x3 x4 x5] w fun e w' => ∃ v, e = .returned v ∧ Sl w' 1 v d.lines.length (strs d.lines) ∧ Below w.heap.size w w' := by
  have HD := Lib.hid hd
  have HK := Lib.hid hk
  have n0 := hk.n0
  have n1 := hk.n1
  have n2 := hk.n2
  have n3 := hk.n3
  have n4 := hk.n4
  have n5 := hk.n5
  obtain ⟨da0, dc0, rfl⟩ := hd.a0.form
  obtain ⟨da1, dc1, rfl⟩ := hd.a1.form
  obtain ⟨da2, dc2, rfl⟩ := hd.a2.form
  obtain ⟨da3, dc3, rfl⟩ := hd.a3.form
  obtain ⟨da4, dc4, rfl⟩ := hd.a4.form
  obtain ⟨da5, dc5, rfl⟩ := hd.a5.form
  obtain ⟨wA, hA⟩ : ∃ wA, wA = w.alloc (.cells #[.slice da0 d.more.length dc0, .slice da1 d.gone.length dc1, .slice da2 d.grow.length dc2, .slice da3 d.ungrow.length dc3, .slice da4 d.shrink.length dc4, .slice da5 d.unshrink.length dc5] 32) := ⟨_, rfl⟩
  have HBOX : Hid (Blk wA w.heap.size #[.slice da0 d.more.length dc0, .slice da1 d.gone.length dc1, .slice da2 d.grow.length dc2, .slice da3 d.ungrow.length dc3, .slice da4 d.shrink.length dc4, .slice da5 d.unshrink.length dc5]) := Lib.hid (by rw [hA]; exact Blk.new w _ _)
  have HLOW : Hid (Below w.heap.size w wA) := Lib.hid (by rw [hA]; exact (Below.refl _ _).alloc (Nat.le_refl _) _)
  have hAs : w.heap.size < wA.heap.size := by rw [hA]; simp
  have DE := Lib.hid (show d.lines = lnS mk0 d.gone ++ lnS mk1 d.more ++ lnR mk2 d.ungrow ++ lnR mk3 d.grow ++ lnR mk4 d.unshrink ++ lnR mk5 d.shrink from rfl)
  generalize d.lines = dl at DE ⊢
  clear hd hk
  go_enter Tryz.func18, Tryz.ntmps18
  go_wp2_with fail
  rw [← hA]
  have HB := Lib.hid (Below.refl wA.heap.size wA)
  have HO : Hid (wA.ownsRow wA.heap.size 9 1 (.slice none 0 0) ([] : List ByteArray).length (strs [])) := Lib.hid (World.ownsRow_nil _ _ _ _)
  obtain ⟨p0, hp0⟩ : ∃ p : List ByteArray, p = [] := ⟨_, rfl⟩
  rw [← hp0] at HO
  have HP0 := Lib.hid hp0
  have hl0 : p0.length ≤ 0 := by rw [hp0]; simp
  clear hp0 hA
  go_loopw [3, 19] (fun vo i wr => ∃ (k : Nat) (ss : List ByteArray), k ≤ d.gone.length ∧ i = .int .i64 k ∧ Hid (ss = p0 ++ lnS mk0 (d.gone.take k)) ∧ Hid (Below wA.heap.size wA wr) ∧ Hid (wr.ownsRow wA.heap.size 9 1 vo ss.length (strs ss))) (fun _ i _ => d.gone.length - (intOf i).toNat)
  case atStart => exact ⟨0, p0, by omega, rfl, Lib.hid (by simp [lnS]), HB, HO⟩
  case round =>
    clear HB HO
    obtain ⟨k, ss, hk, rfl, HS, HB, HO⟩ := hrel
    obtain ⟨oo, oc, rfl⟩ := own_form HO.out
    have hss : ss.length ≤ 300 := by rw [HS.out]; have := lnS_len mk0 p0 d.gone k; omega
    by_cases hlt : k < d.gone.length
    · obtain ⟨b1, o1, c1, he1, hc1, hm1, hb1, hx1⟩ := HD.out.a1.pos (by omega)
      simp only [Value.slice.injEq, true_and] at he1
      obtain ⟨rfl, rfl⟩ := he1
      have hlow := HLOW.out.trans (HB.out.mono HLOW.out.size)
      obtain ⟨p0', p1', p2', p3', p4', p5', p6', p7', p8'⟩ := st_cell (w := wr) (fun j u hu => (hlow.cell (p := ⟨b1, o1 + j, none⟩) hb1).trans (hx1 j u hu)) k hlt
      have hbr : b1 < wr.heap.size := Nat.lt_of_lt_of_le hb1 hlow.size
      have hle := HK.out.t1 _ (List.getElem_mem hlt)
      have PR := Lib.hid (fun W => ref3_Print d.gone[k] W hle)
      have htx := printS_big _ hle
      have HN := Lib.hid (lnS_more mk0 p0 hlt)
      generalize printS d.gone[k] = tx at PR htx HN
      have hek : d.gone[k] = ⟨d.gone[k].k, ⟨d.gone[k].h.o, d.gone[k].h.n⟩, d.gone[k].who, ⟨d.gone[k].a.o, d.gone[k].a.n⟩, ⟨d.gone[k].b.o, d.gone[k].b.n⟩, d.gone[k].via⟩ := rfl
      clear hx1 hle hlow
      generalize d.gone[k] = x at *
      obtain ⟨xk, ⟨x1, x2⟩, xw, ⟨x3, x4⟩, ⟨x5, x6⟩, xv⟩ := x
      clear hek
      go_wp2_with fail
      refine (PR.out _).mono ?_
      rintro e w2 ⟨rfl, hb2⟩
      have HB2 := Lib.hid ((HB.out.alloc HB.out.size (.cells #[.int .i64 xk, .string x1, .string x2, .string xw, .string x3, .string x4, .string x5, .string x6, .string xv] 52)).trans (hb2.mono (HB.out.alloc HB.out.size (.cells #[.int .i64 xk, .string x1, .string x2, .string xw, .string x3, .string x4, .string x5, .string x6, .string xv] 52)).size))
      have HO2 := Lib.hid (own_below (own_below HO.out ((Below.refl _ _).alloc (Nat.le_refl _) _)) hb2)
      have hz2 := HB2.out.size
      clear hb2
      have hown := HO2.out
      go_wp2_with (at_builtin; refine halt_ ?_)
      unfold Halt_
      refine app_own Tryz.underlying41 str_info rfl (by decide) (by decide) rfl _ _ rfl wA.heap.size rfl (hown.alloc _) [.string (mk0 ++ tx)] rfl (heap_new1 _ _) rfl (str1 _) ?_ ?_ ?_
      · omega
      · simp; omega
      intro a' cap' w3 hown' hgrow
      obtain ⟨q1, q2⟩ := own_push (x := mk0 ++ tx) HB2.out hown hown' hgrow
      have HO3 := Lib.hid q1
      have HB3 := Lib.hid q2
      clear hown hown' hgrow q1 q2
      go_wp2_with fail
      refine ⟨⟨k + 1, ss ++ [mk0 ++ tx], by omega, by go_num, Lib.hid (by rw [HN.out, HS.out]), HB3, ?_⟩, by simp [intOf]; omega⟩
      rw [List.length_append] at HO3 ⊢
      exact HO3
    · have HP1 := Lib.hid (show ss = p0 ++ lnS mk0 d.gone by have h := HS.out; rwa [List.take_of_length_le (by omega)] at h)
      obtain ⟨ca, fa, za⟩ := HBOX.out.below HB.out
      have hl1 : ss.length ≤ 300 := hss
      generalize ss = p1 at *
      clear HS hss
      go_wp2_with fail
      clear ca fa za hlt hk
      go_loopw [3, 33] (fun vo i wr => ∃ (k : Nat) (ss : List ByteArray), k ≤ d.more.length ∧ i = .int .i64 k ∧ Hid (ss = p1 ++ lnS mk1 (d.more.take k)) ∧ Hid (Below wA.heap.size wA wr) ∧ Hid (wr.ownsRow wA.heap.size 9 1 vo ss.length (strs ss))) (fun _ i _ => d.more.length - (intOf i).toNat)
      case atStart => exact ⟨0, p1, by omega, rfl, Lib.hid (by simp [lnS]), HB, HO⟩
      case round =>
        clear HB HO
        obtain ⟨k, ss, hk, rfl, HS, HB, HO⟩ := hrel
        obtain ⟨oo, oc, rfl⟩ := own_form HO.out
        have hss : ss.length ≤ 600 := by rw [HS.out]; have := lnS_len mk1 p1 d.more k; omega
        by_cases hlt : k < d.more.length
        · obtain ⟨b1, o1, c1, he1, hc1, hm1, hb1, hx1⟩ := HD.out.a0.pos (by omega)
          simp only [Value.slice.injEq, true_and] at he1
          obtain ⟨rfl, rfl⟩ := he1
          have hlow := HLOW.out.trans (HB.out.mono HLOW.out.size)
          obtain ⟨p0', p1', p2', p3', p4', p5', p6', p7', p8'⟩ := st_cell (w := wr) (fun j u hu => (hlow.cell (p := ⟨b1, o1 + j, none⟩) hb1).trans (hx1 j u hu)) k hlt
          have hbr : b1 < wr.heap.size := Nat.lt_of_lt_of_le hb1 hlow.size
          have hle := HK.out.t0 _ (List.getElem_mem hlt)
          have PR := Lib.hid (fun W => ref3_Print d.more[k] W hle)
          have htx := printS_big _ hle
          have HN := Lib.hid (lnS_more mk1 p1 hlt)
          generalize printS d.more[k] = tx at PR htx HN
          have hek : d.more[k] = ⟨d.more[k].k, ⟨d.more[k].h.o, d.more[k].h.n⟩, d.more[k].who, ⟨d.more[k].a.o, d.more[k].a.n⟩, ⟨d.more[k].b.o, d.more[k].b.n⟩, d.more[k].via⟩ := rfl
          clear hx1 hle hlow
          generalize d.more[k] = x at *
          obtain ⟨xk, ⟨x1, x2⟩, xw, ⟨x3, x4⟩, ⟨x5, x6⟩, xv⟩ := x
          clear hek
          go_wp2_with fail
          refine (PR.out _).mono ?_
          rintro e w2 ⟨rfl, hb2⟩
          have HB2 := Lib.hid ((HB.out.alloc HB.out.size (.cells #[.int .i64 xk, .string x1, .string x2, .string xw, .string x3, .string x4, .string x5, .string x6, .string xv] 52)).trans (hb2.mono (HB.out.alloc HB.out.size (.cells #[.int .i64 xk, .string x1, .string x2, .string xw, .string x3, .string x4, .string x5, .string x6, .string xv] 52)).size))
          have HO2 := Lib.hid (own_below (own_below HO.out ((Below.refl _ _).alloc (Nat.le_refl _) _)) hb2)
          have hz2 := HB2.out.size
          clear hb2
          have hown := HO2.out
          go_wp2_with (at_builtin; refine halt_ ?_)
          unfold Halt_
          refine app_own Tryz.underlying41 str_info rfl (by decide) (by decide) rfl _ _ rfl wA.heap.size rfl (hown.alloc _) [.string (mk1 ++ tx)] rfl (heap_new1 _ _) rfl (str1 _) ?_ ?_ ?_
          · omega
          · simp; omega
          intro a' cap' w3 hown' hgrow
          obtain ⟨q1, q2⟩ := own_push (x := mk1 ++ tx) HB2.out hown hown' hgrow
          have HO3 := Lib.hid q1
          have HB3 := Lib.hid q2
          clear hown hown' hgrow q1 q2
          go_wp2_with fail
          refine ⟨⟨k + 1, ss ++ [mk1 ++ tx], by omega, by go_num, Lib.hid (by rw [HN.out, HS.out]), HB3, ?_⟩, by simp [intOf]; omega⟩
          rw [List.length_append] at HO3 ⊢
          exact HO3
        · have HP2 := Lib.hid (show ss = p1 ++ lnS mk1 d.more by have h := HS.out; rwa [List.take_of_length_le (by omega)] at h)
          obtain ⟨ca, fa, za⟩ := HBOX.out.below HB.out
          have hl2 : ss.length ≤ 600 := hss
          generalize ss = p2 at *
          clear HS hss
          go_wp2_with fail
          clear ca fa za hlt hk
          go_loopw [3, 47] (fun vo i wr => ∃ (k : Nat) (ss : List ByteArray), k ≤ d.ungrow.length ∧ i = .int .i64 k ∧ Hid (ss = p2 ++ lnR mk2 (d.ungrow.take k)) ∧ Hid (Below wA.heap.size wA wr) ∧ Hid (wr.ownsRow wA.heap.size 9 1 vo ss.length (strs ss))) (fun _ i _ => d.ungrow.length - (intOf i).toNat)
          case atStart => exact ⟨0, p2, by omega, rfl, Lib.hid (by simp [lnR]), HB, HO⟩
          case round =>
            clear HB HO
            obtain ⟨k, ss, hk, rfl, HS, HB, HO⟩ := hrel
            obtain ⟨oo, oc, rfl⟩ := own_form HO.out
            have hss : ss.length ≤ 900 := by rw [HS.out]; have := lnR_len mk2 p2 d.ungrow k; omega
            by_cases hlt : k < d.ungrow.length
            · obtain ⟨b1, o1, c1, he1, hc1, hm1, hb1, hx1⟩ := HD.out.a3.pos (by omega)
              simp only [Value.slice.injEq, true_and] at he1
              obtain ⟨rfl, rfl⟩ := he1
              have hlow := HLOW.out.trans (HB.out.mono HLOW.out.size)
              obtain ⟨p0', p1'⟩ := rl_cell (w := wr) (fun j u hu => (hlow.cell (p := ⟨b1, o1 + j, none⟩) hb1).trans (hx1 j u hu)) k hlt
              have hbr : b1 < wr.heap.size := Nat.lt_of_lt_of_le hb1 hlow.size
              have hle := HK.out.t3 _ (List.getElem_mem hlt)
              have PR := Lib.hid (fun W => ref3_Role d.ungrow[k] W hle)
              have htx := roleT_big _ hle
              have HN := Lib.hid (lnR_more mk2 p2 hlt)
              generalize roleT d.ungrow[k] = tx at PR htx HN
              clear hx1 hle hlow
              generalize d.ungrow[k] = x at *
              obtain ⟨x1, x2⟩ := x
              go_wp2_with fail
              refine (PR.out _).mono ?_
              rintro e w2 ⟨rfl, hb2⟩
              have HB2 := Lib.hid ((HB.out.alloc HB.out.size (.cells #[.string x1, .string x2] 50)).trans (hb2.mono (HB.out.alloc HB.out.size (.cells #[.string x1, .string x2] 50)).size))
              have HO2 := Lib.hid (own_below (own_below HO.out ((Below.refl _ _).alloc (Nat.le_refl _) _)) hb2)
              have hz2 := HB2.out.size
              clear hb2
              have hown := HO2.out
              go_wp2_with (at_builtin; refine halt_ ?_)
              unfold Halt_
              refine app_own Tryz.underlying41 str_info rfl (by decide) (by decide) rfl _ _ rfl wA.heap.size rfl (hown.alloc _) [.string (mk2 ++ tx)] rfl (heap_new1 _ _) rfl (str1 _) ?_ ?_ ?_
              · omega
              · simp; omega
              intro a' cap' w3 hown' hgrow
              obtain ⟨q1, q2⟩ := own_push (x := mk2 ++ tx) HB2.out hown hown' hgrow
              have HO3 := Lib.hid q1
              have HB3 := Lib.hid q2
              clear hown hown' hgrow q1 q2
              go_wp2_with fail
              refine ⟨⟨k + 1, ss ++ [mk2 ++ tx], by omega, by go_num, Lib.hid (by rw [HN.out, HS.out]), HB3, ?_⟩, by simp [intOf]; omega⟩
              rw [List.length_append] at HO3 ⊢
              exact HO3
            · have HP3 := Lib.hid (show ss = p2 ++ lnR mk2 d.ungrow by have h := HS.out; rwa [List.take_of_length_le (by omega)] at h)
              obtain ⟨ca, fa, za⟩ := HBOX.out.below HB.out
              have hl3 : ss.length ≤ 900 := hss
              generalize ss = p3 at *
              clear HS hss
              go_wp2_with fail
              clear ca fa za hlt hk
              go_loopw [3, 61] (fun vo i wr => ∃ (k : Nat) (ss : List ByteArray), k ≤ d.grow.length ∧ i = .int .i64 k ∧ Hid (ss = p3 ++ lnR mk3 (d.grow.take k)) ∧ Hid (Below wA.heap.size wA wr) ∧ Hid (wr.ownsRow wA.heap.size 9 1 vo ss.length (strs ss))) (fun _ i _ => d.grow.length - (intOf i).toNat)
              case atStart => exact ⟨0, p3, by omega, rfl, Lib.hid (by simp [lnR]), HB, HO⟩
              case round =>
                clear HB HO
                obtain ⟨k, ss, hk, rfl, HS, HB, HO⟩ := hrel
                obtain ⟨oo, oc, rfl⟩ := own_form HO.out
                have hss : ss.length ≤ 1200 := by rw [HS.out]; have := lnR_len mk3 p3 d.grow k; omega
                by_cases hlt : k < d.grow.length
                · obtain ⟨b1, o1, c1, he1, hc1, hm1, hb1, hx1⟩ := HD.out.a2.pos (by omega)
                  simp only [Value.slice.injEq, true_and] at he1
                  obtain ⟨rfl, rfl⟩ := he1
                  have hlow := HLOW.out.trans (HB.out.mono HLOW.out.size)
                  obtain ⟨p0', p1'⟩ := rl_cell (w := wr) (fun j u hu => (hlow.cell (p := ⟨b1, o1 + j, none⟩) hb1).trans (hx1 j u hu)) k hlt
                  have hbr : b1 < wr.heap.size := Nat.lt_of_lt_of_le hb1 hlow.size
                  have hle := HK.out.t2 _ (List.getElem_mem hlt)
                  have PR := Lib.hid (fun W => ref3_Role d.grow[k] W hle)
                  have htx := roleT_big _ hle
                  have HN := Lib.hid (lnR_more mk3 p3 hlt)
                  generalize roleT d.grow[k] = tx at PR htx HN
                  clear hx1 hle hlow
                  generalize d.grow[k] = x at *
                  obtain ⟨x1, x2⟩ := x
                  go_wp2_with fail
                  refine (PR.out _).mono ?_
                  rintro e w2 ⟨rfl, hb2⟩
                  have HB2 := Lib.hid ((HB.out.alloc HB.out.size (.cells #[.string x1, .string x2] 50)).trans (hb2.mono (HB.out.alloc HB.out.size (.cells #[.string x1, .string x2] 50)).size))
                  have HO2 := Lib.hid (own_below (own_below HO.out ((Below.refl _ _).alloc (Nat.le_refl _) _)) hb2)
                  have hz2 := HB2.out.size
                  clear hb2
                  have hown := HO2.out
                  go_wp2_with (at_builtin; refine halt_ ?_)
                  unfold Halt_
                  refine app_own Tryz.underlying41 str_info rfl (by decide) (by decide) rfl _ _ rfl wA.heap.size rfl (hown.alloc _) [.string (mk3 ++ tx)] rfl (heap_new1 _ _) rfl (str1 _) ?_ ?_ ?_
                  · omega
                  · simp; omega
                  intro a' cap' w3 hown' hgrow
                  obtain ⟨q1, q2⟩ := own_push (x := mk3 ++ tx) HB2.out hown hown' hgrow
                  have HO3 := Lib.hid q1
                  have HB3 := Lib.hid q2
                  clear hown hown' hgrow q1 q2
                  go_wp2_with fail
                  refine ⟨⟨k + 1, ss ++ [mk3 ++ tx], by omega, by go_num, Lib.hid (by rw [HN.out, HS.out]), HB3, ?_⟩, by simp [intOf]; omega⟩
                  rw [List.length_append] at HO3 ⊢
                  exact HO3
                · have HP4 := Lib.hid (show ss = p3 ++ lnR mk3 d.grow by have h := HS.out; rwa [List.take_of_length_le (by omega)] at h)
                  obtain ⟨ca, fa, za⟩ := HBOX.out.below HB.out
                  have hl4 : ss.length ≤ 1200 := hss
                  generalize ss = p4 at *
                  clear HS hss
                  go_wp2_with fail
                  clear ca fa za hlt hk
                  go_loopw [3, 75] (fun vo i wr => ∃ (k : Nat) (ss : List ByteArray), k ≤ d.unshrink.length ∧ i = .int .i64 k ∧ Hid (ss = p4 ++ lnR mk4 (d.unshrink.take k)) ∧ Hid (Below wA.heap.size wA wr) ∧ Hid (wr.ownsRow wA.heap.size 9 1 vo ss.length (strs ss))) (fun _ i _ => d.unshrink.length - (intOf i).toNat)
                  case atStart => exact ⟨0, p4, by omega, rfl, Lib.hid (by simp [lnR]), HB, HO⟩
                  case round =>
                    clear HB HO
                    obtain ⟨k, ss, hk, rfl, HS, HB, HO⟩ := hrel
                    obtain ⟨oo, oc, rfl⟩ := own_form HO.out
                    have hss : ss.length ≤ 1500 := by rw [HS.out]; have := lnR_len mk4 p4 d.unshrink k; omega
                    by_cases hlt : k < d.unshrink.length
                    · obtain ⟨b1, o1, c1, he1, hc1, hm1, hb1, hx1⟩ := HD.out.a5.pos (by omega)
                      simp only [Value.slice.injEq, true_and] at he1
                      obtain ⟨rfl, rfl⟩ := he1
                      have hlow := HLOW.out.trans (HB.out.mono HLOW.out.size)
                      obtain ⟨p0', p1'⟩ := rl_cell (w := wr) (fun j u hu => (hlow.cell (p := ⟨b1, o1 + j, none⟩) hb1).trans (hx1 j u hu)) k hlt
                      have hbr : b1 < wr.heap.size := Nat.lt_of_lt_of_le hb1 hlow.size
                      have hle := HK.out.t5 _ (List.getElem_mem hlt)
                      have PR := Lib.hid (fun W => ref3_Role d.unshrink[k] W hle)
                      have htx := roleT_big _ hle
                      have HN := Lib.hid (lnR_more mk4 p4 hlt)
                      generalize roleT d.unshrink[k] = tx at PR htx HN
                      clear hx1 hle hlow
                      generalize d.unshrink[k] = x at *
                      obtain ⟨x1, x2⟩ := x
                      go_wp2_with fail
                      refine (PR.out _).mono ?_
                      rintro e w2 ⟨rfl, hb2⟩
                      have HB2 := Lib.hid ((HB.out.alloc HB.out.size (.cells #[.string x1, .string x2] 50)).trans (hb2.mono (HB.out.alloc HB.out.size (.cells #[.string x1, .string x2] 50)).size))
                      have HO2 := Lib.hid (own_below (own_below HO.out ((Below.refl _ _).alloc (Nat.le_refl _) _)) hb2)
                      have hz2 := HB2.out.size
                      clear hb2
                      have hown := HO2.out
                      go_wp2_with (at_builtin; refine halt_ ?_)
                      unfold Halt_
                      refine app_own Tryz.underlying41 str_info rfl (by decide) (by decide) rfl _ _ rfl wA.heap.size rfl (hown.alloc _) [.string (mk4 ++ tx)] rfl (heap_new1 _ _) rfl (str1 _) ?_ ?_ ?_
                      · omega
                      · simp; omega
                      intro a' cap' w3 hown' hgrow
                      obtain ⟨q1, q2⟩ := own_push (x := mk4 ++ tx) HB2.out hown hown' hgrow
                      have HO3 := Lib.hid q1
                      have HB3 := Lib.hid q2
                      clear hown hown' hgrow q1 q2
                      go_wp2_with fail
                      refine ⟨⟨k + 1, ss ++ [mk4 ++ tx], by omega, by go_num, Lib.hid (by rw [HN.out, HS.out]), HB3, ?_⟩, by simp [intOf]; omega⟩
                      rw [List.length_append] at HO3 ⊢
                      exact HO3
                    · have HP5 := Lib.hid (show ss = p4 ++ lnR mk4 d.unshrink by have h := HS.out; rwa [List.take_of_length_le (by omega)] at h)
                      obtain ⟨ca, fa, za⟩ := HBOX.out.below HB.out
                      have hl5 : ss.length ≤ 1500 := hss
                      generalize ss = p5 at *
                      clear HS hss
                      go_wp2_with fail
                      clear ca fa za hlt hk
                      go_loopw [3, 89] (fun vo i wr => ∃ (k : Nat) (ss : List ByteArray), k ≤ d.shrink.length ∧ i = .int .i64 k ∧ Hid (ss = p5 ++ lnR mk5 (d.shrink.take k)) ∧ Hid (Below wA.heap.size wA wr) ∧ Hid (wr.ownsRow wA.heap.size 9 1 vo ss.length (strs ss))) (fun _ i _ => d.shrink.length - (intOf i).toNat)
                      case atStart => exact ⟨0, p5, by omega, rfl, Lib.hid (by simp [lnR]), HB, HO⟩
                      case round =>
                        clear HB HO
                        obtain ⟨k, ss, hk, rfl, HS, HB, HO⟩ := hrel
                        obtain ⟨oo, oc, rfl⟩ := own_form HO.out
                        have hss : ss.length ≤ 1800 := by rw [HS.out]; have := lnR_len mk5 p5 d.shrink k; omega
                        by_cases hlt : k < d.shrink.length
                        · obtain ⟨b1, o1, c1, he1, hc1, hm1, hb1, hx1⟩ := HD.out.a4.pos (by omega)
                          simp only [Value.slice.injEq, true_and] at he1
                          obtain ⟨rfl, rfl⟩ := he1
                          have hlow := HLOW.out.trans (HB.out.mono HLOW.out.size)
                          obtain ⟨p0', p1'⟩ := rl_cell (w := wr) (fun j u hu => (hlow.cell (p := ⟨b1, o1 + j, none⟩) hb1).trans (hx1 j u hu)) k hlt
                          have hbr : b1 < wr.heap.size := Nat.lt_of_lt_of_le hb1 hlow.size
                          have hle := HK.out.t4 _ (List.getElem_mem hlt)
                          have PR := Lib.hid (fun W => ref3_Role d.shrink[k] W hle)
                          have htx := roleT_big _ hle
                          have HN := Lib.hid (lnR_more mk5 p5 hlt)
                          generalize roleT d.shrink[k] = tx at PR htx HN
                          clear hx1 hle hlow
                          generalize d.shrink[k] = x at *
                          obtain ⟨x1, x2⟩ := x
                          go_wp2_with fail
                          refine (PR.out _).mono ?_
                          rintro e w2 ⟨rfl, hb2⟩
                          have HB2 := Lib.hid ((HB.out.alloc HB.out.size (.cells #[.string x1, .string x2] 50)).trans (hb2.mono (HB.out.alloc HB.out.size (.cells #[.string x1, .string x2] 50)).size))
                          have HO2 := Lib.hid (own_below (own_below HO.out ((Below.refl _ _).alloc (Nat.le_refl _) _)) hb2)
                          have hz2 := HB2.out.size
                          clear hb2
                          have hown := HO2.out
                          go_wp2_with (at_builtin; refine halt_ ?_)
                          unfold Halt_
                          refine app_own Tryz.underlying41 str_info rfl (by decide) (by decide) rfl _ _ rfl wA.heap.size rfl (hown.alloc _) [.string (mk5 ++ tx)] rfl (heap_new1 _ _) rfl (str1 _) ?_ ?_ ?_
                          · omega
                          · simp; omega
                          intro a' cap' w3 hown' hgrow
                          obtain ⟨q1, q2⟩ := own_push (x := mk5 ++ tx) HB2.out hown hown' hgrow
                          have HO3 := Lib.hid q1
                          have HB3 := Lib.hid q2
                          clear hown hown' hgrow q1 q2
                          go_wp2_with fail
                          refine ⟨⟨k + 1, ss ++ [mk5 ++ tx], by omega, by go_num, Lib.hid (by rw [HN.out, HS.out]), HB3, ?_⟩, by simp [intOf]; omega⟩
                          rw [List.length_append] at HO3 ⊢
                          exact HO3
                        · have HP6 := Lib.hid (show ss = p5 ++ lnR mk5 d.shrink by have h := HS.out; rwa [List.take_of_length_le (by omega)] at h)
                          obtain ⟨ca, fa, za⟩ := HBOX.out.below HB.out
                          have hl6 : ss.length ≤ 1800 := hss
                          generalize ss = p6 at *
                          clear HS hss
                          have HS := Lib.hid (Sl.of_own HO.out)
                          have HE := Lib.hid (show p6 = dl by rw [DE.out, HP6.out, HP5.out, HP4.out, HP3.out, HP2.out, HP1.out, HP0.out]; rfl)
                          go_wp2
                          go_ret
                          exact ⟨_, rfl, by rw [← HE.out]; exact HS.out, HLOW.out.trans (HB.out.mono HLOW.out.size)⟩
end Go.Proofs.YtmpanikeeeoikaaGreat
