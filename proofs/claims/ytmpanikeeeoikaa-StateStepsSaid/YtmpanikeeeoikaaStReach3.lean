/- The reference's Reaches. -/
import Derived.Test.YtmpanikeeeoikaaStReach2
namespace Go.Proofs.Ytmpanikeeeoikaa
open Go.RowKit Go.Shelf

set_option maxRecDepth 100000 in
set_option maxHeartbeats 4000000 in
theorem ref10_Reaches (v0 v1 v2 v3 vc : Value) (l m : List St) (g h : List Rl) (qs : List Qv) (w : World) (hp : PolAt w v0 v1 v2 v3 l g h qs) (hc : SlA w 9 vc m.length (m.flatMap St.cells)) (hm : allLe m 4294967) :
    Calls Try.prog 12 #[pv v0 v1 v2 v3, vc] w fun e w' => e = .returned (.bool (reachS l g h m)) ∧ Below w.heap.size w w' := by
  have HP := Lib.hid hp
  have HC := Lib.hid hc
  have hmaxm := hc.max
  have hmaxl := hp.rs.max
  obtain ⟨a0, c0, rfl⟩ := hp.rs.form
  obtain ⟨a1, c1, rfl⟩ := hp.rg.form
  obtain ⟨a2, c2, rfl⟩ := hp.rh.form
  obtain ⟨a3, c3, rfl⟩ := hp.rq.form
  obtain ⟨ac, cc, rfl⟩ := hc.form
  have HT := Lib.hid (show OneAt w #[.slice a0 l.length c0, .slice a1 g.length c1, .slice a2 h.length c2, .slice a3 qs.length c3] (w.alloc (.cells #[.slice a0 l.length c0, .slice a1 g.length c1, .slice a2 h.length c2, .slice a3 qs.length c3] 26)) from ⟨Blk.new w _ _, (Below.refl _ _).alloc (Nat.le_refl _) _⟩)
  have RI := Lib.hid (fun k (hk : k < m.length) W => ref3_Right m[k] W (hm _ (List.getElem_mem hk)))
  have SI := Lib.hid (fun x W (hb : Below w.heap.size w W) => ref3_Has (.slice a0 l.length c0) l x W (hp.rs.below hb))
  have MI := Lib.hid (fun k (hk : k < m.length) W (hb : Below w.heap.size w W) => ref5_Has (.slice a1 g.length c1) g m[k].h W (hp.rg.below hb))
  have EN := Lib.hid (fun k (hk : k < m.length) (h : cOk l g m[k] = false) => all_no hk h)
  have EE := Lib.hid (fun (h : ∀ j (hj : j < m.length), cOk l g m[j] = true) => all_end' h)
  have HH := Lib.hid (fun x W (hb : Below w.heap.size w W) => ref5_Has (.slice a2 h.length c2) h x W (hp.rh.below hb))
  have HM := Lib.hid (fun x W (hb : Below w.heap.size w W) => ref3_Has (.slice ac m.length cc) m x W (hc.below hb))
  have NY := Lib.hid (fun k (hk : k < l.length) (hh : stays h m l[k] = true) => any_yes hk hh)
  have NE := Lib.hid (fun (hh : ∀ j (hj : j < l.length), stays h m l[j] = false) => any_end hh)
  unfold reachS
  generalize m.all (cOk l g) = r1 at EN EE ⊢
  generalize l.any (stays h m) = r2 at NY NE ⊢
  clear hp hc hm
  go_enter Try.func12, Try.ntmps12
  go_wp2_with fail
  go_loopw [11] (fun i wr => ∃ k : Nat, k ≤ m.length ∧ i = .int .i64 k ∧ Hid (OneAt w #[.slice a0 l.length c0, .slice a1 g.length c1, .slice a2 h.length c2, .slice a3 qs.length c3] wr) ∧ Hid (∀ j (hj : j < m.length), j < k → cOk l g m[j] = true)) (fun i _ => m.length - (intOf i).toNat)
  case atStart => exact ⟨0, by omega, rfl, HT, Lib.hid (fun _ _ h => absurd h (by omega))⟩
  case round =>
    clear HT
    obtain ⟨k, hk, rfl, HT, HJ⟩ := hrel
    by_cases hlt : k < m.length
    · obtain ⟨b1, o1, e1, he1, hc1, hm1, hb1, hx1⟩ := HC.out.pos (by omega)
      simp only [Value.slice.injEq, true_and] at he1
      obtain ⟨rfl, rfl⟩ := he1
      obtain ⟨p0, p1, p2, p3, p4, p5, p6, p7, p8⟩ := st_cell (w := wr) (fun j u hu => (HT.out.low.cell (p := ⟨b1, o1 + j, none⟩) hb1).trans (hx1 j u hu)) k hlt
      have hbr : b1 < wr.heap.size := Nat.lt_of_lt_of_le hb1 HT.out.low.size
      have RK := Lib.hid (fun W => RI.out k hlt W)
      have SK := Lib.hid (fun W hb => SI.out m[k] W hb)
      have MK := Lib.hid (fun W hb => MI.out k hlt W hb)
      have ENk := Lib.hid (fun h => EN.out k hlt h)
      have K1 := Lib.hid (fun (hh : rightS m[k] = false) => cOk_no1 (l := l) (g := g) hh)
      have K2 := Lib.hid (fun (hh : rightS m[k] = true) => cOk_eq (l := l) (g := g) hh)
      have HJ2 : Hid (cOk l g m[k] = true → ∀ j (hj : j < m.length), j < k + 1 → cOk l g m[j] = true) := Lib.hid (fun hpk j hj hjk => by
        by_cases h : j < k
        · exact HJ.out j hj h
        · obtain rfl : j = k := by omega
          exact hpk)
      have hek : m[k] = ⟨m[k].k, ⟨m[k].h.o, m[k].h.n⟩, m[k].who, ⟨m[k].a.o, m[k].a.n⟩, ⟨m[k].b.o, m[k].b.n⟩, m[k].via⟩ := rfl
      clear hx1
      generalize cOk l g m[k] = ck at ENk K1 K2 HJ2
      generalize m[k] = x at *
      obtain ⟨xk, ⟨x1, x2⟩, xw, ⟨x3, x4⟩, ⟨x5, x6⟩, xv⟩ := x
      clear hek
      generalize rightS ⟨xk, ⟨x1, x2⟩, xw, ⟨x3, x4⟩, ⟨x5, x6⟩, xv⟩ = rr at RK MK K1 K2
      generalize hasS l ⟨xk, ⟨x1, x2⟩, xw, ⟨x3, x4⟩, ⟨x5, x6⟩, xv⟩ = rs at SK K2
      generalize hasR g _ = rg at MK K2
      have HT1 := Lib.hid (HT.out.alloc (.cells #[.int .i64 xk, .string x1, .string x2, .string xw, .string x3, .string x4, .string x5, .string x6, .string xv] 30))
      have HBK := Lib.hid (Blk.new wr #[.int .i64 xk, .string x1, .string x2, .string xw, .string x3, .string x4, .string x5, .string x6, .string xv] 30)
      go_wp2_with fail
      refine (RK.out _).mono ?_
      rintro e w2 ⟨rfl, hb2⟩
      have HT2 := Lib.hid (HT1.out.later hb2)
      have HBK2 := Lib.hid (HBK.out.below hb2)
      obtain ⟨ca, fa, za⟩ := HT2.out.a
      obtain ⟨cx, fx, zx⟩ := HBK2.out
      clear hb2
      cases rr with
      | false =>
        have R := Lib.hid (ENk.out (K1.out rfl))
        go_wp2
        go_ret
        exact ⟨ret_b (by rw [R.out]; rfl), HT2.out.low⟩
      | true =>
        have K3 := Lib.hid (K2.out rfl)
        clear K1 K2
        go_wp2_with fail
        refine (SK.out _ HT2.out.low).mono ?_
        rintro e w3 ⟨rfl, hb3⟩
        have HT3 := Lib.hid (HT2.out.later hb3)
        have HBK3 := Lib.hid (HBK2.out.below hb3)
        obtain ⟨ca, fa, za⟩ := HT3.out.a
        obtain ⟨cx, fx, zx⟩ := HBK3.out
        clear hb3
        cases rs with
        | true =>
          have HJ3 := Lib.hid (HJ2.out (by rw [K3.out]; rfl))
          go_wp2
          exact ⟨⟨k + 1, by omega, by go_num, HT3, HJ3⟩, by simp [intOf]; omega⟩
        | false =>
          go_wp2_with fail
          refine (MK.out _ HT3.out.low).mono ?_
          rintro e w4 ⟨rfl, hb4⟩
          have HT4 := Lib.hid (HT3.out.later hb4)
          clear hb4
          cases rg with
          | true =>
            have R := Lib.hid (ENk.out (by rw [K3.out]; rfl))
            go_wp2
            go_ret
            exact ⟨ret_b (by rw [R.out]; rfl), HT4.out.low⟩
          | false =>
            have HJ3 := Lib.hid (HJ2.out (by rw [K3.out]; rfl))
            go_wp2
            exact ⟨⟨k + 1, by omega, by go_num, HT4, HJ3⟩, by simp [intOf]; omega⟩
    · have R := Lib.hid (EE.out (fun j hj => HJ.out j hj (by omega)))
      obtain ⟨ca, fa, za⟩ := HT.out.a
      clear EN EE RI SI MI HJ
      go_wp2_with fail
      clear ca fa za
      go_loopw [34] (fun i wr => ∃ k : Nat, k ≤ l.length ∧ i = .int .i64 k ∧ Hid (OneAt w #[.slice a0 l.length c0, .slice a1 g.length c1, .slice a2 h.length c2, .slice a3 qs.length c3] wr) ∧ Hid (∀ j (hj : j < l.length), j < k → stays h m l[j] = false)) (fun i _ => l.length - (intOf i).toNat)
      case atStart => exact ⟨0, by omega, rfl, HT, Lib.hid (fun _ _ h => absurd h (by omega))⟩
      case round =>
        clear HT
        obtain ⟨k, hk, rfl, HT, HJ⟩ := hrel
        by_cases hlt : k < l.length
        · obtain ⟨b1, o1, e1, he1, hc1, hm1, hb1, hx1⟩ := HP.out.rs.pos (by omega)
          simp only [Value.slice.injEq, true_and] at he1
          obtain ⟨rfl, rfl⟩ := he1
          obtain ⟨p0, p1, p2, p3, p4, p5, p6, p7, p8⟩ := st_cell (w := wr) (fun j u hu => (HT.out.low.cell (p := ⟨b1, o1 + j, none⟩) hb1).trans (hx1 j u hu)) k hlt
          have hbr : b1 < wr.heap.size := Nat.lt_of_lt_of_le hb1 HT.out.low.size
          have HK := Lib.hid (fun W hb => HH.out l[k].h W hb)
          have MK := Lib.hid (fun W hb => HM.out l[k] W hb)
          have NYk := Lib.hid (fun hh => NY.out k hlt hh)
          have ST := Lib.hid (show stays h m l[k] = (hasR h l[k].h && !hasS m l[k]) from rfl)
          have HJ2 : Hid (stays h m l[k] = false → ∀ j (hj : j < l.length), j < k + 1 → stays h m l[j] = false) := Lib.hid (fun hpk j hj hjk => by
            by_cases h : j < k
            · exact HJ.out j hj h
            · obtain rfl : j = k := by omega
              exact hpk)
          have hek : l[k] = ⟨l[k].k, ⟨l[k].h.o, l[k].h.n⟩, l[k].who, ⟨l[k].a.o, l[k].a.n⟩, ⟨l[k].b.o, l[k].b.n⟩, l[k].via⟩ := rfl
          clear hx1
          generalize stays h m l[k] = ck at NYk ST HJ2
          generalize l[k] = x at *
          obtain ⟨xk, ⟨x1, x2⟩, xw, ⟨x3, x4⟩, ⟨x5, x6⟩, xv⟩ := x
          clear hek
          generalize hasS m ⟨xk, ⟨x1, x2⟩, xw, ⟨x3, x4⟩, ⟨x5, x6⟩, xv⟩ = rs at MK ST
          generalize hasR h _ = rh at HK ST
          have HT1 := Lib.hid (HT.out.alloc (.cells #[.int .i64 xk, .string x1, .string x2, .string xw, .string x3, .string x4, .string x5, .string x6, .string xv] 30))
          have HBK := Lib.hid (Blk.new wr #[.int .i64 xk, .string x1, .string x2, .string xw, .string x3, .string x4, .string x5, .string x6, .string xv] 30)
          obtain ⟨ca, fa, za⟩ := HT.out.a
          go_wp2_with fail
          refine (HK.out _ HT1.out.low).mono ?_
          rintro e w2 ⟨rfl, hb2⟩
          have HT2 := Lib.hid (HT1.out.later hb2)
          have HBK2 := Lib.hid (HBK.out.below hb2)
          clear hb2 ca fa za
          cases rh with
          | false =>
            have HJ3 := Lib.hid (HJ2.out (by rw [ST.out]; rfl))
            go_wp2
            exact ⟨⟨k + 1, by omega, by go_num, HT2, HJ3⟩, by simp [intOf]; omega⟩
          | true =>
            obtain ⟨cx, fx, zx⟩ := HBK2.out
            go_wp2_with fail
            refine (MK.out _ HT2.out.low).mono ?_
            rintro e w3 ⟨rfl, hb3⟩
            have HT3 := Lib.hid (HT2.out.later hb3)
            clear hb3 cx fx zx
            cases rs with
            | true =>
              have HJ3 := Lib.hid (HJ2.out (by rw [ST.out]; rfl))
              go_wp2
              exact ⟨⟨k + 1, by omega, by go_num, HT3, HJ3⟩, by simp [intOf]; omega⟩
            | false =>
              have R2 := Lib.hid (NYk.out (by rw [ST.out]; rfl))
              go_wp2
              go_ret
              exact ⟨ret_b (by rw [R.out, R2.out]; rfl), HT3.out.low⟩
        · have R2 := Lib.hid (NE.out (fun j hj => HJ.out j hj (by omega)))
          go_wp2
          go_ret
          exact ⟨ret_b (by rw [R.out, R2.out]; rfl), HT.out.low⟩
end Go.Proofs.Ytmpanikeeeoikaa
