/- report.Read: the lines that are read one by one (printed by gen_repread.py). -/
import Derived.Test.YtomhekohcadijaaGreatDoorPartRF32
import Derived.Test.YtomhekohcadijaaGreatDoorPartRF7
import Derived.Test.YtomhekohcadijaaGreatDoorPartRF35
import Derived.Test.YtomhekohcadijaaGreatDoorPartRF36
import Derived.Test.YtomhekohcadijaaGreatDoorPartRF27
namespace Go.Proofs.YtomhekohcadijaaGreatDoor
open Go.RowKit Go.Shelf

theorem strs_tail {w : World} {b o n c : Nat} {s : ByteArray} {tl : List ByteArray} (hn : n = tl.length + 1) (hc : n ≤ c) (hm : c ≤ 9223372036854775807) (hb : b < w.heap.size) (hx : ∀ j u, (strs (s :: tl))[j]? = some u → w.cell? ⟨b, o + j, none⟩ = some u) :
    SlA w 1 (.slice (some ⟨b, o + 1, none⟩) tl.length (c - 1)) tl.length (strs tl) := by
  refine .inl ⟨by simp [strs], by simp only [maxLen]; omega, .inr ⟨b, o + 1, c - 1, rfl, by omega, by simp only [maxLen]; omega, hb, fun j u hu => ?_⟩⟩
  have := hx (j + 1) u (by simpa [strs] using hu)
  rw [show o + 1 + j = o + (j + 1) by omega]
  exact this
theorem strs_last {w : World} {b o : Nat} {tl : List ByteArray} (h : tl.length = 0) : SlA w 1 (.slice (some ⟨b, o, none⟩) tl.length 0) tl.length (strs tl) := by
  obtain rfl : tl = [] := List.eq_nil_of_length_eq_zero h
  exact .inr ⟨⟨_, _, rfl⟩, rfl, rfl⟩
theorem SlA.kp {X : Nat → Prop} {w w' : World} {size n : Nat} {v : Value} {xs : List Value} (h : SlA w size v n xs) (k : Kp X w w') (hx : ∀ b o c, v = .slice (some ⟨b, o, none⟩) n c → 0 < n → ¬ X b) : SlA w' size v n xs := by
  by_cases h0 : 0 < n
  · obtain ⟨b, o, c, rfl, hc, hm, hb, hxs⟩ := h.pos h0
    have hnx := hx b o c rfl h0
    rcases h with h | ⟨_, h, _⟩
    · exact .inl ⟨h.1, h.2.1, .inr ⟨b, o, c, rfl, hc, by simpa [maxLen] using hm, Nat.lt_of_lt_of_le hb k.size, fun j u hu => by
        have e := k.block b hb hnx
        have := hxs j u hu
        unfold World.cell? at this ⊢
        rw [e]
        exact this⟩⟩
    · omega
  · obtain rfl : n = 0 := by omega
    rcases h with h | h
    · rcases h.2.2 with h2 | ⟨b, o, c, rfl, h3, h4, h5, h6⟩
      · exact .inl ⟨h.1, h.2.1, .inl h2⟩
      · exact .inr ⟨⟨_, _, rfl⟩, rfl, List.eq_nil_of_length_eq_zero (by have := h.1; omega)⟩
    · exact .inr h
theorem Kp.mono {X Y : Nat → Prop} {w w1 : World} (h : Kp X w w1) (hxy : ∀ b, X b → Y b) : Kp Y w w1 := ⟨h.os, h.tape, h.output, h.size, fun k hk hy => h.block k hk (fun hx => hy (hxy k hx))⟩
theorem verdict_stmt : ¬ (56 : TypeId) = 80 := by decide
def WinOf (v : Value) (L : List ByteArray) (v' : Value) (L' : List ByteArray) : Prop := ∀ W, SlA W 1 v L.length (strs L) → SlA W 1 v' L'.length (strs L')
theorem WinOf.trans {u v x : Value} {K L M : List ByteArray} (h : WinOf u K v L) (k : WinOf v L x M) : WinOf u K x M := fun W hW => k W (h W hW)
theorem win_tail (b o c : Nat) (s : ByteArray) (tl : List ByteArray) : WinOf (.slice (some ⟨b, o, none⟩) (tl.length + 1) c) (s :: tl) (.slice (some ⟨b, o + 1, none⟩) tl.length (c - 1)) tl := fun W h => by
  obtain ⟨b', o', c', he, hc, hm, hb, hx⟩ := h.pos (by simp)
  simp only [Value.slice.injEq, Option.some.injEq, Addr.mk.injEq] at he
  obtain ⟨⟨rfl, rfl, _⟩, _, rfl⟩ := he
  exact strs_tail rfl hc hm hb hx
theorem win_last (b o c : Nat) (s : ByteArray) (tl : List ByteArray) (h0 : tl.length = 0) : WinOf (.slice (some ⟨b, o, none⟩) (tl.length + 1) c) (s :: tl) (.slice (some ⟨b, o, none⟩) tl.length 0) tl := fun _ _ => strs_last h0
def NextP (g : Nat) (v : Value) (L : List ByteArray) (w : World) (e : Ending) (w' : World) : Prop :=
  e = .returned (.string (L.headD ⟨#[]⟩)) ∧ ∃ a c, Blk w' g #[.slice a L.tail.length c] ∧ WinOf v L (.slice a L.tail.length c) L.tail ∧ Kp (fun b => b = g) w w'
set_option maxRecDepth 100000 in
set_option maxHeartbeats 4000000 in
theorem rep_next (g : Nat) (a : Option Addr) (c : Nat) (L : List ByteArray) (w : World) (hg : Blk w g #[.slice a L.length c]) (ha : SlA w 1 (.slice a L.length c) L.length (strs L)) :
    Calls Tryz.prog 90 #[.pointer (some ⟨g, 0, none⟩)] w fun e w' => NextP g (.slice a L.length c) L w e w' := by
  have HBK := Lib.hid hg
  have HA := Lib.hid ha
  cases L with
  | nil =>
    obtain ⟨c0, f0, z0⟩ := hg
    clear ha
    go_enter Tryz.func90, Tryz.ntmps90
    go_wp2
    go_ret
    exact ⟨rfl, a, c, HBK.out, fun _ h => h, Kp.refl _ _⟩
  | cons s tl =>
    obtain ⟨b, o, c', he, hc, hm, hb, hx⟩ := ha.pos (by simp)
    simp only [Value.slice.injEq, true_and, List.length_cons] at he
    obtain ⟨rfl, rfl⟩ := he
    rw [List.length_cons] at hc
    have p0 : w.cell? ⟨b, o, none⟩ = some (.string s) := hx 0 _ rfl
    have hbg : ¬ b = g := fun e => by
      subst e
      have h1 := hg.1 o
      rw [p0] at h1
      cases o with
      | zero => simp at h1
      | succ o => simp at h1
    have c0 : w.cell? ⟨g, 0, none⟩ = some (.slice (some ⟨b, o, none⟩) (tl.length + 1) c) := (hg.1 0).trans rfl
    have hgw := hg.2.2
    have f0 := hg.2.1
    have HC := Lib.hid (fun (W : World) (hbw : Below w.heap.size w W) => show W.cell? ⟨g, 0, none⟩ = some (.slice (some ⟨b, o, none⟩) (tl.length + 1) c) ∧ W.cell? ⟨b, o, none⟩ = some (.string s) from ⟨(hbw.cell (p := ⟨g, 0, none⟩) hgw).trans c0, (hbw.cell (p := ⟨b, o, none⟩) hb).trans p0⟩)
    have TL : Hid (∀ (W : World) (a2 : Option Addr) (c2 : Nat), Below w.heap.size w W → WinOf (.slice (some ⟨b, o, none⟩) (tl.length + 1) c) (s :: tl) (.slice a2 tl.length c2) tl → ∃ a2' c2', Blk (W.setCell ⟨g, 0, none⟩ (.slice a2 tl.length c2)) g #[.slice a2' tl.length c2'] ∧ WinOf (.slice (some ⟨b, o, none⟩) (tl.length + 1) c) (s :: tl) (.slice a2' tl.length c2') tl ∧ Kp (fun b => b = g) w (W.setCell ⟨g, 0, none⟩ (.slice a2 tl.length c2))) := Lib.hid (fun W a2 c2 hW hs =>
      ⟨a2, c2, ((hg.below hW).put (o := 0) (by simp)).congr rfl, hs, (Kp.of_below hW).trans (Kp.set (X := fun b => b = g) rfl) (fun _ _ h => h)⟩)
    have hcm : c ≤ 9223372036854775807 := hm
    have h1n : (1 : Int) ≤ (tl.length : Int) + 1 := by omega
    clear ha hx hg hm HA hbg
    by_cases hc1 : c = 1
    · subst hc1
      have h0 : tl.length = 0 := by omega
      clear hc
      have T2 := Lib.hid (fun (W : World) (hW : Below w.heap.size w W) => TL.out W (some ⟨b, o, none⟩) 0 hW (win_last b o _ s tl h0))
      clear TL h0
      go_enter Tryz.func90, Tryz.ntmps90
      go_wp2_with fail
      clear c0 f0 p0
      refine wp_region_last (S := (fun W => W.cell? ⟨g, 0, none⟩ = some (.slice (some ⟨b, o, none⟩) (tl.length + 1) 1) ∧ W.cell? ⟨b, o, none⟩ = some (.string s))) 6 (by kernel_rfl) (HC.out _ (below_drew (Below.refl _ _))) (fun hHeld => ?_)
      have HB := Lib.hid (below_drew (Below.refl w.heap.size w))
      obtain ⟨wk, hwk⟩ : ∃ W, W = w.drew := ⟨_, rfl⟩
      rw [← hwk] at HB hHeld ⊢
      clear hwk
      (refine lyes 0 ?_); (refine lyes 1 ?_); (refine lyes 2 ?_); (refine lyes 3 ?_); (refine lyes 4 ?_); (refine lyes 5 ?_); (try simp only [Act.put, List.setIfInBounds_toArray, List.set])
      obtain ⟨c0, f0, z0⟩ := HBK.out.below HB.out
      (refine last_end 6 rfl (by kernel_rfl) (by kernel_rfl) (fun K hK => ?_); go_simp)
      clear c0 f0 z0
      refine hK.out _ _ ?_
      clear hK K
      go_wp2
      go_ret
      exact ⟨rfl, T2.out _ HB.out⟩
    · have hcn : ¬ c = 1 := hc1
      have T2 := Lib.hid (fun (W : World) (hW : Below w.heap.size w W) => TL.out W (some ⟨b, o + 1, none⟩) (c - 1) hW (win_tail b o c s tl))
      clear TL
      go_enter Tryz.func90, Tryz.ntmps90
      go_wp2_with fail
      clear c0 f0 p0
      refine wp_region_last (S := (fun W => W.cell? ⟨g, 0, none⟩ = some (.slice (some ⟨b, o, none⟩) (tl.length + 1) c) ∧ W.cell? ⟨b, o, none⟩ = some (.string s))) 6 (by kernel_rfl) (HC.out _ (below_drew (Below.refl _ _))) (fun hHeld => ?_)
      have HB := Lib.hid (below_drew (Below.refl w.heap.size w))
      obtain ⟨wk, hwk⟩ : ∃ W, W = w.drew := ⟨_, rfl⟩
      rw [← hwk] at HB hHeld ⊢
      clear hwk
      (refine lyes 0 ?_); (refine lyes 1 ?_); (refine lyes 2 ?_); (refine lyes 3 ?_); (refine lyes 4 ?_); (refine lyes 5 ?_); (try simp only [Act.put, List.setIfInBounds_toArray, List.set])
      obtain ⟨c0, f0, z0⟩ := HBK.out.below HB.out
      (refine last_end 6 rfl (by kernel_rfl) (by kernel_rfl) (fun K hK => ?_); go_simp)
      clear c0 f0 z0
      refine hK.out _ _ ?_
      clear hK K
      go_wp2
      go_ret
      exact ⟨rfl, T2.out _ HB.out⟩

theorem preB_pre (s m : ByteArray) : preB s m = (bl m).isPrefixOf (bl s) := rfl
theorem ext_drop (s m : ByteArray) : s.extract m.size s.size = ⟨((bl s).drop (bl m).length).toArray⟩ := by
  refine bl_inj.1 ?_
  rw [bl_extract, bl_mk, bl_len]
  rw [List.take_of_length_le (by rw [← bl_len s]; exact Nat.le_refl _)]
theorem takeM_yes {m s : ByteArray} {r : List ByteArray} (h : preB s m = true) : takeM m (s :: r) = ((parseS (s.extract m.size s.size)).1 :: (takeM m r).1, (takeM m r).2) := by
  rw [takeM, ← preB_pre, if_pos h, ext_drop]
theorem takeM_no {m s : ByteArray} {r : List ByteArray} (h : preB s m = false) : takeM m (s :: r) = ([], s :: r) := by
  rw [takeM, ← preB_pre, if_neg (by rw [h]; exact Bool.false_ne_true)]
def slLen (v : Value) : Nat := match v with
  | .slice _ n _ => n
  | _ => 0
def StmtsP (m : ByteArray) (v : Value) (L : List ByteArray) (w : World) (e : Ending) (w' : World) : Prop :=
  ∃ v1 v2, e = .returned (.tuple #[v1, v2]) ∧ w'.ownsRow w.heap.size 80 9 v1 (takeM m L).1.length ((takeM m L).1.flatMap St.cells) ∧ WinOf v L v2 (takeM m L).2 ∧ (∃ a c, v2 = .slice a (takeM m L).2.length c) ∧ Below w.heap.size w w'
set_option maxRecDepth 100000 in
set_option maxHeartbeats 8000000 in
theorem rep_stmts (va : Value) (L : List ByteArray) (m : ByteArray) (w : World) (hg : Gl w) (ha : SlA w 1 va L.length (strs L)) (hn : L.length ≤ 10000) (hs : ∀ s ∈ L, s.size ≤ 1000000) :
    Calls Tryz.prog 92 #[va, .string m] w fun e w' => StmtsP m va L w e w' := by
  have HG := Lib.hid hg
  have HA := Lib.hid ha
  have HS := Lib.hid hs
  obtain ⟨ao, ac, rfl⟩ := ha.form
  clear ha hs hg
  go_enter Tryz.func92, Tryz.ntmps92
  go_wp2_with fail
  go_loopw [0, 4] (fun lv ov wr => ∃ (k : Nat) (ys : List St) (a1 a2 : Option Addr) (n1 c1 c2 : Nat), k ≤ L.length ∧ n1 = (L.drop k).length ∧ ys.length ≤ k ∧ lv = .slice a1 n1 c1 ∧ ov = .slice a2 ys.length c2 ∧ Hid (WinOf (.slice ao L.length ac) L (.slice a1 n1 c1) (L.drop k)) ∧ Hid (wr.ownsRow w.heap.size 80 9 (.slice a2 ys.length c2) ys.length (ys.flatMap St.cells)) ∧ Hid (takeM m L = (ys ++ (takeM m (L.drop k)).1, (takeM m (L.drop k)).2)) ∧ Hid (Below w.heap.size w wr)) (fun lv _ _ => slLen lv)
  case atStart => exact ⟨0, [], ao, none, L.length, ac, 0, by omega, rfl, by simp, rfl, rfl, Lib.hid (fun _ h => h), Lib.hid (World.ownsRow_nil _ _ _ _), Lib.hid rfl, Lib.hid (Below.refl _ _)⟩
  case round =>
    obtain ⟨k, ys, a1, a2, n1, c1, c2, hk, hn1, hys, rfl, rfl, HL, HO, HE, HB⟩ := hrel
    have hsz := HB.out.size
    by_cases hlt : k < L.length
    · have hdr := List.drop_eq_getElem_cons hlt
      rw [hdr] at HL HE hn1
      have HSZ := Lib.hid (HS.out _ (List.getElem_mem hlt))
      generalize L[k] = s at *
      generalize htl : L.drop (k + 1) = tl at *
      have htll : tl.length = L.length - (k + 1) := by have := congrArg List.length htl; rw [List.length_drop] at this; omega
      rw [List.length_cons] at hn1
      clear htll
      subst hn1
      obtain ⟨b, o, c', he, hc, hm, hb, hx⟩ := (HL.out w HA.out).pos (by simp)
      simp only [Value.slice.injEq, List.length_cons, true_and] at he
      obtain ⟨rfl, rfl⟩ := he
      rw [List.length_cons] at hc
      have p0 : wr.cell? ⟨b, o, none⟩ = some (.string s) := (HB.out.cell (p := ⟨b, o, none⟩) hb).trans (hx 0 _ rfl)
      have HTAIL := Lib.hid (HL.out.trans (win_tail b o c1 s tl))
      have hcm : c1 ≤ 9223372036854775807 := hm
      have HTL := Lib.hid htl
      have CP := Lib.hid (fun W => str_CutPrefix s m W (Nat.le_trans HSZ.out (by decide)))
      clear hdr hx hm htl
      have SZ2 := Lib.hid (show (s.extract m.size s.size).size ≤ 1000000 by have := HSZ.out; rw [ByteArray.size_extract]; omega)
      cases hpre : preB s m with
      | false =>
        rw [hpre] at CP
        have R := Lib.hid (show takeM m L = (ys, s :: tl) by rw [HE.out, takeM_no hpre, List.append_nil])
        clear hpre
        rw [if_neg Bool.false_ne_true] at CP
        go_wp2_with fail
        refine (CP.out _).mono ?_
        rintro e w2 ⟨rfl, rfl⟩
        go_wp2
        refine bodyPost_ret (v := .tuple #[.slice a2 ys.length c2, .slice (some ⟨b, o, none⟩) (tl.length + 1) c1]) (by simp [results, Tryz.results92, go_sem]) rfl ?_
        refine ⟨_, _, rfl, ?_, ?_, ?_, HB.out⟩
        · rw [R.out]; exact HO.out
        · rw [R.out]; exact HL.out
        · rw [R.out]; exact ⟨_, _, rfl⟩
      | true =>
        rw [hpre] at CP
        have R := Lib.hid (show takeM m L = ((ys ++ [(parseS (s.extract m.size s.size)).1]) ++ (takeM m tl).1, (takeM m tl).2) by rw [HE.out, takeM_yes hpre]; simp)
        clear hpre
        rw [if_pos rfl] at CP
        have PS := Lib.hid (fun W (hb : Below wr.heap.size wr W) => syn_Parse (s.extract m.size s.size) W (Nat.lt_of_le_of_lt SZ2.out (by decide)) ((HG.out.below HB.out).below hb))
        generalize hpx : (parseS (s.extract m.size s.size)).1 = x at *
        generalize (parseS (s.extract m.size s.size)).2.1 = px1 at *
        generalize (parseS (s.extract m.size s.size)).2.2 = px2 at *
        clear hpx
        generalize s.extract m.size s.size = se at *
        obtain ⟨xk, ⟨x1, x2⟩, xw, ⟨x3, x4⟩, ⟨x5, x6⟩, xv⟩ := x
        go_wp2_with fail
        refine (CP.out _).mono ?_
        rintro e w2 ⟨rfl, rfl⟩
        clear CP
        have HL0 := HL
        go_wp2_with fail
        refine (PS.out _ (Below.refl _ _)).mono ?_
        rintro e w3 ⟨rfl, hb3⟩
        have HB3 := Lib.hid (HB.out.trans (hb3.mono HB.out.size))
        have HO3 := Lib.hid (own_below HO.out hb3)
        have hsz3 := HB3.out.size
        clear hb3 PS p0 HL HO HB hb
        go_upto_region 5 with fail
        have HBA := Lib.hid ((Below.refl w3.heap.size w3).alloc (Nat.le_refl _) (.cells #[.int .i64 xk, .string x1, .string x2, .string xw, .string x3, .string x4, .string x5, .string x6, .string xv] 80))
        have HXB := Lib.hid (fun (W : World) (hb : Below (w3.alloc (.cells #[.int .i64 xk, .string x1, .string x2, .string xw, .string x3, .string x4, .string x5, .string x6, .string xv] 80)).heap.size (w3.alloc (.cells #[.int .i64 xk, .string x1, .string x2, .string xw, .string x3, .string x4, .string x5, .string x6, .string xv] 80)) W) => (keep1 hb : Blk W w3.heap.size #[.int .i64 xk, .string x1, .string x2, .string xw, .string x3, .string x4, .string x5, .string x6, .string xv]))
        obtain ⟨wa, hwa⟩ : ∃ W, W = w3.alloc (.cells #[.int .i64 xk, .string x1, .string x2, .string xw, .string x3, .string x4, .string x5, .string x6, .string xv] 80) := ⟨_, rfl⟩
        rw [← hwa] at HBA HXB ⊢
        clear hwa
        have h1n : (1 : Int) ≤ (tl.length : Int) + 1 := by omega
        by_cases hc1 : c1 = 1
        · subst hc1
          have h0 : tl.length = 0 := by omega
          clear hc
          have HTB := Lib.hid (HL0.out.trans (win_last b o 1 s tl h0))
          clear h0
          have HO3b := HO3
          refine wp_region_held_drew (S := fun W => (∀ o, W.cell? ⟨w3.heap.size, o, none⟩ = (#[.int .i64 xk, .string x1, .string x2, .string xw, .string x3, .string x4, .string x5, .string x6, .string xv] : Array Value)[o]?)) (by kernel_rfl) (HXB.out _ (below_drew (Below.refl _ _))).1 (fun hHeld => ?_)
          have HK := Lib.hid (below_drew (Below.refl wa.heap.size wa))
          obtain ⟨W4, hW4⟩ : ∃ V, V = wa.drew := ⟨_, rfl⟩
          rw [← hW4] at HK hHeld ⊢
          clear hW4
          have HOW := Lib.hid (own_below (own_below HO3.out HBA.out) HK.out)
          have HLW := Lib.hid (HB3.out.trans ((HBA.out.trans (HK.out.mono HBA.out.size)).mono HB3.out.size))
          have HXW := Lib.hid (HXB.out _ HK.out)
          have hszW := HLW.out.size
          clear HO3 HB3 HBA HXB HK
          (refine hyes 0 ?_); (refine hyes 1 ?_); (refine hyes 4 ?_); (refine hyes 5 ?_); (try simp only [Act.put, List.setIfInBounds_toArray, List.set])
          (refine held_call 2 rfl (by kernel_rfl) (fun K hK => ?_); go_simp)
          obtain ⟨W5, hW5⟩ : ∃ V, V = W4.alloc (.cells #[.int .i64 xk, .string x1, .string x2, .string xw, .string x3, .string x4, .string x5, .string x6, .string xv] 80) := ⟨_, rfl⟩
          obtain ⟨bn, hbn⟩ : ∃ b, b = W4.heap.size := ⟨_, rfl⟩
          rw [← hW5, ← hbn]
          have hbq : Below W4.heap.size W4 W5 := by rw [hW5]; exact (Below.refl _ _).alloc (Nat.le_refl _) _
          have HN1 := Lib.hid (show Sl W5 9 (.slice (some ⟨bn, 0, none⟩) 1 1) 1 ([.int .i64 xk, .string x1, .string x2, .string xw, .string x3, .string x4, .string x5, .string x6, .string xv]) by rw [hW5]; exact Sl.new W4 [.int .i64 xk, .string x1, .string x2, .string xw, .string x3, .string x4, .string x5, .string x6, .string xv] 80 9 1 bn hbn rfl (by simp [maxLen]))
          have HX5 := Lib.hid (HXW.out.below hbq)
          have HO5 := Lib.hid (own_below HOW.out hbq)
          have HL5 := Lib.hid (HLW.out.trans (hbq.mono HLW.out.size))
          have hsz5 := HL5.out.size
          clear hbq hW5 hbn HXW HOW HLW
          (refine hK.out _ _ HX5.out.1 (fun hHeld => ?_); clear hK K; (try simp only [Act.put, List.setIfInBounds_toArray, List.set]))
          obtain ⟨inf, hin, hs0, hs1, hs2⟩ := info_parts st_info
          have HIN := Lib.hid hin
          clear hin
          refine held_call 3 rfl (by kernel_rfl) (fun K hK => ?_)
          refine step_rowE rfl _ _ 22 rfl w.heap.size 80 inf _ 9 136 Tryz.underlying22 HIN.out hs0 hs1 hs2 (by decide) rfl (by decide) _ ys.length _ rfl HO5.out _ 1 _ rfl HN1.out.a (st_one (⟨xk, ⟨x1, x2⟩, xw, ⟨x3, x4⟩, ⟨x5, x6⟩, xv⟩ : St)) (by omega) hsz5 ?_
          intro a9 c9 wc hown9 hg9 _
          have HKG := Lib.hid (Kp.of_grown (X := fun k => some k = (Value.slice a2 ys.length c2).ownBlock) hg9 (fun _ h => h))
          have HO9 := Lib.hid (show wc.ownsRow w.heap.size 80 9 (.slice a9 (ys ++ [(⟨xk, ⟨x1, x2⟩, xw, ⟨x3, x4⟩, ⟨x5, x6⟩, xv⟩ : St)]).length c9) (ys ++ [(⟨xk, ⟨x1, x2⟩, xw, ⟨x3, x4⟩, ⟨x5, x6⟩, xv⟩ : St)]).length ((ys ++ [(⟨xk, ⟨x1, x2⟩, xw, ⟨x3, x4⟩, ⟨x5, x6⟩, xv⟩ : St)]).flatMap St.cells) by
            rw [List.length_append, List.flatMap_append, List.flatMap_singleton]; exact hown9)
          have HB9 := Lib.hid (below_own HL5.out HO5.out hg9 hsz5 (Nat.le_refl _))
          have hneq : some w3.heap.size ≠ (Value.slice a2 ys.length c2).ownBlock := fun e => by
            obtain ⟨_, cs, h2⟩ := own_type HO3b.out e.symm
            have := (Array.getElem?_eq_some_iff.1 h2).1
            omega
          have HQG := Lib.hid (HKG.out.blk HX5.out hneq)
          clear hg9 hown9 HN1 HIN hs0 hs1 hs2 hneq HKG
          (refine hK.out _ _ HQG.out.1 (fun hHeld => ?_); clear hK K; (try simp only [Act.put, List.setIfInBounds_toArray, List.set]))
          (refine hyes 6 ?_); (refine hyes 7 ?_); (try simp only [Act.put, List.setIfInBounds_toArray, List.set])
          refine wpAnyH_done (by kernel_rfl) ?_ _
          go_wp2
          exact ⟨⟨k + 1, ys ++ [(⟨xk, ⟨x1, x2⟩, xw, ⟨x3, x4⟩, ⟨x5, x6⟩, xv⟩ : St)], some ⟨b, o, none⟩, a9, tl.length, 0, c9, by omega, by rw [HTL.out], by simp; omega, rfl, by rw [List.length_append]; rfl, by rw [HTL.out]; exact HTB, HO9, by rw [HTL.out]; exact R, HB9⟩, by simp [slLen]⟩
        · have hcn : ¬ c1 = 1 := hc1
          have HTB := HTAIL
          have HO3b := HO3
          refine wp_region_held_drew (S := fun W => (∀ o, W.cell? ⟨w3.heap.size, o, none⟩ = (#[.int .i64 xk, .string x1, .string x2, .string xw, .string x3, .string x4, .string x5, .string x6, .string xv] : Array Value)[o]?)) (by kernel_rfl) (HXB.out _ (below_drew (Below.refl _ _))).1 (fun hHeld => ?_)
          have HK := Lib.hid (below_drew (Below.refl wa.heap.size wa))
          obtain ⟨W4, hW4⟩ : ∃ V, V = wa.drew := ⟨_, rfl⟩
          rw [← hW4] at HK hHeld ⊢
          clear hW4
          have HOW := Lib.hid (own_below (own_below HO3.out HBA.out) HK.out)
          have HLW := Lib.hid (HB3.out.trans ((HBA.out.trans (HK.out.mono HBA.out.size)).mono HB3.out.size))
          have HXW := Lib.hid (HXB.out _ HK.out)
          have hszW := HLW.out.size
          clear HO3 HB3 HBA HXB HK
          (refine hyes 0 ?_); (refine hyes 1 ?_); (refine hyes 4 ?_); (refine hyes 5 ?_); (try simp only [Act.put, List.setIfInBounds_toArray, List.set])
          (refine held_call 2 rfl (by kernel_rfl) (fun K hK => ?_); go_simp)
          obtain ⟨W5, hW5⟩ : ∃ V, V = W4.alloc (.cells #[.int .i64 xk, .string x1, .string x2, .string xw, .string x3, .string x4, .string x5, .string x6, .string xv] 80) := ⟨_, rfl⟩
          obtain ⟨bn, hbn⟩ : ∃ b, b = W4.heap.size := ⟨_, rfl⟩
          rw [← hW5, ← hbn]
          have hbq : Below W4.heap.size W4 W5 := by rw [hW5]; exact (Below.refl _ _).alloc (Nat.le_refl _) _
          have HN1 := Lib.hid (show Sl W5 9 (.slice (some ⟨bn, 0, none⟩) 1 1) 1 ([.int .i64 xk, .string x1, .string x2, .string xw, .string x3, .string x4, .string x5, .string x6, .string xv]) by rw [hW5]; exact Sl.new W4 [.int .i64 xk, .string x1, .string x2, .string xw, .string x3, .string x4, .string x5, .string x6, .string xv] 80 9 1 bn hbn rfl (by simp [maxLen]))
          have HX5 := Lib.hid (HXW.out.below hbq)
          have HO5 := Lib.hid (own_below HOW.out hbq)
          have HL5 := Lib.hid (HLW.out.trans (hbq.mono HLW.out.size))
          have hsz5 := HL5.out.size
          clear hbq hW5 hbn HXW HOW HLW
          (refine hK.out _ _ HX5.out.1 (fun hHeld => ?_); clear hK K; (try simp only [Act.put, List.setIfInBounds_toArray, List.set]))
          obtain ⟨inf, hin, hs0, hs1, hs2⟩ := info_parts st_info
          have HIN := Lib.hid hin
          clear hin
          refine held_call 3 rfl (by kernel_rfl) (fun K hK => ?_)
          refine step_rowE rfl _ _ 22 rfl w.heap.size 80 inf _ 9 136 Tryz.underlying22 HIN.out hs0 hs1 hs2 (by decide) rfl (by decide) _ ys.length _ rfl HO5.out _ 1 _ rfl HN1.out.a (st_one (⟨xk, ⟨x1, x2⟩, xw, ⟨x3, x4⟩, ⟨x5, x6⟩, xv⟩ : St)) (by omega) hsz5 ?_
          intro a9 c9 wc hown9 hg9 _
          have HKG := Lib.hid (Kp.of_grown (X := fun k => some k = (Value.slice a2 ys.length c2).ownBlock) hg9 (fun _ h => h))
          have HO9 := Lib.hid (show wc.ownsRow w.heap.size 80 9 (.slice a9 (ys ++ [(⟨xk, ⟨x1, x2⟩, xw, ⟨x3, x4⟩, ⟨x5, x6⟩, xv⟩ : St)]).length c9) (ys ++ [(⟨xk, ⟨x1, x2⟩, xw, ⟨x3, x4⟩, ⟨x5, x6⟩, xv⟩ : St)]).length ((ys ++ [(⟨xk, ⟨x1, x2⟩, xw, ⟨x3, x4⟩, ⟨x5, x6⟩, xv⟩ : St)]).flatMap St.cells) by
            rw [List.length_append, List.flatMap_append, List.flatMap_singleton]; exact hown9)
          have HB9 := Lib.hid (below_own HL5.out HO5.out hg9 hsz5 (Nat.le_refl _))
          have hneq : some w3.heap.size ≠ (Value.slice a2 ys.length c2).ownBlock := fun e => by
            obtain ⟨_, cs, h2⟩ := own_type HO3b.out e.symm
            have := (Array.getElem?_eq_some_iff.1 h2).1
            omega
          have HQG := Lib.hid (HKG.out.blk HX5.out hneq)
          clear hg9 hown9 HN1 HIN hs0 hs1 hs2 hneq HKG
          (refine hK.out _ _ HQG.out.1 (fun hHeld => ?_); clear hK K; (try simp only [Act.put, List.setIfInBounds_toArray, List.set]))
          (refine hyes 6 ?_); (refine hyes 7 ?_); (try simp only [Act.put, List.setIfInBounds_toArray, List.set])
          refine wpAnyH_done (by kernel_rfl) ?_ _
          go_wp2
          exact ⟨⟨k + 1, ys ++ [(⟨xk, ⟨x1, x2⟩, xw, ⟨x3, x4⟩, ⟨x5, x6⟩, xv⟩ : St)], some ⟨b, o + 1, none⟩, a9, tl.length, c1 - 1, c9, by omega, by rw [HTL.out], by simp; omega, rfl, by rw [List.length_append]; rfl, by rw [HTL.out]; exact HTB, HO9, by rw [HTL.out]; exact R, HB9⟩, by simp [slLen]⟩
    · have h0 : L.drop k = [] := List.drop_of_length_le (by omega)
      rw [h0] at HL HE hn1
      have R := Lib.hid (show takeM m L = (ys, []) by rw [HE.out]; simp [takeM])
      obtain rfl : n1 = 0 := hn1
      clear h0
      go_wp2
      refine bodyPost_ret (v := .tuple #[.slice a2 ys.length c2, .slice a1 0 c1]) (by simp [results, Tryz.results92, go_sem]) rfl ?_
      refine ⟨_, _, rfl, ?_, ?_, ?_, HB.out⟩
      · rw [R.out]; exact HO.out
      · rw [R.out]; exact HL.out
      · rw [R.out]; exact ⟨_, _, rfl⟩
end Go.Proofs.YtomhekohcadijaaGreatDoor
