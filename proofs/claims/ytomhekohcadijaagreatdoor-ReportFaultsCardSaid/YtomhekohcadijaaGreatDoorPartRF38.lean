/- strings.CutSuffix of a line feed, strings.Lines and its iterator, scan.Lines. -/
import Derived.Test.YtomhekohcadijaaGreatDoorPartRF22
import Derived.Test.YtomhekohcadijaaGreatDoorPartRF35
import Derived.Test.YtomhekohcadijaaGreatDoorShelf
import Derived.Test.YtomhekohcadijaaGreatDoorPartRF16
import Derived.Maps.AppendAt
namespace Go.Proofs.YtomhekohcadijaaGreatDoor
open Go.RowKit Go.Shelf

theorem strl_HasSuffix (s : ByteArray) (r : Bool) (w : World) (h0 : 0 < s.size) (hz : s.size ≤ 9223372036854775807) (h : ((s.extract (s.size - 1) s.size).toList == [10]) = r) :
    Calls Tryz.prog 235 #[.string s, .string ⟨#[10]⟩] w fun e w' => e = .returned (.bool r) ∧ w' = w := by
  have d1 : decide ((1 : Int) ≤ (s.size : Int)) = true := decide_eq_true (by omega)
  go_enter Tryz.func235, Tryz.ntmps235
  go_wp2_with fail
  go_ret
  exact ⟨ret_b rfl, rfl⟩
theorem strl_CutSuffix (s t : ByteArray) (r : Bool) (w : World) (h0 : 0 < s.size) (hz : s.size ≤ 9223372036854775807) (h : ((s.extract (s.size - 1) s.size).toList == [10]) = r) (ht : t = if r = true then s.extract 0 (s.size - 1) else s) :
    Calls Tryz.prog 178 #[.string s, .string ⟨#[10]⟩] w fun e w' => e = .returned (.tuple #[.string t, .bool r]) ∧ w' = w := by
  have HS := Lib.hid (strl_HasSuffix s r w h0 hz h)
  cases r with
  | true =>
    obtain rfl : t = s.extract 0 (s.size - 1) := ht
    clear h
    go_enter Tryz.func178, Tryz.ntmps178
    go_wp2_with fail
    refine HS.out.mono ?_
    rintro e w1 ⟨rfl, rfl⟩
    go_wp2
    exact bodyPost_ret (v := .tuple #[.string (s.extract 0 (s.size - 1)), .bool true]) (by simp [results, Tryz.results178, go_sem]) rfl ⟨rfl, rfl⟩
  | false =>
    obtain rfl : t = s := ht
    clear h
    go_enter Tryz.func178, Tryz.ntmps178
    go_wp2_with fail
    refine HS.out.mono ?_
    rintro e w1 ⟨rfl, rfl⟩
    go_wp2
    exact bodyPost_ret (v := .tuple #[.string t, .bool false]) (by simp [results, Tryz.results178, go_sem]) rfl ⟨rfl, rfl⟩
theorem str_CutNl (p : List UInt8 × Bool) (w : World) (hz : (fullL p).length ≤ 9223372036854775806) (h : p.2 = true ∨ (p.1 ≠ [] ∧ p.2 = false ∧ ∀ c, p.1.getLast? = some c → c ≠ 10)) :
    Calls Tryz.prog 123 #[.string (pieceB p), .string ⟨#[10]⟩] w fun e w' => e = .returned (.tuple #[.string (lineB p), .bool p.2]) ∧ w' = w := by
  have hsz : (pieceB p).size = (fullL p).length := by rw [← bl_len]; rfl
  have hb : bl (pieceB p) = fullL p := rfl
  have hpos : 0 < (fullL p).length := by
    rcases h with h | ⟨h, h2, _⟩
    · unfold fullL; rw [if_pos h]; simp
    · unfold fullL; rw [h2]; exact List.length_pos_iff.2 h
  have e1 : ((pieceB p).extract ((pieceB p).size - 1) (pieceB p).size).toList = (fullL p).drop ((fullL p).length - 1) := by
    rw [toList_bl, ssub, hb, hsz]
  have HC := Lib.hid (strl_CutSuffix (pieceB p) (lineB p) p.2 w (by omega) (by omega) (by
    rw [e1]
    obtain ⟨x, b⟩ := p
    rcases h with h | ⟨h, h2, h3⟩
    · dsimp only at h
      subst h
      simp [fullL]
    · dsimp only at h h2 h3
      subst h2
      show (x.drop (x.length - 1) == [10]) = false
      obtain ⟨y, c, rfl⟩ : ∃ y c, x = y ++ [c] := ⟨x.dropLast, x.getLast h, (List.dropLast_concat_getLast h).symm⟩
      have hc := h3 c (by simp)
      simp [hc]) (by
    obtain ⟨x, b⟩ := p
    cases b with
    | false => rfl
    | true =>
      rw [if_pos rfl]
      refine bl_inj.1 ?_
      rw [bl_extract, hb, hsz]
      simp [fullL, lineB]))
  generalize pieceB p = s at *
  generalize lineB p = t at *
  generalize p.2 = r at *
  clear e1 hb h
  go_enter Tryz.func123, Tryz.ntmps123
  go_wp2_with fail
  refine HC.out.mono ?_
  rintro e w1 ⟨rfl, rfl⟩
  go_wp2
  exact bodyPost_ret (v := .tuple #[.string t, .bool r]) (by simp [results, Tryz.results123, go_sem]) rfl ⟨rfl, rfl⟩
theorem str_Lines (s : ByteArray) (w : World) : Calls Tryz.prog 122 #[.string s] w fun e w' => e = .returned (.func (.func 176) #[] #[.pointer (some ⟨w.heap.size, 0, none⟩)]) ∧ w' = w.alloc (.cells #[.string s] 9) := by
  go_enter Tryz.func122, Tryz.ntmps122
  go_wp2
  go_ret
  exact ⟨rfl, rfl⟩
def leftL (b : Nat) (W : World) : Nat := match W.cell? ⟨b, 0, none⟩ with
  | some (.string s) => s.size
  | _ => 0
theorem leftL_of {b : Nat} {W : World} {s : ByteArray} {t : TypeId} (h : Boxed W b t (.string s)) : leftL b W = s.size := by unfold leftL; rw [h.cell]
theorem boxed_heap {b : Nat} {W W' : World} {v : Value} {t : TypeId} (h : Boxed W b t v) (e : W'.heap[b]? = W.heap[b]?) : Boxed W' b t v := e.trans h
theorem drop_cons {α : Type} {L : List α} {k : Nat} {x : α} {xs : List α} (h : L.drop k = x :: xs) (d : α) : k < L.length ∧ L.getD k d = x ∧ L.drop (k + 1) = xs := by
  have hk : k < L.length := by
    refine Nat.lt_of_not_le fun hle => ?_
    rw [List.drop_eq_nil_of_le hle] at h
    exact absurd h (by simp)
  rw [List.drop_eq_getElem_cons hk] at h
  obtain ⟨h1, h2⟩ := List.cons.inj h
  exact ⟨hk, by rw [List.getD_eq_getElem?_getD, List.getElem?_eq_getElem hk]; exact h1, h2⟩
def pieceK (text : ByteArray) (k : Nat) : ByteArray := pieceB ((linesP (bl text)).getD k ([], false))
set_option maxRecDepth 100000 in
set_option maxHeartbeats 4000000 in
theorem lines_seq (text : ByteArray) (b : Nat) (w : World) (hB : Boxed w b 9 (.string text)) (hz : text.size ≤ 1000000) :
    SeqC Tryz.prog 176 #[.pointer (some ⟨b, 0, none⟩)] (fun k => #[.string (pieceK text k)]) b (linesP (bl text)).length w := fun l J W hW hz0 hJs hJd hY h0 => by
  show CallsIn Fence.wide 3 Tryz.prog 176 #[.func (.yield l) #[] #[], .pointer (some ⟨b, 0, none⟩)] W _
  have hBW := boxed_heap hB hW
  obtain ⟨L, hL⟩ : ∃ L, L = linesP (bl text) := ⟨_, rfl⟩
  rw [← hL] at hY ⊢
  refine callsIn_of_wp Tryz.func176 rfl trivial ?_ rfl
  simp only [Tryz.ntmps176, List.size_toArray, List.length_cons, List.length_nil, Nat.reduceAdd, Nat.reduceSub, Array.replicate_succ, Array.replicate_zero, List.push_toArray, List.append_toArray, List.nil_append, List.cons_append]
  gi_wp2
  gi_loopw [3] (fun v wr => ∃ (k : Nat) (s : ByteArray) , Boxed wr b 9 (.string s) ∧ linesP (bl s) = L.drop k ∧ k ≤ L.length ∧ s.size ≤ 1000000 ∧ J k wr) (fun _ wr => leftL b wr)
  case atStart =>
    exact ⟨0, text, hBW, hL.symm, Nat.zero_le _, hz, h0⟩
  case round =>
    obtain ⟨k, s, hb, hs, hk, hsz, hJ⟩ := hrel
    have hc := hb.cell
    have hf := hb.frozen
    by_cases hpos : 0 < s.size
    · have IB := Lib.hid (fun W => Tryz.strings_IndexByte s 10 W)
      rw [show ((10 : Int).toNat.toUInt8 : UInt8) = 10 from rfl] at IB
      have hne : bl s ≠ [] := fun e => by have := congrArg List.length e; rw [bl_len, List.length_nil] at this; omega
      have hge := Lib.indexByte_ge (bl s) 10
      by_cases h1 : Lib.indexByte (bl s) 10 = -1
      · have hst := lines_step h1 hne
        rw [h1] at IB
        rw [hst] at hs
        obtain ⟨hk1, hk2, hk3⟩ := drop_cons hs.symm ([], false)
        have hp : pieceK text k = s := by unfold pieceK; rw [← hL, hk2]; exact bl_inj.1 rfl
        have hbz := hb.set (.string ⟨#[]⟩)
        obtain ⟨fn, tmps, assign, body, hy, hR⟩ := hY k _ (hJs k wr (.string ⟨#[]⟩) hJ) hk1
        try dsimp only at hy
        rw [hp] at hy
        clear hge hst hp
        gi_wp2_with (refine ⟨trivial, ?_⟩; gi_at_call 177; refine (callsIn_wide.2 (IB.out _)).mono ?_; rintro e w' ⟨rfl, rfl⟩)
        refine hR.mono ?_
        rintro e W3 ⟨rfl, hJ3, hk4⟩
        gi_wp2
        go_roundw
        case rel => exact ⟨k + 1, ⟨#[]⟩, boxed_heap hbz hk4, hk3.symm, by omega, by decide, hJ3⟩
        case measure => rw [leftL_of (boxed_heap hbz hk4), leftL_of hb]; exact hpos
      · obtain ⟨o, ho⟩ : ∃ o : Nat, Lib.indexByte (bl s) 10 = o := ⟨(Lib.indexByte (bl s) 10).toNat, by omega⟩
        obtain ⟨hst, hlt, htk⟩ := lines_step1 ho
        rw [ho] at IB
        rw [hst] at hs
        rw [bl_len] at hlt
        obtain ⟨hk1, hk2, hk3⟩ := drop_cons hs.symm ([], false)
        have hp : pieceK text k = s.extract 0 (o + 1) := by
          unfold pieceK
          rw [← hL, hk2]
          refine bl_inj.1 ?_
          rw [bl_extract, List.drop_zero, htk]
          rfl
        have hrs : bl (s.extract (o + 1) s.size) = (bl s).drop (o + 1) := ssub s (o + 1)
        have hrz : (s.extract (o + 1) s.size).size < s.size := by rw [← bl_len, hrs, List.length_drop, bl_len]; omega
        have d0 : decide ((0 : Int) ≤ (o : Int)) = true := decide_eq_true (by omega)
        have dx : (o : Int) + 1 ≤ (s.size : Int) := by omega
        have hwr : IntKind.i64.wrap ((o : Int) + 1) = (o : Int) + 1 := Go.IntWalk.i64_in _ (by omega)
        have d1 : (0 : Int) ≤ (o : Int) + 1 := by omega
        have d2 : ((o : Int) + 1).toNat = o + 1 := by omega
        clear hge hst htk
        gi_wp2_with (refine ⟨trivial, ?_⟩; gi_at_call 177; refine (callsIn_wide.2 (IB.out _)).mono ?_; rintro e w' ⟨rfl, rfl⟩)
        refine wpIn_wide.2 ?_
        refine wp_region_last (S := (fun W => W.cell? ⟨b, 0, none⟩ = some (.string s))) 9 (by kernel_rfl) hc (fun hHeld => ?_)
        have hbk : Boxed w'.drew b 9 (.string s) := hb
        have hJk := hJd _ _ hJ
        obtain ⟨wk, hwk⟩ : ∃ W, W = w'.drew := ⟨_, rfl⟩
        rw [← hwk] at hbk hJk hHeld ⊢
        have hc := hbk.cell
        have hf := hbk.frozen
        clear hwk
        (refine lyes 0 ?_); (refine lyes 1 ?_); (refine lyes 2 ?_); (refine lyes 3 ?_); (refine lyes 4 ?_); (refine lyes 5 ?_); (refine lyes 6 ?_); (refine lyes 7 ?_); (refine lyes 8 ?_); (try simp only [Act.put, List.setIfInBounds_toArray, List.set])
        (refine last_end 9 rfl (by kernel_rfl) (by kernel_rfl) (fun K hK => ?_); go_simp)
        refine hK.out _ _ ?_
        clear hK K
        have hbz := hbk.set (.string (s.extract (o + 1) s.size))
        obtain ⟨fn, tmps, assign, body, hy, hR⟩ := hY k _ (hJs k wk (.string (s.extract (o + 1) s.size)) hJk) hk1
        try dsimp only at hy
        rw [hp] at hy
        gi_wp2
        refine hR.mono ?_
        rintro e W3 ⟨rfl, hJ3, hk4⟩
        gi_wp2
        go_roundw
        case rel => exact ⟨k + 1, _, boxed_heap hbz hk4, by rw [hrs]; exact hk3.symm, by omega, by omega, hJ3⟩
        case measure => rw [leftL_of (boxed_heap hbz hk4), leftL_of hb]; exact hrz
    · obtain rfl : s = emp := bl_inj.1 (List.eq_nil_of_length_eq_zero (by rw [bl_len]; omega))
      have hk2 : k = L.length := by
        have := congrArg List.length hs
        rw [List.length_drop, show linesP (bl emp) = [] from rfl, List.length_nil] at this
        omega
      subst hk2
      have he : emp.size = 0 := rfl
      gi_wp2
      go_end0
      exact ⟨⟨_, rfl⟩, hJ⟩
theorem mem_getD {α : Type} {L : List α} {k : Nat} {d : α} (h : k < L.length) : L.getD k d ∈ L := by
  rw [List.getD_eq_getElem?_getD, List.getElem?_eq_getElem h]; exact List.getElem_mem h
theorem lines_snoc {L : List (List UInt8 × Bool)} {k : Nat} (h : k < L.length) : (L.take (k + 1)).map lineB = (L.take k).map lineB ++ [lineB (L.getD k ([], false))] := by
  rw [List.take_succ_eq_append_getElem h, List.map_append, List.getD_eq_getElem?_getD, List.getElem?_eq_getElem h]
  rfl
theorem own_baseL {w : World} {base base' size n : Nat} {e : TypeId} {v : Value} {xs : List Value} (h : w.ownsRow base e size v n xs) (hb : base' ≤ base) : w.ownsRow base' e size v n xs := by
  rcases h.2 with h2 | ⟨g, cap, cur, h1, h2, h3⟩
  · exact ⟨h.1, .inl h2⟩
  · exact ⟨h.1, .inr ⟨g, cap, cur, h1, Nat.le_trans hb h2, h3⟩⟩
def LinesI (L : List (List UInt8 × Bool)) (w : World) (k : Nat) (W : World) : Prop :=
  (∃ v, Boxed W w.heap.size 27 v ∧ W.ownsRow (w.heap.size + 2) 9 1 v k (strs ((L.take k).map lineB))) ∧ Below w.heap.size w W ∧ w.heap.size + 2 ≤ W.heap.size
attribute [local go_sem] Oper.semAt_some
set_option maxRecDepth 100000 in
set_option maxHeartbeats 4000000 in
theorem scan_Lines (s : ByteArray) (w : World) (hz : s.size ≤ 1000000) :
    Calls Tryz.prog 67 #[.string s] w fun e w' => ∃ v, e = .returned v ∧ w'.ownsRow w.heap.size 9 1 v (linesB s).length (strs (linesB s)) ∧ Below w.heap.size w w' := by
  obtain ⟨L, hL⟩ : ∃ L, L = linesP (bl s) := ⟨_, rfl⟩
  have hLn : L.length ≤ 1000000 := by rw [hL]; have := lines_len (bl s); rw [bl_len] at this; omega
  obtain ⟨i0, hi, hz0, hz1, hz2⟩ := info_parts str_info
  refine (callsIn_wide (n := 4)).1 ?_
  refine callsIn_of_wp_marks Tryz.func67 rfl trivial ?_ rfl
  simp only [Tryz.ntmps67, List.size_toArray, List.length_cons, List.length_nil, Nat.reduceAdd, Nat.reduceSub, Array.replicate_succ, Array.replicate_zero, List.push_toArray, List.append_toArray, List.nil_append, List.cons_append]
  gi_wp2_with (refine ⟨trivial, ?_⟩; gi_at_call 122; refine (callsIn_wide.2 (str_Lines s _)).mono ?_; rintro e w' ⟨rfl, rfl⟩)
  have bO := Boxed.new w 27 (.slice none 0 0)
  have bN := Boxed.new (w.alloc (.cells #[.slice none 0 0] 27)) 9 (.string s)
  rw [World.size_alloc] at bN
  have hB0 : Below w.heap.size w ((w.alloc (.cells #[.slice none 0 0] 27)).alloc (.cells #[.string s] 9)) := ((Below.refl _ w).alloc (Nat.le_refl _) _).alloc (by simp) _
  have hsz : ((w.alloc (.cells #[.slice none 0 0] 27)).alloc (.cells #[.string s] 9)).heap.size = w.heap.size + 2 := by simp
  have bO2 := bO.alloc (.cells #[.string s] 9)
  obtain ⟨W0, hW0⟩ : ∃ W0, W0 = (w.alloc (.cells #[.slice none 0 0] 27)).alloc (.cells #[.string s] 9) := ⟨_, rfl⟩
  rw [← hW0] at bN hB0 hsz bO2 ⊢
  clear bO hW0
  have hseq := lines_seq s (w.heap.size + 1) W0 bN hz
  rw [← hL] at hseq
  refine rangeFunc_cell (gf := 176) (lb := #[.pointer (some ⟨w.heap.size + 1, 0, none⟩)]) rfl (enters_of Tryz.func176 (by kernel_rfl) rfl) (w.heap.size + 1) L.length
    (fun k => #[.string (pieceK s k)]) (by omega) hseq (fun _ => rfl) (LinesI L w) ?hIp ?hIa ?hIs ?hId ?h0
    (fun k => { tmps := #[.string s, undef, .pointer (some ⟨w.heap.size, 0, none⟩), .string (pieceK s k), undef, undef, .string s, .func (.func 176) #[] #[.pointer (some ⟨w.heap.size + 1, 0, none⟩)], .string (pieceK s k), undef, undef, undef, undef, undef, undef, undef, undef, undef, undef], defers := [] }) ?assign ?body ?done
  case hIp =>
    rintro k A r o o' ⟨⟨v, hv, hr⟩, hb, hA⟩ hle ho hc
    exact ⟨⟨v, hv.kept (grownBy_putObj' A r o') (fun e => by have := Option.some.inj e; omega), ownsRow_putObj hr o' ho hc⟩, hb.grown (grownBy_putObj' A r o') hb.size (fun j e => by cases e; omega), by simp; exact hA⟩
  case hIa =>
    rintro k A o ⟨⟨v, hv, hr⟩, hb, hA⟩
    exact ⟨⟨v, hv.alloc o, hr.alloc o⟩, hb.alloc hb.size o, by simp; omega⟩
  case hIs =>
    rintro k A v' ⟨⟨v, hv, hr⟩, hb, hA⟩
    have hg := grownBy_setCell' A (w.heap.size + 1) v'
    exact ⟨⟨v, hv.kept hg (fun e => by have := Option.some.inj e; omega), hr.kept hg (.inr (fun e => by have := (hr.lt _ e).1; omega))⟩, hb.setCell (p := ⟨w.heap.size + 1, 0, none⟩) (by simp) v', by have := hg.size; omega⟩
  case hId =>
    rintro k A ⟨⟨v, hv, hr⟩, hb, hA⟩
    exact ⟨⟨v, hv, hr.drew⟩, below_drew hb, hA⟩
  case h0 => exact ⟨⟨_, bO2, World.ownsRow_nil _ _ _ _⟩, hB0, by omega⟩
  case assign =>
    intro l k W K hK
    gi_wp2
    exact hK
  case body =>
    rintro l k W ⟨⟨v, hv, hr⟩, hb, hA⟩ hk
    have hp := lines_cut_of (l := bl s) (k := k) (by rw [← hL]; exact hk)
    rw [← hL] at hp
    have hpz : (fullL (L.getD k ([], false))).length ≤ 1000000 := by
      have h1 := lines_size (bl s) (L.getD k ([], false)) (by rw [← hL]; exact mem_getD hk)
      rw [bl_len] at h1
      omega
    have HC := Lib.hid (fun W => str_CutNl (L.getD k ([], false)) W (by omega) hp)
    rw [show pieceB (L.getD k ([], false)) = pieceK s k by rw [hL]; rfl] at HC
    have hsn := lines_snoc hk
    have hcv := hv.cell
    have hcf := hv.frozen
    generalize pieceK s k = pk at *
    generalize lineB (L.getD k ([], false)) = ln at *
    generalize (L.getD k ([], false)).2 = fl at *
    clear hp hpz
    have hle : w.heap.size ≤ W.heap.size := hb.size
    gi_wp2_with (first
      | (refine ⟨trivial, ?_⟩; gi_at_call 123; refine (CallsIn.inRound l (callsIn_wide.2 (HC.out _))).mono ?_; rintro e w' ⟨rfl, rfl⟩)
      | (gi_at_builtin; refine wpListIn_append_own _ rfl _ _ 27 rfl (w.heap.size + 2) 9 i0 (.string ByteArray.empty) 1 16 Tryz.underlying27 hi hz0 hz1 hz2 rfl (by decide) _ _ _ rfl (hr.alloc _) ⟨_, 0, none⟩ 1 1 [.string ln] rfl rfl (cell_one_new _ _ _) (by simp [Value.oneCell']) (by simp only [maxLen]; omega) (by omega) (by simp; omega) ?_; intro v' w1 hown' hgrow _; obtain ⟨g', cap', rfl⟩ := ownsRow_succ hown'; obtain ⟨hv1, hv2, hr2, hk2, hb2⟩ := hv.appended (by decide) (own_baseL hr (show w.heap.size ≤ w.heap.size + 2 by omega)) hle (Nat.le_refl _) (own_baseL hown' (show w.heap.size ≤ w.heap.size + 2 by omega)) hgrow; have hc1 := hv1.cell; have hf1 := hv1.frozen))
    have hst := grownBy_setCell' w1 w.heap.size (.slice (some ⟨g', 0, none⟩) (k + 1) cap')
    have hnb : some (w.heap.size + 1) ≠ v.ownBlock := fun e => by have := (hr.lt _ e.symm).1; omega
    refine ⟨hk2, ?_, ⟨_, hv2, ?_⟩, hb.trans hb2, by have := hb2.size; omega⟩
    · refine (Below.heap_setCell _ _ _ _ (by show w.heap.size + 1 ≠ w.heap.size; omega)).trans ((hgrow.block _ (by simp; omega) hnb).trans (Below.heap_alloc _ _ _ (by omega)))
    · rw [hsn, show strs ((L.take k).map lineB ++ [ln]) = strs ((L.take k).map lineB) ++ [.string ln] by simp [strs]]
      exact hown'.kept hst (.inr (hv1.not_row (by decide) (own_baseL hown' (show w.heap.size ≤ w.heap.size + 2 by omega))).symm)
  case done =>
    rintro D W hD ⟨⟨v, hv, hr⟩, hb, hA⟩ hK
    have HL2 := Lib.hid (show linesB s = L.map lineB by unfold linesB; rw [hL])
    clear hL hseq bN bO2
    have hcv := hv.cell
    have hcf := hv.frozen
    rw [List.take_length] at hr
    obtain ⟨va, vc, rfl⟩ := own_form hr
    have hK3 := (KeepsOthers.setCell W ⟨w.heap.size, 0, none⟩ (.slice va L.length vc)).same D _ hK rfl
    have hv3 := hv.set (.slice va L.length vc)
    have hb3 := hb.setCell (p := ⟨w.heap.size, 0, none⟩) (Nat.le_refl _) (.slice va L.length vc)
    have hr3 := hr.kept (grownBy_setCell' W w.heap.size (.slice va L.length vc)) (.inr (fun e => by have := (hr.lt _ e).1; omega))
    have hR := ownsRow_putObj hr3 (.deferred none) hK3 rfl
    have hB := hb3.trans (belowK_b (w := w) (Nat.le_refl _) _ D _ (.deferred none) (by omega) hK3 rfl rfl)
    have hV := hv3.kept (grownBy_putObj' _ D (.deferred none)) (fun e => by have := Option.some.inj e; omega)
    have hc4 := hV.cell
    clear hv3 hr3 hb3
    gi_wp2
    refine ⟨by simp, .inl ⟨_, _, rfl, run_takeDeferred hK3, ?_⟩⟩
    refine ⟨.slice va L.length vc, by simp [results, Tryz.results67, go_sem, hc4], _, rfl, ?_, hB⟩
    rw [HL2.out, List.length_map]
    exact own_baseL hR (by omega)
end Go.Proofs.YtomhekohcadijaaGreatDoor
