/- The statement SynBack: the walk of the law. -/
import Derived.Test.YtakpahlgbcgnmaaDoorBackLaw
import Derived.Test.YtakpahlgbcgnmaaDoorLaw03
namespace Go.Proofs.YtakpahlgbcgnmaaDoor
open Go.RowKit Go.Shelf

theorem right_le {s : St} (h : rightS s = true) : s.le 8 := by
  obtain ⟨k, ⟨h1, h2⟩, who, ⟨a1, a2⟩, ⟨b1, b2⟩, via⟩ := s
  have hP : ∀ {lo hi : Int} {x : ByteArray}, isP lo hi (bl x) = true → x.size ≤ 8 := fun h => by have := (isP_len h).2; rwa [bl_len] at this
  have h0 : emp.size ≤ 8 := by decide
  have hN : ∀ {x y : ByteArray}, (⟨x, y⟩ : Rl) = noR → x.size ≤ 8 ∧ y.size ≤ 8 := fun e => by cases e; exact ⟨h0, h0⟩
  simp only [rightS, Bool.and_eq_true, isRole_iff] at h
  obtain ⟨⟨ho, hn⟩, h⟩ := h
  refine ⟨⟨hP ho, hP hn⟩, ?_⟩
  show who.size ≤ 8 ∧ (a1.size ≤ 8 ∧ a2.size ≤ 8) ∧ (b1.size ≤ 8 ∧ b2.size ≤ 8) ∧ via.size ≤ 8
  by_cases k1 : k = 1
  · rw [if_pos k1] at h
    simp only [Bool.and_eq_true, eqRl, decide_eq_true_iff] at h
    obtain ⟨⟨⟨hw, ea⟩, eb⟩, rfl⟩ := h
    exact ⟨hP hw, hN ea, hN eb, h0⟩
  rw [if_neg k1] at h
  by_cases k2 : k = 2
  · rw [if_pos k2] at h
    simp only [Bool.and_eq_true, eqRl, decide_eq_true_iff, isRole_iff] at h
    obtain ⟨⟨⟨rfl, ha, hc⟩, eb⟩, rfl⟩ := h
    exact ⟨h0, ⟨hP ha, hP hc⟩, hN eb, h0⟩
  rw [if_neg k2] at h
  by_cases k3 : k = 3
  · rw [if_pos k3] at h
    simp only [Bool.and_eq_true, eqRl, decide_eq_true_iff, isRole_iff] at h
    obtain ⟨⟨⟨rfl, ha, hc⟩, eb⟩, hv⟩ := h
    exact ⟨h0, ⟨hP ha, hP hc⟩, hN eb, hP hv⟩
  rw [if_neg k3] at h
  by_cases k4 : k = 4
  · rw [if_pos k4] at h
    simp only [Bool.and_eq_true, decide_eq_true_iff, isRole_iff] at h
    obtain ⟨⟨⟨⟨rfl, ha, hc⟩, hd, he⟩, rfl⟩, _⟩ := h
    exact ⟨h0, ⟨hP ha, hP hc⟩, ⟨hP hd, hP he⟩, h0⟩
  · rw [if_neg k4] at h; cases h
theorem print_le {s : St} (h : rightS s = true) : (printS s).size ≤ 100 := by
  obtain ⟨⟨l1, l2⟩, l3, ⟨l4, l5⟩, ⟨l6, l7⟩, l8⟩ := right_le h
  unfold printS
  rw [if_pos h]
  have e1 : (⟨#[46]⟩ : ByteArray).size = 1 := rfl
  have e4 : (⟨#[32, 60, 45, 32]⟩ : ByteArray).size = 4 := rfl
  have e3 : (⟨#[32, 38, 32]⟩ : ByteArray).size = 3 := rfl
  have : ∀ x : ByteArray, x.size ≤ 50 → (roleT s.h ++ ⟨#[32, 60, 45, 32]⟩ ++ x).size ≤ 100 := fun x hx => by
    simp only [roleT, ByteArray.size_append, e1, e4]; omega
  refine this _ ?_
  (repeat' split) <;> (try simp only [roleT, ByteArray.size_append, e1, e3]) <;> omega

/-- Both statements' blocks stand whole. -/
structure TwoAt (w : World) (A B : Array Value) (wx : World) : Prop where
  a : Blk wx w.heap.size A
  b : Blk wx (w.heap.size + 1) B
  low : Below w.heap.size w wx
theorem TwoAt.later {w wx w' : World} {A B : Array Value} (h : TwoAt w A B wx) (hb : Below wx.heap.size wx w') : TwoAt w A B w' := ⟨h.a.below hb, h.b.below hb, h.low.trans (hb.mono h.low.size)⟩
theorem TwoAt.alloc {w wx : World} {A B : Array Value} (h : TwoAt w A B wx) (o : Obj) : TwoAt w A B (wx.alloc o) := h.later ((Below.refl _ _).alloc (Nat.le_refl _) o)
theorem TwoAt.drew {w wx : World} {A B : Array Value} (h : TwoAt w A B wx) : TwoAt w A B wx.drew := h.later (below_drew (Below.refl _ _))

set_option maxRecDepth 100000 in
set_option maxHeartbeats 8000000 in
theorem law3_SynBack (s s' : St) (line : ByteArray) (w : World) (hg : Gl w) (hs : s.le 9223372036854775807) (hs' : s'.le 9223372036854775807) (hl : line.size ≤ 9223372036854775807) :
    Calls Tryd.prog 4 #[sv s, sv s', .string line] w fun e w' => e = .returned (.bool true) ∧ Below w.heap.size w w' := by
  have HL := Lib.hid (fun W (h : Gl W) => law3_lives W h)
  have HLa := Lib.hid (fun W => law3_Light s W hs)
  have HLb := Lib.hid (fun W => law3_Light s' W hs')
  have HG := Lib.hid hg
  have HRa := Lib.hid (fun W (h : s.le 4294967) => syn_Right s W h)
  have HRb := Lib.hid (fun W (h : s'.le 4294967) => syn_Right s' W h)
  have HPa := Lib.hid (fun W (h : s.le 4294967) => syn_Print s W h)
  have HPb := Lib.hid (fun W (h : s'.le 4294967) => syn_Print s' W h)
  have HBa := Lib.hid (fun (h : rightS s = true) => parse_print s h)
  have HSa := Lib.hid (fun (h : rightS s = true) => print_le (s := s) h)
  have HEq := Lib.hid (fun (h : rightS s = true) (h' : rightS s' = true) => show ((printS s).toList == (printS s').toList) = eqSt s s' by
    rw [beq_str, Bool.eq_iff_iff, decide_eq_true_iff, eqSt, decide_eq_true_iff]; exact print_eq s s' h h')
  have hself := Lib.hid (eqSt_self s)
  generalize rightS s = ra at HRa HBa HSa HEq
  generalize rightS s' = rb at HRb HEq
  generalize printS s = pa at HPa HBa HSa HEq
  generalize printS s' = pb at HPb HEq
  have hr : (line.extract 0 (min (line.size : Int) 300).toNat).size ≤ 300 := by simp; omega
  have hEq := stmt_eql'
  obtain ⟨k, ⟨h1, h2⟩, who, ⟨a1, a2⟩, ⟨b1, b2⟩, via⟩ := s
  obtain ⟨k', ⟨h1', h2'⟩, who', ⟨a1', a2'⟩, ⟨b1', b2'⟩, via'⟩ := s'
  clear hs hs' hg
  go_enter Tryd.func4, Tryd.ntmps4
  go_wp2_with fail
  generalize line.extract 0 (min (line.size : Int) 300).toNat = r at hr ⊢
  have T0 := Lib.hid (show TwoAt w #[.int .i64 k, .string h1, .string h2, .string who, .string a1, .string a2, .string b1, .string b2, .string via] #[.int .i64 k', .string h1', .string h2', .string who', .string a1', .string a2', .string b1', .string b2', .string via'] ((w.alloc (.cells #[.int .i64 k, .string h1, .string h2, .string who, .string a1, .string a2, .string b1, .string b2, .string via] 31)).alloc (.cells #[.int .i64 k', .string h1', .string h2', .string who', .string a1', .string a2', .string b1', .string b2', .string via'] 31))
    from ⟨(Blk.new w _ _).alloc _, (by have := Blk.new (w.alloc (.cells #[.int .i64 k, .string h1, .string h2, .string who, .string a1, .string a2, .string b1, .string b2, .string via] 31)) #[.int .i64 k', .string h1', .string h2', .string who', .string a1', .string a2', .string b1', .string b2', .string via'] 31; simpa using this), ((Below.refl _ _).alloc (Nat.le_refl _) _).alloc (by simp) _⟩)
  have P1 := syn_Parse r _ (by omega) (HG.out.below T0.out.low)
  have HPR := Lib.hid (fun h => parse_right r h)
  generalize parseS r = res at P1 HPR
  obtain ⟨x, i, y⟩ := res
  dsimp only at P1 HPR
  refine P1.mono ?_
  rintro e w1 ⟨rfl, hb1⟩
  have T1 := Lib.hid (T0.out.later hb1)
  clear P1 hb1 T0
  have HX1 := Lib.hid (fun W (h : x.le 4294967) => syn_Right x W h)
  have HX2 := Lib.hid (fun W (h : x.le 4294967) => syn_Print x W h)
  have HX3 := Lib.hid (fun (h : rightS x = true) => (right_le h).mono (show 8 ≤ 4294967 by decide))
  have HX4 := Lib.hid (fun (h : rightS x = true) => print_some x h)
  generalize rightS x = rx at HX1 HX3 HX4 HPR
  generalize printS x = px at HX2 HX4
  have HX2' := HX2
  go_upto_region 3 with fail
  go_cut [35] (fun s35 wx => s35 = .bool false ∧ TwoAt w #[.int .i64 k, .string h1, .string h2, .string who, .string a1, .string a2, .string b1, .string b2, .string via] #[.int .i64 k', .string h1', .string h2', .string who', .string a1', .string a2', .string b1', .string b2', .string via'] wx)
  case first =>
    obtain ⟨xk, ⟨x1, x2⟩, xw, ⟨x3, x4⟩, ⟨x5, x6⟩, xv⟩ := x
    by_cases hy : y = 0
    · have d : (y == 0) = true := by simp [hy]
      have hrx := HPR.out hy
      subst hrx
      have hle := HX3.out rfl
      have A1 := fun W => HX1.out W hle
      have A2 := fun W => HX2.out W hle
      have d2 : (px.toList == (⟨#[]⟩ : ByteArray).toList) = false := by rw [beq_str]; simpa using HX4.out rfl
      have d3 : (px.toList == []) = false := by
        have e : (⟨#[]⟩ : ByteArray).toList = [] := by rw [toList_bl]
        rw [e] at d2; exact d2
      clear HX1 HX2 HX2' HX3 HX4 hle hy
      have T2 := Lib.hid (T1.out.alloc (.cells #[.int .i64 xk, .string x1, .string x2, .string xw, .string x3, .string x4, .string x5, .string x6, .string xv] 31))
      go_wp2_with (first
        | (go_at_call 18; refine (A1 _).mono ?_; rintro e w2 ⟨rfl, hb2⟩; have T3 := Lib.hid (T2.out.later hb2); obtain ⟨cx, fx, zx⟩ := keep1 hb2)
        | (go_at_call 19; refine (A2 _).mono ?_; rintro e w3 ⟨rfl, hb3⟩; have T4 := Lib.hid (T3.out.later hb3)))
      go_meet
      exact ⟨rfl, T4.out⟩
    · have d : (y == 0) = false := by simp [hy]
      have T2 := Lib.hid (T1.out.alloc (.cells #[.int .i64 xk, .string x1, .string x2, .string xw, .string x3, .string x4, .string x5, .string x6, .string xv] 31))
      clear HX1 HX2 HX2' HX3 HX4 hy
      go_wp2_with fail
      go_meet
      exact ⟨rfl, T2.out⟩
  case rest =>
    obtain ⟨rfl, htw⟩ := hcut
    clear HX1 HX2 HX2' HX3 HX4 HPR T1
    have T1 := Lib.hid htw
    have hgc := Lib.hid (HG.out.below htw.low)
    have hlow := Lib.hid htw.low
    obtain ⟨ca, fa, za⟩ := htw.a
    obtain ⟨cb, fb, zb⟩ := htw.b
    clear htw
    go_wp2_with fail
    refine (HLa.out _).mono ?_
    rintro e w2 ⟨ba, rfl, hla, hb2⟩
    have T2 := Lib.hid (T1.out.later hb2)
    have htw2 := T2.out.low
    obtain ⟨ca, fa, za⟩ := T2.out.a
    obtain ⟨cb, fb, zb⟩ := T2.out.b
    cases ba with
    | false =>
      clear hla hb2
      go_wp2_with (go_at_call 21; refine (HL.out _ ?_).mono ?_; exact HG.out.below htw2; rintro e w6 ⟨rfl, hb6⟩)
      go_ret
      exact ⟨rfl, htw2.trans (hb6.mono htw2.size)⟩
    | true =>
      have hlea := Lib.hid ((hla rfl).mono (show 40 ≤ 4294967 by decide))
      clear hla hb2 htw2
      go_wp2_with fail
      refine (HLb.out _).mono ?_
      rintro e w3 ⟨bb, rfl, hlb, hb3⟩
      have T3 := Lib.hid (T2.out.later hb3)
      have htw3 := T3.out.low
      obtain ⟨ca, fa, za⟩ := T3.out.a
      obtain ⟨cb, fb, zb⟩ := T3.out.b
      cases bb with
      | false =>
        clear hlb hb3
        go_wp2_with (go_at_call 21; refine (HL.out _ ?_).mono ?_; exact HG.out.below htw3; rintro e w6 ⟨rfl, hb6⟩)
        go_ret
        exact ⟨rfl, htw3.trans (hb6.mono htw3.size)⟩
      | true =>
        have hleb := Lib.hid ((hlb rfl).mono (show 40 ≤ 4294967 by decide))
        clear hlb hb3 htw3
        go_wp2_with fail
        refine (HRa.out _ hlea.out).mono ?_
        rintro e w4 ⟨rfl, hb4⟩
        have T4 := Lib.hid (T3.out.later hb4)
        have htw4 := T4.out.low
        obtain ⟨ca, fa, za⟩ := T4.out.a
        obtain ⟨cb, fb, zb⟩ := T4.out.b
        cases ra with
        | false =>
          clear hb4
          go_wp2_with (go_at_call 21; refine (HL.out _ ?_).mono ?_; exact HG.out.below htw4; rintro e w6 ⟨rfl, hb6⟩)
          go_ret
          exact ⟨rfl, htw4.trans (hb6.mono htw4.size)⟩
        | true =>
          clear hb4 htw4
          go_wp2_with fail
          refine (HRb.out _ hleb.out).mono ?_
          rintro e w5 ⟨rfl, hb5⟩
          have T5 := Lib.hid (T4.out.later hb5)
          have htw5 := T5.out.low
          obtain ⟨ca, fa, za⟩ := T5.out.a
          obtain ⟨cb, fb, zb⟩ := T5.out.b
          cases rb with
          | false =>
            clear hb5
            go_wp2_with (go_at_call 21; refine (HL.out _ ?_).mono ?_; exact HG.out.below htw5; rintro e w6 ⟨rfl, hb6⟩)
            go_ret
            exact ⟨rfl, htw5.trans (hb6.mono htw5.size)⟩
          | true =>
            clear hb5 htw5
            have BA := HBa.out (by first | rfl | trivial)
            have SA := HSa.out (by first | rfl | trivial)
            have EQ := HEq.out (by first | rfl | trivial) (by first | rfl | trivial)
            have EQ2 := EQ
            have P8 := fun W (h : Gl W) => syn_Parse pa W (by omega) h
            rw [BA] at P8
            have PA := fun W => HPa.out W hlea.out
            have PB := fun W => HPb.out W hleb.out
            have hsf := hself.out
            clear BA HBa HSa HEq HPa HPb HLa HLb HRa HRb
            have P8 := Lib.hid P8
            go_wp2_with fail
            refine (PA _).mono ?_
            rintro e w6 ⟨rfl, hb6⟩
            have T6 := Lib.hid (T5.out.later hb6)
            go_wp2_with fail
            refine (P8.out _ (HG.out.below T6.out.low)).mono ?_
            rintro e w7 ⟨rfl, hb7⟩
            have T7 := Lib.hid (T6.out.later hb7)
            have T8 := Lib.hid (T7.out.alloc (.cells #[.int .i64 k, .string h1, .string h2, .string who, .string a1, .string a2, .string b1, .string b2, .string via] 31))
            have HX8 := Lib.hid (Blk.new w7 #[.int .i64 k, .string h1, .string h2, .string who, .string a1, .string a2, .string b1, .string b2, .string via] 31)
            obtain ⟨ca, fa, za⟩ := T8.out.a
            obtain ⟨cb, fb, zb⟩ := T8.out.b
            obtain ⟨cx, fx, zx⟩ := HX8.out
            clear hb6 hb7
            go_upto_region 8 with fail
            have HT : TwoAt w #[.int .i64 k, .string h1, .string h2, .string who, .string a1, .string a2, .string b1, .string b2, .string via] #[.int .i64 k', .string h1', .string h2', .string who', .string a1', .string a2', .string b1', .string b2', .string via'] (w7.alloc (.cells #[.int .i64 k, .string h1, .string h2, .string who, .string a1, .string a2, .string b1, .string b2, .string via] 31)).drew := T8.out.drew
            have HX : Blk (w7.alloc (.cells #[.int .i64 k, .string h1, .string h2, .string who, .string a1, .string a2, .string b1, .string b2, .string via] 31)).drew w7.heap.size #[.int .i64 k, .string h1, .string h2, .string who, .string a1, .string a2, .string b1, .string b2, .string via] := HX8.out
            go_region_held3 (fun W => (∀ o, W.cell? ⟨w.heap.size, o, none⟩ = (#[.int .i64 k, .string h1, .string h2, .string who, .string a1, .string a2, .string b1, .string b2, .string via] : Array Value)[o]?) ∧ (∀ o, W.cell? ⟨w.heap.size + 1, o, none⟩ = (#[.int .i64 k', .string h1', .string h2', .string who', .string a1', .string a2', .string b1', .string b2', .string via'] : Array Value)[o]?) ∧ (∀ o, W.cell? ⟨w7.heap.size, o, none⟩ = (#[.int .i64 k, .string h1, .string h2, .string who, .string a1, .string a2, .string b1, .string b2, .string via] : Array Value)[o]?))
              (first | exact ⟨HT.a.1, HT.b.1, HX.1⟩ | go_keep)
              (first
                | (go_at_call_of 19 (Value.agg #[.int .i64 k, .string h1, .string h2, .string who, .string a1, .string a2, .string b1, .string b2, .string via]); refine (PA _).mono ?_; rintro e wq ⟨rfl, hbq⟩; have HT := HT.later hbq; have HX := HX.below hbq; have cq1 := HT.a.1; have cq2 := HT.b.1; have cq3 := HX.1)
                | (go_at_call_of 19 (Value.agg #[.int .i64 k', .string h1', .string h2', .string who', .string a1', .string a2', .string b1', .string b2', .string via']); refine (PB _).mono ?_; rintro e wq ⟨rfl, hbq⟩; have HT := HT.later hbq; have HX := HX.below hbq; have cq1 := HT.a.1; have cq2 := HT.b.1; have cq3 := HX.1)
                | (go_at_call 21; refine (HL.out _ ?_).mono ?_; exact HG.out.below HT.low; rintro e wq ⟨rfl, hbq⟩; have HT := HT.later hbq; have HX := HX.below hbq; have cq1 := HT.a.1; have cq2 := HT.b.1; have cq3 := HX.1))
            go_wp2
            go_ret
            exact ⟨rfl, HT.low⟩
end Go.Proofs.YtakpahlgbcgnmaaDoor
