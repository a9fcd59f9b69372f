/- The statement ReportFaults: the walk of the law (printed by gen_law28f.py). -/
import Derived.Test.YtomhekohcadijaaGreatDoorPartRF42
namespace Go.Proofs.YtomhekohcadijaaGreatDoor
open Go.RowKit Go.Shelf

theorem okF_val {s : ByteArray} (h : okF s = true) : ∃ a b c : Nat, a < 1000000000000000000 ∧ b < 1000000000000000000 ∧ c < 1000000000000000000 ∧ faultV s = .tuple #[.agg #[.int .i64 (a : Int), .int .i64 (b : Int), .int .i64 (c : Int)], .bool true] ∧ faultB a b c = s ∧ readF (bl s) = (a, b, c) := by
  have hf : faultV s = .tuple #[.agg #[.int .i64 ((readF (bl s)).1 : Int), .int .i64 ((readF (bl s)).2.1 : Int), .int .i64 ((readF (bl s)).2.2 : Int)], .bool true] := if_pos h
  unfold okF at h
  rw [Bool.and_eq_true, decide_eq_true_iff, decide_eq_true_iff] at h
  exact ⟨_, _, _, num_lt _, num_lt _, num_lt _, hf, h.2, rfl⟩
theorem okF_no {s : ByteArray} (h : okF s = false) : faultV s = .tuple #[.agg #[.int .i64 0, .int .i64 0, .int .i64 0], .bool false] := if_neg (by rw [h]; exact Bool.false_ne_true)
theorem faultB_size (y l c : Int) (hy : y ≤ 9223372036854775807) (hl : l ≤ 9223372036854775807) (hc : c ≤ 9223372036854775807) : (faultB y l c).size ≤ 100 := by
  by_cases h : y ≤ 0 ∨ l < 0 ∨ c < 0
  · rw [show faultB y l c = emp from if_pos h]; exact Nat.zero_le _
  · rw [fault_parts (by omega) (by omega) (by omega)]
    have h1 := dec_short (n := y.toNat) (by omega)
    have h2 := dec_short (n := l.toNat) (by omega)
    have h3 := dec_short (n := c.toNat) (by omega)
    have e6 : (⟨#[101, 114, 114, 111, 114, 32]⟩ : ByteArray).size = 6 := rfl
    have e4 : (⟨#[32, 97, 116, 32]⟩ : ByteArray).size = 4 := rfl
    have e1 : (⟨#[58]⟩ : ByteArray).size = 1 := rfl
    simp only [ByteArray.size_append, toBA_len, e6, e4, e1]
    omega
theorem okF_fault {y l c : Int} (h : ¬ (y ≤ 0 ∨ l < 0 ∨ c < 0)) (hy : y ≤ 1125899906842624) (hl : l ≤ 1125899906842624) (hc : c ≤ 1125899906842624) : okF (faultB y l c) = true ∧ readF (bl (faultB y l c)) = (y.toNat, l.toNat, c.toNat) := by
  have e : bl (faultB y l c) = faultT y.toNat l.toNat c.toNat := by rw [show faultB y l c = toBA (faultT y.toNat l.toNat c.toNat) from if_neg h]; rfl
  have r : readF (bl (faultB y l c)) = (y.toNat, l.toNat, c.toNat) := by rw [e, read_fault (by omega) (by omega) (by omega)]
  refine ⟨?_, r⟩
  unfold okF
  rw [r, Bool.and_eq_true, decide_eq_true_iff, decide_eq_true_iff]
  constructor
  · intro he
    rw [he] at e
    have := congrArg List.length e
    unfold faultT at this
    simp [bl] at this
  · dsimp only
    rw [show ((y.toNat : Nat) : Int) = y by omega, show ((l.toNat : Nat) : Int) = l by omega, show ((c.toNat : Nat) : Int) = c by omega]
theorem ne_empty {s : ByteArray} (h : ¬ s = emp) : s.toList.isEmpty = false := by
  cases he : s.toList.isEmpty with
  | false => rfl
  | true =>
    exfalso
    rw [toList_bl, List.isEmpty_iff] at he
    exact h (bl_inj.1 he)
theorem okF_emp : okF emp = false := by
  unfold okF
  rw [decide_eq_false (fun h => h rfl : ¬ ¬ emp = emp)]
  rfl
set_option maxRecDepth 100000 in
set_option maxHeartbeats 8000000 in
theorem law28_ReportFaults (y l c : Int) (s : ByteArray) (w : World) (hg : Gl w) (hy : y ≤ 9223372036854775807) (hl : l ≤ 9223372036854775807) (hc : c ≤ 9223372036854775807) (hs : s.size ≤ 9223372036854775807) :
    Calls Tryz.prog 7 #[.agg #[.int .i64 y, .int .i64 l, .int .i64 c], .string s] w fun e w' => e = .returned (.bool true) ∧ Below w.heap.size w w' := by
  have HL := Lib.hid (fun W (hb : Below w.heap.size w W) => law28_lives W (hg.below hb))
  have F1 := Lib.hid (fun W => rep_Fault y l c W hy hl hc)
  have F2 := Lib.hid (fun W => ref28_Fault y l c W hy hl hc)
  have HX := Lib.hid (faultB_size y l c hy hl hc)
  have RX := Lib.hid (fun W (hb : Below w.heap.size w W) => rep_ReadFault (faultB y l c) W (Nat.le_trans (faultB_size y l c hy hl hc) (by decide)) (hg.below hb))
  have HG := Lib.hid hg
  have hr : (s.extract 0 (min (s.size : Int) 60).toNat).size ≤ 60 := by simp; omega
  have HT := Lib.hid (show OneAt w #[.int .i64 y, .int .i64 l, .int .i64 c] (w.alloc (.cells #[.int .i64 y, .int .i64 l, .int .i64 c] 48)) from ⟨Blk.new w _ _, (Below.refl _ _).alloc (Nat.le_refl _) _⟩)
  have hEq := fault_eql
  have hself := eqF_same
  -- what is read of the fault's own text
  have GK : (∃ a b d : Nat, faultV (faultB y l c) = .tuple #[.agg #[.int .i64 (a : Int), .int .i64 (b : Int), .int .i64 (d : Int)], .bool true] ∧ (y ≤ 1125899906842624 → l ≤ 1125899906842624 → c ≤ 1125899906842624 → ¬ faultB y l c = emp ∧ (a : Int) = y ∧ (b : Int) = l ∧ (d : Int) = c)) ∨ (faultV (faultB y l c) = .tuple #[.agg #[.int .i64 0, .int .i64 0, .int .i64 0], .bool false] ∧ (y ≤ 1125899906842624 → l ≤ 1125899906842624 → c ≤ 1125899906842624 → faultB y l c = emp)) := by
    cases hok : okF (faultB y l c) with
    | true =>
      obtain ⟨a, b, d, _, _, _, hv, _, hr⟩ := okF_val hok
      refine .inl ⟨a, b, d, hv, fun h1 h2 h3 => ?_⟩
      by_cases h : y ≤ 0 ∨ l < 0 ∨ c < 0
      · rw [show faultB y l c = emp from if_pos h, okF_emp] at hok
        cases hok
      · have e := (okF_fault h h1 h2 h3).2
        rw [hr] at e
        simp only [Prod.mk.injEq] at e
        refine ⟨fun h' => ?_, by omega, by omega, by omega⟩
        rw [h', okF_emp] at hok
        cases hok
    | false =>
      refine .inr ⟨okF_no hok, fun h1 h2 h3 => ?_⟩
      by_cases h : y ≤ 0 ∨ l < 0 ∨ c < 0
      · exact if_pos h
      · rw [(okF_fault h h1 h2 h3).1] at hok
        cases hok
  have GKH := Lib.hid GK
  clear GK hg
  generalize faultV (faultB y l c) = fv at *
  generalize faultB y l c = x at *
  have hxx : (x.toList == x.toList) = true := by simp
  go_enter Tryz.func7, Tryz.ntmps7
  go_wp2_with fail
  generalize s.extract 0 (min (s.size : Int) 60).toNat = t at *
  refine (F1.out _).mono ?_
  rintro e w1 ⟨rfl, hb1⟩
  have HT := Lib.hid (HT.out.later hb1)
  clear hb1 F1
  have GKC := GKH.out
  clear GKH
  rcases GKC with ⟨a, b, d, hfv, hgk⟩ | ⟨hfv, hgk⟩
  · rw [hfv] at RX
    clear hfv
    go_wp2_with fail
    refine (RX.out _ HT.out.low).mono ?_
    rintro e w2 ⟨rfl, hb2⟩
    have HT := Lib.hid (HT.out.later hb2)
    clear hb2 RX
    have hbq : Below w2.heap.size w2 (w2.alloc (.cells #[.int .i64 (a : Int), .int .i64 (b : Int), .int .i64 (d : Int)] 48)) := (Below.refl _ _).alloc (Nat.le_refl _) _
    have HGB := Lib.hid (Blk.new w2 #[.int .i64 (a : Int), .int .i64 (b : Int), .int .i64 (d : Int)] 48)
    have HT := Lib.hid (HT.out.later hbq)
    obtain ⟨gg, hgg⟩ : ∃ g, g = w2.heap.size := ⟨_, rfl⟩
    obtain ⟨w3, hw3⟩ : ∃ W, W = w2.alloc (.cells #[.int .i64 (a : Int), .int .i64 (b : Int), .int .i64 (d : Int)] 48) := ⟨_, rfl⟩
    clear hbq
    have RT := Lib.hid (fun W (hb : Below w.heap.size w W) => rep_ReadFault t W (by omega) (HG.out.below hb))
    have TK : (∃ a' b' d' : Nat, a' < 1000000000000000000 ∧ b' < 1000000000000000000 ∧ d' < 1000000000000000000 ∧ faultV t = .tuple #[.agg #[.int .i64 (a' : Int), .int .i64 (b' : Int), .int .i64 (d' : Int)], .bool true] ∧ faultB a' b' d' = t) ∨ faultV t = .tuple #[.agg #[.int .i64 0, .int .i64 0, .int .i64 0], .bool false] := by
      cases hok : okF t with
      | true =>
        obtain ⟨a', b', d', q1, q2, q3, hv, hb, _⟩ := okF_val hok
        exact .inl ⟨a', b', d', q1, q2, q3, hv, hb⟩
      | false => exact .inr (okF_no hok)
    go_wp2_with fail
    rw [← hgg, ← hw3]
    rw [← hw3] at HT HGB
    rw [← hgg] at HGB
    clear hw3 hgg
    rcases TK with ⟨a', b', d', q1, q2, q3, htv, htb⟩ | htv
    · rw [htv] at RT
      clear htv
      have F3 := Lib.hid (fun W => ref28_Fault a' b' d' W (by omega) (by omega) (by omega))
      rw [htb] at F3
      clear htb
      refine (RT.out _ HT.out.low).mono ?_
      rintro e w4 ⟨rfl, hb4⟩
      have HGB := Lib.hid (HGB.out.below hb4)
      have HT := Lib.hid (HT.out.later hb4)
      clear hb4 RT
      have hbq : Below w4.heap.size w4 (w4.alloc (.cells #[.int .i64 (a' : Int), .int .i64 (b' : Int), .int .i64 (d' : Int)] 48)) := (Below.refl _ _).alloc (Nat.le_refl _) _
      have HHB := Lib.hid (Blk.new w4 #[.int .i64 (a' : Int), .int .i64 (b' : Int), .int .i64 (d' : Int)] 48)
      have HGB := Lib.hid (HGB.out.below hbq)
      have HT := Lib.hid (HT.out.later hbq)
      obtain ⟨gh, hgh⟩ : ∃ g, g = w4.heap.size := ⟨_, rfl⟩
      obtain ⟨w5, hw5⟩ : ∃ W, W = w4.alloc (.cells #[.int .i64 (a' : Int), .int .i64 (b' : Int), .int .i64 (d' : Int)] 48) := ⟨_, rfl⟩
      clear hbq
      go_upto_region 5 with fail
      rw [← hgh, ← hw5]
      rw [← hw5] at HT HGB HHB
      rw [← hgh] at HHB
      clear hw5 hgh
      by_cases h1 : 1125899906842624 < l
      · have d1 : decide (1125899906842624 < l) = true := decide_eq_true h1
        clear hgk
        obtain ⟨cr, fr, zr⟩ := HT.out.a
        go_wp2_with fail
        refine (F2.out _).mono ?_
        rintro e w6 ⟨rfl, hb6⟩
        have HGB := Lib.hid (HGB.out.below hb6)
        have HHB := Lib.hid (HHB.out.below hb6)
        have HT := Lib.hid (HT.out.later hb6)
        clear hb6 cr fr zr
        obtain ⟨cr, fr, zr⟩ := HT.out.a
        obtain ⟨cg, fg, zg⟩ := HGB.out
        obtain ⟨ch, fh, zh⟩ := HHB.out
        go_wp2_with fail
        refine (F3.out _).mono ?_
        rintro e w7 ⟨rfl, hb7⟩
        have HT := Lib.hid (HT.out.later hb7)
        clear hb7 cr fr zr cg fg zg ch fh zh
        have htt : (t.toList == t.toList) = true := by simp
        go_wp2_with fail
        refine (HL.out _ HT.out.low).mono ?_
        rintro e w9 ⟨rfl, hb9⟩
        have HT := Lib.hid (HT.out.later hb9)
        clear hb9
        go_wp2
        go_ret
        exact ⟨rfl, HT.out.low⟩
      by_cases h2 : 1125899906842624 < c
      · have d1 : decide (1125899906842624 < l) = false := decide_eq_false h1
        have d2 : decide (1125899906842624 < c) = true := decide_eq_true h2
        clear hgk
        obtain ⟨cr, fr, zr⟩ := HT.out.a
        go_wp2_with fail
        refine (F2.out _).mono ?_
        rintro e w6 ⟨rfl, hb6⟩
        have HGB := Lib.hid (HGB.out.below hb6)
        have HHB := Lib.hid (HHB.out.below hb6)
        have HT := Lib.hid (HT.out.later hb6)
        clear hb6 cr fr zr
        obtain ⟨cr, fr, zr⟩ := HT.out.a
        obtain ⟨cg, fg, zg⟩ := HGB.out
        obtain ⟨ch, fh, zh⟩ := HHB.out
        go_wp2_with fail
        refine (F3.out _).mono ?_
        rintro e w7 ⟨rfl, hb7⟩
        have HT := Lib.hid (HT.out.later hb7)
        clear hb7 cr fr zr cg fg zg ch fh zh
        have htt : (t.toList == t.toList) = true := by simp
        go_wp2_with fail
        refine (HL.out _ HT.out.low).mono ?_
        rintro e w9 ⟨rfl, hb9⟩
        have HT := Lib.hid (HT.out.later hb9)
        clear hb9
        go_wp2
        go_ret
        exact ⟨rfl, HT.out.low⟩
      by_cases h3 : 1125899906842624 < y
      · have d1 : decide (1125899906842624 < l) = false := decide_eq_false h1
        have d2 : decide (1125899906842624 < c) = false := decide_eq_false h2
        have d3 : decide (1125899906842624 < y) = true := decide_eq_true h3
        clear hgk
        obtain ⟨cr, fr, zr⟩ := HT.out.a
        go_wp2_with fail
        refine (F2.out _).mono ?_
        rintro e w6 ⟨rfl, hb6⟩
        have HGB := Lib.hid (HGB.out.below hb6)
        have HHB := Lib.hid (HHB.out.below hb6)
        have HT := Lib.hid (HT.out.later hb6)
        clear hb6 cr fr zr
        obtain ⟨cr, fr, zr⟩ := HT.out.a
        obtain ⟨cg, fg, zg⟩ := HGB.out
        obtain ⟨ch, fh, zh⟩ := HHB.out
        go_wp2_with fail
        refine (F3.out _).mono ?_
        rintro e w7 ⟨rfl, hb7⟩
        have HT := Lib.hid (HT.out.later hb7)
        clear hb7 cr fr zr cg fg zg ch fh zh
        have htt : (t.toList == t.toList) = true := by simp
        go_wp2_with fail
        refine (HL.out _ HT.out.low).mono ?_
        rintro e w9 ⟨rfl, hb9⟩
        have HT := Lib.hid (HT.out.later hb9)
        clear hb9
        go_wp2
        go_ret
        exact ⟨rfl, HT.out.low⟩
      have d1 : decide (1125899906842624 < l) = false := decide_eq_false h1
      have d2 : decide (1125899906842624 < c) = false := decide_eq_false h2
      have d3 : decide (1125899906842624 < y) = false := decide_eq_false h3
      obtain ⟨hne, ea, eb, ed⟩ := hgk (by omega) (by omega) (by omega)
      have dx : x.toList.isEmpty = false := ne_empty hne
      subst ea eb ed
      clear hne
      clear hgk
      obtain ⟨cr, fr, zr⟩ := HT.out.a
      go_wp2_with fail
      refine (F2.out _).mono ?_
      rintro e w6 ⟨rfl, hb6⟩
      have HGB := Lib.hid (HGB.out.below hb6)
      have HHB := Lib.hid (HHB.out.below hb6)
      have HT := Lib.hid (HT.out.later hb6)
      clear hb6 cr fr zr
      obtain ⟨cr, fr, zr⟩ := HT.out.a
      obtain ⟨cg, fg, zg⟩ := HGB.out
      obtain ⟨ch, fh, zh⟩ := HHB.out
      go_wp2_with fail
      refine (F3.out _).mono ?_
      rintro e w7 ⟨rfl, hb7⟩
      have HT := Lib.hid (HT.out.later hb7)
      clear hb7 cr fr zr cg fg zg ch fh zh
      have htt : (t.toList == t.toList) = true := by simp
      go_wp2_with fail
      refine (HL.out _ HT.out.low).mono ?_
      rintro e w9 ⟨rfl, hb9⟩
      have HT := Lib.hid (HT.out.later hb9)
      clear hb9
      go_wp2
      go_ret
      exact ⟨rfl, HT.out.low⟩
    · rw [htv] at RT
      clear htv
      refine (RT.out _ HT.out.low).mono ?_
      rintro e w4 ⟨rfl, hb4⟩
      have HGB := Lib.hid (HGB.out.below hb4)
      have HT := Lib.hid (HT.out.later hb4)
      clear hb4 RT
      have hbq : Below w4.heap.size w4 (w4.alloc (.cells #[.int .i64 0, .int .i64 0, .int .i64 0] 48)) := (Below.refl _ _).alloc (Nat.le_refl _) _
      have HHB := Lib.hid (Blk.new w4 #[.int .i64 0, .int .i64 0, .int .i64 0] 48)
      have HGB := Lib.hid (HGB.out.below hbq)
      have HT := Lib.hid (HT.out.later hbq)
      obtain ⟨gh, hgh⟩ : ∃ g, g = w4.heap.size := ⟨_, rfl⟩
      obtain ⟨w5, hw5⟩ : ∃ W, W = w4.alloc (.cells #[.int .i64 0, .int .i64 0, .int .i64 0] 48) := ⟨_, rfl⟩
      clear hbq
      go_upto_region 5 with fail
      rw [← hgh, ← hw5]
      rw [← hw5] at HT HGB HHB
      rw [← hgh] at HHB
      clear hw5 hgh
      by_cases h1 : 1125899906842624 < l
      · have d1 : decide (1125899906842624 < l) = true := decide_eq_true h1
        clear hgk
        obtain ⟨cr, fr, zr⟩ := HT.out.a
        go_wp2_with fail
        refine (F2.out _).mono ?_
        rintro e w6 ⟨rfl, hb6⟩
        have HGB := Lib.hid (HGB.out.below hb6)
        have HHB := Lib.hid (HHB.out.below hb6)
        have HT := Lib.hid (HT.out.later hb6)
        clear hb6 cr fr zr
        obtain ⟨cr, fr, zr⟩ := HT.out.a
        obtain ⟨cg, fg, zg⟩ := HGB.out
        obtain ⟨ch, fh, zh⟩ := HHB.out
        go_wp2_with fail
        clear cr fr zr cg fg zg ch fh zh
        refine (HL.out _ HT.out.low).mono ?_
        rintro e w9 ⟨rfl, hb9⟩
        have HT := Lib.hid (HT.out.later hb9)
        clear hb9
        go_wp2
        go_ret
        exact ⟨rfl, HT.out.low⟩
      by_cases h2 : 1125899906842624 < c
      · have d1 : decide (1125899906842624 < l) = false := decide_eq_false h1
        have d2 : decide (1125899906842624 < c) = true := decide_eq_true h2
        clear hgk
        obtain ⟨cr, fr, zr⟩ := HT.out.a
        go_wp2_with fail
        refine (F2.out _).mono ?_
        rintro e w6 ⟨rfl, hb6⟩
        have HGB := Lib.hid (HGB.out.below hb6)
        have HHB := Lib.hid (HHB.out.below hb6)
        have HT := Lib.hid (HT.out.later hb6)
        clear hb6 cr fr zr
        obtain ⟨cr, fr, zr⟩ := HT.out.a
        obtain ⟨cg, fg, zg⟩ := HGB.out
        obtain ⟨ch, fh, zh⟩ := HHB.out
        go_wp2_with fail
        clear cr fr zr cg fg zg ch fh zh
        refine (HL.out _ HT.out.low).mono ?_
        rintro e w9 ⟨rfl, hb9⟩
        have HT := Lib.hid (HT.out.later hb9)
        clear hb9
        go_wp2
        go_ret
        exact ⟨rfl, HT.out.low⟩
      by_cases h3 : 1125899906842624 < y
      · have d1 : decide (1125899906842624 < l) = false := decide_eq_false h1
        have d2 : decide (1125899906842624 < c) = false := decide_eq_false h2
        have d3 : decide (1125899906842624 < y) = true := decide_eq_true h3
        clear hgk
        obtain ⟨cr, fr, zr⟩ := HT.out.a
        go_wp2_with fail
        refine (F2.out _).mono ?_
        rintro e w6 ⟨rfl, hb6⟩
        have HGB := Lib.hid (HGB.out.below hb6)
        have HHB := Lib.hid (HHB.out.below hb6)
        have HT := Lib.hid (HT.out.later hb6)
        clear hb6 cr fr zr
        obtain ⟨cr, fr, zr⟩ := HT.out.a
        obtain ⟨cg, fg, zg⟩ := HGB.out
        obtain ⟨ch, fh, zh⟩ := HHB.out
        go_wp2_with fail
        clear cr fr zr cg fg zg ch fh zh
        refine (HL.out _ HT.out.low).mono ?_
        rintro e w9 ⟨rfl, hb9⟩
        have HT := Lib.hid (HT.out.later hb9)
        clear hb9
        go_wp2
        go_ret
        exact ⟨rfl, HT.out.low⟩
      have d1 : decide (1125899906842624 < l) = false := decide_eq_false h1
      have d2 : decide (1125899906842624 < c) = false := decide_eq_false h2
      have d3 : decide (1125899906842624 < y) = false := decide_eq_false h3
      obtain ⟨hne, ea, eb, ed⟩ := hgk (by omega) (by omega) (by omega)
      have dx : x.toList.isEmpty = false := ne_empty hne
      subst ea eb ed
      clear hne
      clear hgk
      obtain ⟨cr, fr, zr⟩ := HT.out.a
      go_wp2_with fail
      refine (F2.out _).mono ?_
      rintro e w6 ⟨rfl, hb6⟩
      have HGB := Lib.hid (HGB.out.below hb6)
      have HHB := Lib.hid (HHB.out.below hb6)
      have HT := Lib.hid (HT.out.later hb6)
      clear hb6 cr fr zr
      obtain ⟨cr, fr, zr⟩ := HT.out.a
      obtain ⟨cg, fg, zg⟩ := HGB.out
      obtain ⟨ch, fh, zh⟩ := HHB.out
      go_wp2_with fail
      clear cr fr zr cg fg zg ch fh zh
      refine (HL.out _ HT.out.low).mono ?_
      rintro e w9 ⟨rfl, hb9⟩
      have HT := Lib.hid (HT.out.later hb9)
      clear hb9
      go_wp2
      go_ret
      exact ⟨rfl, HT.out.low⟩
  · rw [hfv] at RX
    clear hfv
    go_wp2_with fail
    refine (RX.out _ HT.out.low).mono ?_
    rintro e w2 ⟨rfl, hb2⟩
    have HT := Lib.hid (HT.out.later hb2)
    clear hb2 RX
    have hbq : Below w2.heap.size w2 (w2.alloc (.cells #[.int .i64 0, .int .i64 0, .int .i64 0] 48)) := (Below.refl _ _).alloc (Nat.le_refl _) _
    have HGB := Lib.hid (Blk.new w2 #[.int .i64 0, .int .i64 0, .int .i64 0] 48)
    have HT := Lib.hid (HT.out.later hbq)
    obtain ⟨gg, hgg⟩ : ∃ g, g = w2.heap.size := ⟨_, rfl⟩
    obtain ⟨w3, hw3⟩ : ∃ W, W = w2.alloc (.cells #[.int .i64 0, .int .i64 0, .int .i64 0] 48) := ⟨_, rfl⟩
    clear hbq
    have RT := Lib.hid (fun W (hb : Below w.heap.size w W) => rep_ReadFault t W (by omega) (HG.out.below hb))
    have TK : (∃ a' b' d' : Nat, a' < 1000000000000000000 ∧ b' < 1000000000000000000 ∧ d' < 1000000000000000000 ∧ faultV t = .tuple #[.agg #[.int .i64 (a' : Int), .int .i64 (b' : Int), .int .i64 (d' : Int)], .bool true] ∧ faultB a' b' d' = t) ∨ faultV t = .tuple #[.agg #[.int .i64 0, .int .i64 0, .int .i64 0], .bool false] := by
      cases hok : okF t with
      | true =>
        obtain ⟨a', b', d', q1, q2, q3, hv, hb, _⟩ := okF_val hok
        exact .inl ⟨a', b', d', q1, q2, q3, hv, hb⟩
      | false => exact .inr (okF_no hok)
    go_wp2_with fail
    rw [← hgg, ← hw3]
    rw [← hw3] at HT HGB
    rw [← hgg] at HGB
    clear hw3 hgg
    rcases TK with ⟨a', b', d', q1, q2, q3, htv, htb⟩ | htv
    · rw [htv] at RT
      clear htv
      have F3 := Lib.hid (fun W => ref28_Fault a' b' d' W (by omega) (by omega) (by omega))
      rw [htb] at F3
      clear htb
      refine (RT.out _ HT.out.low).mono ?_
      rintro e w4 ⟨rfl, hb4⟩
      have HGB := Lib.hid (HGB.out.below hb4)
      have HT := Lib.hid (HT.out.later hb4)
      clear hb4 RT
      have hbq : Below w4.heap.size w4 (w4.alloc (.cells #[.int .i64 (a' : Int), .int .i64 (b' : Int), .int .i64 (d' : Int)] 48)) := (Below.refl _ _).alloc (Nat.le_refl _) _
      have HHB := Lib.hid (Blk.new w4 #[.int .i64 (a' : Int), .int .i64 (b' : Int), .int .i64 (d' : Int)] 48)
      have HGB := Lib.hid (HGB.out.below hbq)
      have HT := Lib.hid (HT.out.later hbq)
      obtain ⟨gh, hgh⟩ : ∃ g, g = w4.heap.size := ⟨_, rfl⟩
      obtain ⟨w5, hw5⟩ : ∃ W, W = w4.alloc (.cells #[.int .i64 (a' : Int), .int .i64 (b' : Int), .int .i64 (d' : Int)] 48) := ⟨_, rfl⟩
      clear hbq
      go_upto_region 5 with fail
      rw [← hgh, ← hw5]
      rw [← hw5] at HT HGB HHB
      rw [← hgh] at HHB
      clear hw5 hgh
      by_cases h1 : 1125899906842624 < l
      · have d1 : decide (1125899906842624 < l) = true := decide_eq_true h1
        clear hgk
        obtain ⟨cr, fr, zr⟩ := HT.out.a
        go_wp2_with fail
        refine (F2.out _).mono ?_
        rintro e w6 ⟨rfl, hb6⟩
        have HGB := Lib.hid (HGB.out.below hb6)
        have HHB := Lib.hid (HHB.out.below hb6)
        have HT := Lib.hid (HT.out.later hb6)
        clear hb6 cr fr zr
        obtain ⟨cr, fr, zr⟩ := HT.out.a
        obtain ⟨cg, fg, zg⟩ := HGB.out
        obtain ⟨ch, fh, zh⟩ := HHB.out
        go_wp2_with fail
        refine (F3.out _).mono ?_
        rintro e w7 ⟨rfl, hb7⟩
        have HT := Lib.hid (HT.out.later hb7)
        clear hb7 cr fr zr cg fg zg ch fh zh
        have htt : (t.toList == t.toList) = true := by simp
        go_wp2_with fail
        refine (HL.out _ HT.out.low).mono ?_
        rintro e w9 ⟨rfl, hb9⟩
        have HT := Lib.hid (HT.out.later hb9)
        clear hb9
        go_wp2
        go_ret
        exact ⟨rfl, HT.out.low⟩
      by_cases h2 : 1125899906842624 < c
      · have d1 : decide (1125899906842624 < l) = false := decide_eq_false h1
        have d2 : decide (1125899906842624 < c) = true := decide_eq_true h2
        clear hgk
        obtain ⟨cr, fr, zr⟩ := HT.out.a
        go_wp2_with fail
        refine (F2.out _).mono ?_
        rintro e w6 ⟨rfl, hb6⟩
        have HGB := Lib.hid (HGB.out.below hb6)
        have HHB := Lib.hid (HHB.out.below hb6)
        have HT := Lib.hid (HT.out.later hb6)
        clear hb6 cr fr zr
        obtain ⟨cr, fr, zr⟩ := HT.out.a
        obtain ⟨cg, fg, zg⟩ := HGB.out
        obtain ⟨ch, fh, zh⟩ := HHB.out
        go_wp2_with fail
        refine (F3.out _).mono ?_
        rintro e w7 ⟨rfl, hb7⟩
        have HT := Lib.hid (HT.out.later hb7)
        clear hb7 cr fr zr cg fg zg ch fh zh
        have htt : (t.toList == t.toList) = true := by simp
        go_wp2_with fail
        refine (HL.out _ HT.out.low).mono ?_
        rintro e w9 ⟨rfl, hb9⟩
        have HT := Lib.hid (HT.out.later hb9)
        clear hb9
        go_wp2
        go_ret
        exact ⟨rfl, HT.out.low⟩
      by_cases h3 : 1125899906842624 < y
      · have d1 : decide (1125899906842624 < l) = false := decide_eq_false h1
        have d2 : decide (1125899906842624 < c) = false := decide_eq_false h2
        have d3 : decide (1125899906842624 < y) = true := decide_eq_true h3
        clear hgk
        obtain ⟨cr, fr, zr⟩ := HT.out.a
        go_wp2_with fail
        refine (F2.out _).mono ?_
        rintro e w6 ⟨rfl, hb6⟩
        have HGB := Lib.hid (HGB.out.below hb6)
        have HHB := Lib.hid (HHB.out.below hb6)
        have HT := Lib.hid (HT.out.later hb6)
        clear hb6 cr fr zr
        obtain ⟨cr, fr, zr⟩ := HT.out.a
        obtain ⟨cg, fg, zg⟩ := HGB.out
        obtain ⟨ch, fh, zh⟩ := HHB.out
        go_wp2_with fail
        refine (F3.out _).mono ?_
        rintro e w7 ⟨rfl, hb7⟩
        have HT := Lib.hid (HT.out.later hb7)
        clear hb7 cr fr zr cg fg zg ch fh zh
        have htt : (t.toList == t.toList) = true := by simp
        go_wp2_with fail
        refine (HL.out _ HT.out.low).mono ?_
        rintro e w9 ⟨rfl, hb9⟩
        have HT := Lib.hid (HT.out.later hb9)
        clear hb9
        go_wp2
        go_ret
        exact ⟨rfl, HT.out.low⟩
      have d1 : decide (1125899906842624 < l) = false := decide_eq_false h1
      have d2 : decide (1125899906842624 < c) = false := decide_eq_false h2
      have d3 : decide (1125899906842624 < y) = false := decide_eq_false h3
      have hxe := hgk (by omega) (by omega) (by omega)
      have dx : x.toList.isEmpty = true := by rw [hxe]; exact (show (ByteArray.toList ⟨#[]⟩).isEmpty = true by kernel_rfl)
      clear hxe
      clear hgk
      obtain ⟨cr, fr, zr⟩ := HT.out.a
      go_wp2_with fail
      refine (F2.out _).mono ?_
      rintro e w6 ⟨rfl, hb6⟩
      have HGB := Lib.hid (HGB.out.below hb6)
      have HHB := Lib.hid (HHB.out.below hb6)
      have HT := Lib.hid (HT.out.later hb6)
      clear hb6 cr fr zr
      obtain ⟨cr, fr, zr⟩ := HT.out.a
      obtain ⟨cg, fg, zg⟩ := HGB.out
      obtain ⟨ch, fh, zh⟩ := HHB.out
      go_wp2_with fail
      refine (F3.out _).mono ?_
      rintro e w7 ⟨rfl, hb7⟩
      have HT := Lib.hid (HT.out.later hb7)
      clear hb7 cr fr zr cg fg zg ch fh zh
      have htt : (t.toList == t.toList) = true := by simp
      go_wp2_with fail
      refine (HL.out _ HT.out.low).mono ?_
      rintro e w9 ⟨rfl, hb9⟩
      have HT := Lib.hid (HT.out.later hb9)
      clear hb9
      go_wp2
      go_ret
      exact ⟨rfl, HT.out.low⟩
    · rw [htv] at RT
      clear htv
      refine (RT.out _ HT.out.low).mono ?_
      rintro e w4 ⟨rfl, hb4⟩
      have HGB := Lib.hid (HGB.out.below hb4)
      have HT := Lib.hid (HT.out.later hb4)
      clear hb4 RT
      have hbq : Below w4.heap.size w4 (w4.alloc (.cells #[.int .i64 0, .int .i64 0, .int .i64 0] 48)) := (Below.refl _ _).alloc (Nat.le_refl _) _
      have HHB := Lib.hid (Blk.new w4 #[.int .i64 0, .int .i64 0, .int .i64 0] 48)
      have HGB := Lib.hid (HGB.out.below hbq)
      have HT := Lib.hid (HT.out.later hbq)
      obtain ⟨gh, hgh⟩ : ∃ g, g = w4.heap.size := ⟨_, rfl⟩
      obtain ⟨w5, hw5⟩ : ∃ W, W = w4.alloc (.cells #[.int .i64 0, .int .i64 0, .int .i64 0] 48) := ⟨_, rfl⟩
      clear hbq
      go_upto_region 5 with fail
      rw [← hgh, ← hw5]
      rw [← hw5] at HT HGB HHB
      rw [← hgh] at HHB
      clear hw5 hgh
      by_cases h1 : 1125899906842624 < l
      · have d1 : decide (1125899906842624 < l) = true := decide_eq_true h1
        clear hgk
        obtain ⟨cr, fr, zr⟩ := HT.out.a
        go_wp2_with fail
        refine (F2.out _).mono ?_
        rintro e w6 ⟨rfl, hb6⟩
        have HGB := Lib.hid (HGB.out.below hb6)
        have HHB := Lib.hid (HHB.out.below hb6)
        have HT := Lib.hid (HT.out.later hb6)
        clear hb6 cr fr zr
        obtain ⟨cr, fr, zr⟩ := HT.out.a
        obtain ⟨cg, fg, zg⟩ := HGB.out
        obtain ⟨ch, fh, zh⟩ := HHB.out
        go_wp2_with fail
        clear cr fr zr cg fg zg ch fh zh
        refine (HL.out _ HT.out.low).mono ?_
        rintro e w9 ⟨rfl, hb9⟩
        have HT := Lib.hid (HT.out.later hb9)
        clear hb9
        go_wp2
        go_ret
        exact ⟨rfl, HT.out.low⟩
      by_cases h2 : 1125899906842624 < c
      · have d1 : decide (1125899906842624 < l) = false := decide_eq_false h1
        have d2 : decide (1125899906842624 < c) = true := decide_eq_true h2
        clear hgk
        obtain ⟨cr, fr, zr⟩ := HT.out.a
        go_wp2_with fail
        refine (F2.out _).mono ?_
        rintro e w6 ⟨rfl, hb6⟩
        have HGB := Lib.hid (HGB.out.below hb6)
        have HHB := Lib.hid (HHB.out.below hb6)
        have HT := Lib.hid (HT.out.later hb6)
        clear hb6 cr fr zr
        obtain ⟨cr, fr, zr⟩ := HT.out.a
        obtain ⟨cg, fg, zg⟩ := HGB.out
        obtain ⟨ch, fh, zh⟩ := HHB.out
        go_wp2_with fail
        clear cr fr zr cg fg zg ch fh zh
        refine (HL.out _ HT.out.low).mono ?_
        rintro e w9 ⟨rfl, hb9⟩
        have HT := Lib.hid (HT.out.later hb9)
        clear hb9
        go_wp2
        go_ret
        exact ⟨rfl, HT.out.low⟩
      by_cases h3 : 1125899906842624 < y
      · have d1 : decide (1125899906842624 < l) = false := decide_eq_false h1
        have d2 : decide (1125899906842624 < c) = false := decide_eq_false h2
        have d3 : decide (1125899906842624 < y) = true := decide_eq_true h3
        clear hgk
        obtain ⟨cr, fr, zr⟩ := HT.out.a
        go_wp2_with fail
        refine (F2.out _).mono ?_
        rintro e w6 ⟨rfl, hb6⟩
        have HGB := Lib.hid (HGB.out.below hb6)
        have HHB := Lib.hid (HHB.out.below hb6)
        have HT := Lib.hid (HT.out.later hb6)
        clear hb6 cr fr zr
        obtain ⟨cr, fr, zr⟩ := HT.out.a
        obtain ⟨cg, fg, zg⟩ := HGB.out
        obtain ⟨ch, fh, zh⟩ := HHB.out
        go_wp2_with fail
        clear cr fr zr cg fg zg ch fh zh
        refine (HL.out _ HT.out.low).mono ?_
        rintro e w9 ⟨rfl, hb9⟩
        have HT := Lib.hid (HT.out.later hb9)
        clear hb9
        go_wp2
        go_ret
        exact ⟨rfl, HT.out.low⟩
      have d1 : decide (1125899906842624 < l) = false := decide_eq_false h1
      have d2 : decide (1125899906842624 < c) = false := decide_eq_false h2
      have d3 : decide (1125899906842624 < y) = false := decide_eq_false h3
      have hxe := hgk (by omega) (by omega) (by omega)
      have dx : x.toList.isEmpty = true := by rw [hxe]; exact (show (ByteArray.toList ⟨#[]⟩).isEmpty = true by kernel_rfl)
      clear hxe
      clear hgk
      obtain ⟨cr, fr, zr⟩ := HT.out.a
      go_wp2_with fail
      refine (F2.out _).mono ?_
      rintro e w6 ⟨rfl, hb6⟩
      have HGB := Lib.hid (HGB.out.below hb6)
      have HHB := Lib.hid (HHB.out.below hb6)
      have HT := Lib.hid (HT.out.later hb6)
      clear hb6 cr fr zr
      obtain ⟨cr, fr, zr⟩ := HT.out.a
      obtain ⟨cg, fg, zg⟩ := HGB.out
      obtain ⟨ch, fh, zh⟩ := HHB.out
      go_wp2_with fail
      clear cr fr zr cg fg zg ch fh zh
      refine (HL.out _ HT.out.low).mono ?_
      rintro e w9 ⟨rfl, hb9⟩
      have HT := Lib.hid (HT.out.later hb9)
      clear hb9
      go_wp2
      go_ret
      exact ⟨rfl, HT.out.low⟩
end Go.Proofs.YtomhekohcadijaaGreatDoor
