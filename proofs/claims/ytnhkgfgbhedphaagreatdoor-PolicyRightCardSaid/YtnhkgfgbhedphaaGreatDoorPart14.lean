/- The reader of package query: who (printed by gen_qwho.py). A row of the call's own stands above every lower bound. query.Parse: what it returns, for every line. A store into a block of slices leaves all rows of other things as they were. table.Table.RoleAt. Rules compared; the role of a number. table.Table.Rule (printed by gen_tabrule.py). Plain laws: which rules may be; the statement of a rule; rules and statements undo each other. Plain laws: the least model of rules, and of statements; worklists; rows of pairs. Plain laws: the bits of a word, and rows of numbers in order. Worlds that differ in named blocks alone; blocks whose cells a function tells. A region that draws its order and ends in a store into a cell that it loads: what is loaded is held up to the last operation, which waits for all others. (*policy.maker).line: a policy with a line more. -/
import Derived.Test.YtnhkgfgbhedphaaGreatDoorPart13
import Derived.Test.YtnhkgfgbhedphaaGreatDoorPart1
import Derived.Test.YtnhkgfgbhedphaaGreatDoorPart10
import Derived.Test.YtnhkgfgbhedphaaGreatDoorPart3
import Derived.Test.YtnhkgfgbhedphaaGreatDoorShelf2
import Derived.Test.YtnhkgfgbhedphaaGreatDoorPart4
import Derived.Test.YtnhkgfgbhedphaaGreatDoorPart6
import Derived.Test.YtnhkgfgbhedphaaGreatDoorPart8
import Derived.Test.YtnhkgfgbhedphaaGreatDoorPart2
import Derived.Test.YtnhkgfgbhedphaaGreatDoorPart12
import Derived.Lib.TrailingZeros
import Derived.Laws.Bits64b
import Derived.WalkSmall
import Derived.Test.YtnhkgfgbhedphaaGreatDoorPart7
namespace Go.Proofs.YtnhkgfgbhedphaaGreatDoor
open Go.RowKit Go.Shelf

theorem gb_far {a b c : World} {r q : Option Nat} (h : a.grownBy b r) (h2 : b.grownBy c q) (hq : ∀ k, q = some k → a.heap.size ≤ k) : a.grownBy c r :=
  ⟨h2.os.trans h.os, h2.tape.trans h.tape, h2.output.trans h.output, Nat.le_trans h.size h2.size, fun i hi hne => (h2.block i (Nat.lt_of_lt_of_le hi h.size) (fun e => by have := hq i e.symm; omega)).trans (h.block i hi hne)⟩
set_option maxRecDepth 100000 in
set_option maxHeartbeats 8000000 in
theorem qr_who (r : Rd) (few : Int) (w0 w : World) (g : Nat) (h : RdAt w0 w g r) (hn : r.l.length ≤ 1000) :
    Calls Tryz.prog 166 #[.pointer (some ⟨g, 0, none⟩), .int .i64 few] w fun e w' => ∃ a c, e = .returned (.slice a (r.who few).1.length c) ∧ RdAt w0 w' g (r.who few).2 ∧ w'.ownsRow w.heap.size 9 1 (.slice a (r.who few).1.length c) (r.who few).1.length (strs (r.who few).1) ∧ w.grownBy w' (some g) := by
  have hglt := h.lt
  have hlow0 := h.below.size
  obtain ⟨N, hN⟩ : ∃ N, N = r.l.length := ⟨_, rfl⟩
  rw [← hN] at hn
  have START : ∃ (acc : List ByteArray) (R : Rd), acc.length = 0 ∧ 0 ≤ N + 1 ∧ RdAt w0 w g R ∧ ((R.why = 0 ∧ whoT few R.l 0 acc R.e R.p = r.who few ∧ AscB acc ∧ acc.length ≤ 12 ∧ 0 + R.l.length = N) ∨ (¬ R.why = 0 ∧ (acc, R) = r.who few)) := by
    refine ⟨[], r, rfl, by omega, h, ?_⟩
    by_cases hy : r.why = 0
    · exact .inl ⟨hy, (if_neg (fun h => h hy)).symm, List.Pairwise.nil, by simp, by omega⟩
    · exact .inr ⟨hy, (if_pos hy).symm⟩
  have HS := Lib.hid START
  clear START h hN
  generalize r.who few = res at HS ⊢
  go_enter Tryz.func166, Tryz.ntmps166
  go_wp2_with fail
  go_loopw [4, 5] (fun v n wr => ∃ (k : Nat) (acc : List ByteArray) (R : Rd), n = .int .i64 k ∧ k ≤ N + 1 ∧ Hid (RdAt w0 wr g R) ∧ Hid (wr.ownsRow w.heap.size 9 1 v acc.length (strs acc)) ∧ Hid (w.grownBy wr (some g)) ∧ ((R.why = 0 ∧ whoT few R.l k acc R.e R.p = res ∧ Hid (AscB acc) ∧ acc.length ≤ 12 ∧ k + R.l.length = N) ∨ (¬ R.why = 0 ∧ (acc, R) = res))) (fun _ n _ => N + 2 - (intOf n).toNat)
  case atStart =>
    obtain ⟨acc, R, h0, _, hr, hst⟩ := HS.out
    obtain rfl := List.eq_nil_of_length_eq_zero h0
    refine ⟨0, [], R, rfl, by omega, Lib.hid hr, Lib.hid (World.ownsRow_nil _ _ _ _), Lib.hid (World.grownBy.refl _ _), ?_⟩
    rcases hst with ⟨a, b, c, d, e⟩ | h
    · exact .inl ⟨a, b, Lib.hid c, d, e⟩
    · exact .inr h
  case round =>
    clear HS
    obtain ⟨k, acc, R, rfl, hk, HR, HO, HG, hst⟩ := hrel
    obtain ⟨ao, ac, rfl⟩ := own_form HO.out
    obtain ⟨rest, e1, p1, y1⟩ := R
    have hbel := HR.out.below
    obtain ⟨lv, hs, hblk⟩ := HR.out.row
    have c0 := hblk.cell 0 lv rfl
    have c3 := hblk.cell 3 (.int .i64 y1) rfl
    dsimp only at hst hs
    rcases hst with ⟨rfl, hw, hasc, h12, hsum⟩ | ⟨hy, hres⟩
    · cases rest with
      | nil =>
        obtain ⟨la, lc, rfl⟩ := hs.form
        by_cases hf : (k : Int) < few
        · have d : decide ((k : Int) < few) = true := decide_eq_true hf
          have WT := Lib.hid (show res = (insSB acc emp, ⟨[], e1, e1, 3⟩) by rw [← hw]; unfold whoT; exact if_pos hf)
          clear hs hblk hbel hw hf
          have KD := Lib.hid (fun W (h : RdAt w0 W g _) => qkind_pair (take_nil e1 p1 1) w0 W g h)
          go_wp2_with fail
          refine (KD.out _ HR.out).mono ?_
          rintro e2 w2 ⟨rfl, hr2, hg2⟩
          have HO2 := Lib.hid (HO.out.kept hg2 (.inr (fun e => by have := (HO.out.lt g e).1; omega)))
          have HR2 := Lib.hid hr2
          have HG2 := Lib.hid (gb_trans HG.out hg2)
          have hws : w.heap.size ≤ w2.heap.size := HG2.out.size
          clear hr2 hg2 KD
          go_wp2_with fail
          refine (str_Place _ acc (emp) w2 (Sl.of_own HO2.out).a hasc.out (by omega)).mono ?_
          rintro e3 w3 ⟨⟨kk, rfl, hkk, hpos⟩, rfl⟩
          cases hh : hasB acc (emp) with
          | true =>
            have EI := Lib.hid (insS_hasB hh)
            clear hh hpos
            go_wp2
            exact ⟨⟨k + 1, insSB acc emp, ⟨[], e1, e1, 3⟩, by go_num, by (try simp only [List.length_cons] at hsum); (try simp only [List.length_nil] at hsum); omega, HR2, by rw [EI.out]; exact HO2, HG2, .inr ⟨(show ¬ (3 : Int) = 0 by decide), by rw [← WT.out]⟩⟩, by simp [intOf]; omega⟩
          | false =>
            have EI := Lib.hid (show insSB acc (emp) = insAtB acc (emp) kk by rw [insS_notB hh, hpos])
            have EL := Lib.hid (insS_len1 hh)
            have EM := Lib.hid hh
            have HO3 := Lib.hid (own_below HO2.out ((Below.refl _ _).alloc (Nat.le_refl _) (.cells #[.string (emp)] 9)))
            have INS := Lib.hid (str_Insert w.heap.size _ acc (emp) kk w3.heap.size (w3.alloc (.cells #[.string (emp)] 9)) HO3.out (by simp; omega) (by omega) hkk (heap_alloc_new _ _) (fun e => by have := (HO2.out.lt _ e).2; omega))
            clear hh hpos
            go_wp2_with fail
            refine INS.out.mono ?_
            rintro e4 w4 ⟨a4, c4, rfl, hown4, hg4⟩
            have HR4 := Lib.hid ((HR2.out.alloc (.cells #[.string (emp)] 9)).grown hg4 (fun e => by have := (HO2.out.lt g e.symm).1; omega) (fun j e => by have := (HO2.out.lt j e).1; omega))
            have HG4 := Lib.hid (gb_far (gb_alloc HG2.out (.cells #[.string (emp)] 9)) hg4 (fun j e => (HO2.out.lt j e).1))
            have HO4 := Lib.hid (show w4.ownsRow w.heap.size 9 1 (.slice a4 (acc.length + 1) c4) (insSB acc (emp)).length (strs (insSB acc (emp))) by rw [EL.out, EI.out]; exact hown4)
            clear hown4 hg4 INS
            go_wp2
            exact ⟨⟨k + 1, insSB acc emp, ⟨[], e1, e1, 3⟩, by go_num, by (try simp only [List.length_cons] at hsum); (try simp only [List.length_nil] at hsum); omega, HR4, HO4, HG4, .inr ⟨(show ¬ (3 : Int) = 0 by decide), by rw [← WT.out]⟩⟩, by simp [intOf]; omega⟩
        · have d : decide ((k : Int) < few) = false := decide_eq_false hf
          have WT := Lib.hid (show res = (acc, ⟨[], e1, p1, 0⟩) by rw [← hw]; unfold whoT; exact if_neg hf)
          clear hs hblk hbel hw hf
          go_wp2
          go_ret
          rw [WT.out]
          exact ⟨ao, ac, rfl, HR.out, HO.out, HG.out⟩
      | cons t tl =>
        obtain ⟨b, off, cap, rfl, hc, hm, hlt, hx⟩ := hs.pos (by simp)
        obtain ⟨t0, t1, _⟩ := tk_head (Sl.cells_later hbel hlt hx)
        have hbw : b < wr.heap.size := Nat.lt_of_lt_of_le hlt hbel.size
        have d1 : decide ((0 : Int) < (tl.length : Int) + 1) = true := by (rw [decide_eq_true_iff]; omega)
        clear hs hblk hbel hx
        by_cases hf : (k : Int) < few
        · have d : decide ((k : Int) < few) = true := decide_eq_true hf
          clear hf
          by_cases h1 : t.kind = 1
          · by_cases hm12 : acc.length = 12
            · have dm : ((acc.length : Int) == 12) = true := by rw [beq_iff_eq]; omega
              have CT := Lib.hid (str_ContainsC _ acc t.tx wr (Sl.of_own HO.out).a)
              have HM12 := Lib.hid hm12
              by_cases hh : hasB acc t.tx = true
              · have WT := Lib.hid (show res = whoT few tl (k + 1) (insSB acc t.tx) e1 p1 by rw [← hw]; show whoT few (t :: tl) k acc e1 p1 = _; rw [whoT, if_pos h1, if_neg (fun x => by rw [hh] at x; cases x.2)])
                rw [hh] at CT
                have HHT := Lib.hid hh
                have TK := Lib.hid (take_yes t tl e1 p1 1 h1)
                clear hw hh hm12
                go_wp2_with fail
                refine CT.out.mono ?_
                rintro e0 w00 ⟨rfl, rfl⟩
                have KD := Lib.hid (fun W (h : RdAt w0 W g _) => qkind_pair (TK.out) w0 W g h)
                go_wp2_with fail
                refine (KD.out _ HR.out).mono ?_
                rintro e2 w2 ⟨rfl, hr2, hg2⟩
                have HO2 := Lib.hid (HO.out.kept hg2 (.inr (fun e => by have := (HO.out.lt g e).1; omega)))
                have HR2 := Lib.hid hr2
                have HG2 := Lib.hid (gb_trans HG.out hg2)
                have hws : w.heap.size ≤ w2.heap.size := HG2.out.size
                clear hr2 hg2 KD
                go_wp2_with fail
                refine (str_Place _ acc (t.tx) w2 (Sl.of_own HO2.out).a hasc.out (by omega)).mono ?_
                rintro e3 w3 ⟨⟨kk, rfl, hkk, hpos⟩, rfl⟩
                cases hh : hasB acc (t.tx) with
                | true =>
                  have EI := Lib.hid (insS_hasB hh)
                  clear hh hpos
                  go_wp2
                  exact ⟨⟨k + 1, insSB acc t.tx, ⟨tl, e1, p1, 0⟩, by go_num, by (try simp only [List.length_cons] at hsum); (try simp only [List.length_nil] at hsum); omega, HR2, by rw [EI.out]; exact HO2, HG2, .inl ⟨rfl, by rw [← WT.out], by rw [EI.out]; exact hasc, by rw [EI.out]; exact h12, by (try simp only [List.length_cons] at hsum); (try simp only [List.length_nil] at hsum); (try dsimp only); omega⟩⟩, by simp [intOf]; omega⟩
                | false =>
                  have EI := Lib.hid (show insSB acc (t.tx) = insAtB acc (t.tx) kk by rw [insS_notB hh, hpos])
                  have EL := Lib.hid (insS_len1 hh)
                  have EM := Lib.hid hh
                  have HO3 := Lib.hid (own_below HO2.out ((Below.refl _ _).alloc (Nat.le_refl _) (.cells #[.string (t.tx)] 9)))
                  have INS := Lib.hid (str_Insert w.heap.size _ acc (t.tx) kk w3.heap.size (w3.alloc (.cells #[.string (t.tx)] 9)) HO3.out (by simp; omega) (by omega) hkk (heap_alloc_new _ _) (fun e => by have := (HO2.out.lt _ e).2; omega))
                  clear hh hpos
                  go_wp2_with fail
                  refine INS.out.mono ?_
                  rintro e4 w4 ⟨a4, c4, rfl, hown4, hg4⟩
                  have HR4 := Lib.hid ((HR2.out.alloc (.cells #[.string (t.tx)] 9)).grown hg4 (fun e => by have := (HO2.out.lt g e.symm).1; omega) (fun j e => by have := (HO2.out.lt j e).1; omega))
                  have HG4 := Lib.hid (gb_far (gb_alloc HG2.out (.cells #[.string (t.tx)] 9)) hg4 (fun j e => (HO2.out.lt j e).1))
                  have HO4 := Lib.hid (show w4.ownsRow w.heap.size 9 1 (.slice a4 (acc.length + 1) c4) (insSB acc (t.tx)).length (strs (insSB acc (t.tx))) by rw [EL.out, EI.out]; exact hown4)
                  clear hown4 hg4 INS
                  go_wp2
                  exact ⟨⟨k + 1, insSB acc t.tx, ⟨tl, e1, p1, 0⟩, by go_num, by (try simp only [List.length_cons] at hsum); (try simp only [List.length_nil] at hsum); omega, HR4, HO4, HG4, .inl ⟨rfl, by rw [← WT.out], Lib.hid (insS_ascB hasc.out _), by rw [EL.out]; have := EM.out; rw [HHT.out] at this; exact absurd this (by decide), by (try simp only [List.length_cons] at hsum); (try simp only [List.length_nil] at hsum); (try dsimp only); omega⟩⟩, by simp [intOf]; omega⟩
              · have hf : hasB acc t.tx = false := by simpa using hh
                have WT := Lib.hid (show res = ([], ⟨t :: tl, e1, t.col, 5⟩) by rw [← hw]; show whoT few (t :: tl) k acc e1 p1 = _; rw [whoT, if_pos h1, if_pos ⟨hm12, hf⟩])
                rw [hf] at CT
                have FA := Lib.hid (fun W (h : RdAt w0 W g ⟨t :: tl, e1, p1, 0⟩) => qr_fail ⟨t :: tl, e1, p1, 0⟩ w0 W g 5 h)
                rw [failQ_cons] at FA
                clear hw hh hf hm12
                go_wp2_with fail
                refine CT.out.mono ?_
                rintro e0 w00 ⟨rfl, rfl⟩
                go_wp2_with fail
                refine (FA.out _ HR.out).mono ?_
                rintro e2 w2 ⟨rfl, hr2, hg2⟩
                have HR2 := Lib.hid hr2
                have HG2 := Lib.hid (gb_trans HG.out hg2)
                clear hr2 hg2
                go_wp2
                go_ret
                rw [WT.out]
                exact ⟨none, 0, rfl, HR2.out, World.ownsRow_nil _ _ _ _, HG2.out⟩
            · have dm : ((acc.length : Int) == 12) = false := by rw [beq_eq_false_iff_ne]; omega
              have WT := Lib.hid (show res = whoT few tl (k + 1) (insSB acc t.tx) e1 p1 by rw [← hw]; show whoT few (t :: tl) k acc e1 p1 = _; rw [whoT, if_pos h1, if_neg (fun x => hm12 x.1)])
              have TK := Lib.hid (take_yes t tl e1 p1 1 h1)
              clear hw
              have KD := Lib.hid (fun W (h : RdAt w0 W g _) => qkind_pair (TK.out) w0 W g h)
              go_wp2_with fail
              refine (KD.out _ HR.out).mono ?_
              rintro e2 w2 ⟨rfl, hr2, hg2⟩
              have HO2 := Lib.hid (HO.out.kept hg2 (.inr (fun e => by have := (HO.out.lt g e).1; omega)))
              have HR2 := Lib.hid hr2
              have HG2 := Lib.hid (gb_trans HG.out hg2)
              have hws : w.heap.size ≤ w2.heap.size := HG2.out.size
              clear hr2 hg2 KD
              go_wp2_with fail
              refine (str_Place _ acc (t.tx) w2 (Sl.of_own HO2.out).a hasc.out (by omega)).mono ?_
              rintro e3 w3 ⟨⟨kk, rfl, hkk, hpos⟩, rfl⟩
              cases hh : hasB acc (t.tx) with
              | true =>
                have EI := Lib.hid (insS_hasB hh)
                clear hh hpos
                go_wp2
                exact ⟨⟨k + 1, insSB acc t.tx, ⟨tl, e1, p1, 0⟩, by go_num, by (try simp only [List.length_cons] at hsum); (try simp only [List.length_nil] at hsum); omega, HR2, by rw [EI.out]; exact HO2, HG2, .inl ⟨rfl, by rw [← WT.out], by rw [EI.out]; exact hasc, by rw [EI.out]; exact h12, by (try simp only [List.length_cons] at hsum); (try simp only [List.length_nil] at hsum); (try dsimp only); omega⟩⟩, by simp [intOf]; omega⟩
              | false =>
                have EI := Lib.hid (show insSB acc (t.tx) = insAtB acc (t.tx) kk by rw [insS_notB hh, hpos])
                have EL := Lib.hid (insS_len1 hh)
                have EM := Lib.hid hh
                have HO3 := Lib.hid (own_below HO2.out ((Below.refl _ _).alloc (Nat.le_refl _) (.cells #[.string (t.tx)] 9)))
                have INS := Lib.hid (str_Insert w.heap.size _ acc (t.tx) kk w3.heap.size (w3.alloc (.cells #[.string (t.tx)] 9)) HO3.out (by simp; omega) (by omega) hkk (heap_alloc_new _ _) (fun e => by have := (HO2.out.lt _ e).2; omega))
                clear hh hpos
                go_wp2_with fail
                refine INS.out.mono ?_
                rintro e4 w4 ⟨a4, c4, rfl, hown4, hg4⟩
                have HR4 := Lib.hid ((HR2.out.alloc (.cells #[.string (t.tx)] 9)).grown hg4 (fun e => by have := (HO2.out.lt g e.symm).1; omega) (fun j e => by have := (HO2.out.lt j e).1; omega))
                have HG4 := Lib.hid (gb_far (gb_alloc HG2.out (.cells #[.string (t.tx)] 9)) hg4 (fun j e => (HO2.out.lt j e).1))
                have HO4 := Lib.hid (show w4.ownsRow w.heap.size 9 1 (.slice a4 (acc.length + 1) c4) (insSB acc (t.tx)).length (strs (insSB acc (t.tx))) by rw [EL.out, EI.out]; exact hown4)
                clear hown4 hg4 INS
                go_wp2
                exact ⟨⟨k + 1, insSB acc t.tx, ⟨tl, e1, p1, 0⟩, by go_num, by (try simp only [List.length_cons] at hsum); (try simp only [List.length_nil] at hsum); omega, HR4, HO4, HG4, .inl ⟨rfl, by rw [← WT.out], Lib.hid (insS_ascB hasc.out _), by rw [EL.out]; omega, by (try simp only [List.length_cons] at hsum); (try simp only [List.length_nil] at hsum); (try dsimp only); omega⟩⟩, by simp [intOf]; omega⟩
          · have dk : (t.kind == 1) = false := by simp [h1]
            have WT := Lib.hid (show res = (insSB acc emp, ⟨t :: tl, e1, t.col, 2⟩) by rw [← hw]; show whoT few (t :: tl) k acc e1 p1 = _; rw [whoT, if_neg h1])
            have TK := Lib.hid (take_no t tl e1 p1 1 h1)
            clear hw h1
            have KD := Lib.hid (fun W (h : RdAt w0 W g _) => qkind_pair (TK.out) w0 W g h)
            go_wp2_with fail
            refine (KD.out _ HR.out).mono ?_
            rintro e2 w2 ⟨rfl, hr2, hg2⟩
            have HO2 := Lib.hid (HO.out.kept hg2 (.inr (fun e => by have := (HO.out.lt g e).1; omega)))
            have HR2 := Lib.hid hr2
            have HG2 := Lib.hid (gb_trans HG.out hg2)
            have hws : w.heap.size ≤ w2.heap.size := HG2.out.size
            clear hr2 hg2 KD
            go_wp2_with fail
            refine (str_Place _ acc (emp) w2 (Sl.of_own HO2.out).a hasc.out (by omega)).mono ?_
            rintro e3 w3 ⟨⟨kk, rfl, hkk, hpos⟩, rfl⟩
            cases hh : hasB acc (emp) with
            | true =>
              have EI := Lib.hid (insS_hasB hh)
              clear hh hpos
              go_wp2
              exact ⟨⟨k + 1, insSB acc emp, ⟨t :: tl, e1, t.col, 2⟩, by go_num, by (try simp only [List.length_cons] at hsum); (try simp only [List.length_nil] at hsum); omega, HR2, by rw [EI.out]; exact HO2, HG2, .inr ⟨(show ¬ (2 : Int) = 0 by decide), by rw [← WT.out]⟩⟩, by simp [intOf]; omega⟩
            | false =>
              have EI := Lib.hid (show insSB acc (emp) = insAtB acc (emp) kk by rw [insS_notB hh, hpos])
              have EL := Lib.hid (insS_len1 hh)
              have EM := Lib.hid hh
              have HO3 := Lib.hid (own_below HO2.out ((Below.refl _ _).alloc (Nat.le_refl _) (.cells #[.string (emp)] 9)))
              have INS := Lib.hid (str_Insert w.heap.size _ acc (emp) kk w3.heap.size (w3.alloc (.cells #[.string (emp)] 9)) HO3.out (by simp; omega) (by omega) hkk (heap_alloc_new _ _) (fun e => by have := (HO2.out.lt _ e).2; omega))
              clear hh hpos
              go_wp2_with fail
              refine INS.out.mono ?_
              rintro e4 w4 ⟨a4, c4, rfl, hown4, hg4⟩
              have HR4 := Lib.hid ((HR2.out.alloc (.cells #[.string (emp)] 9)).grown hg4 (fun e => by have := (HO2.out.lt g e.symm).1; omega) (fun j e => by have := (HO2.out.lt j e).1; omega))
              have HG4 := Lib.hid (gb_far (gb_alloc HG2.out (.cells #[.string (emp)] 9)) hg4 (fun j e => (HO2.out.lt j e).1))
              have HO4 := Lib.hid (show w4.ownsRow w.heap.size 9 1 (.slice a4 (acc.length + 1) c4) (insSB acc (emp)).length (strs (insSB acc (emp))) by rw [EL.out, EI.out]; exact hown4)
              clear hown4 hg4 INS
              go_wp2
              exact ⟨⟨k + 1, insSB acc emp, ⟨t :: tl, e1, t.col, 2⟩, by go_num, by (try simp only [List.length_cons] at hsum); (try simp only [List.length_nil] at hsum); omega, HR4, HO4, HG4, .inr ⟨(show ¬ (2 : Int) = 0 by decide), by rw [← WT.out]⟩⟩, by simp [intOf]; omega⟩
        · have d : decide ((k : Int) < few) = false := decide_eq_false hf
          clear hf
          by_cases h1 : t.kind = 1
          · by_cases hm12 : acc.length = 12
            · have dm : ((acc.length : Int) == 12) = true := by rw [beq_iff_eq]; omega
              have CT := Lib.hid (str_ContainsC _ acc t.tx wr (Sl.of_own HO.out).a)
              have HM12 := Lib.hid hm12
              by_cases hh : hasB acc t.tx = true
              · have WT := Lib.hid (show res = whoT few tl (k + 1) (insSB acc t.tx) e1 p1 by rw [← hw]; show whoT few (t :: tl) k acc e1 p1 = _; rw [whoT, if_pos h1, if_neg (fun x => by rw [hh] at x; cases x.2)])
                rw [hh] at CT
                have HHT := Lib.hid hh
                have TK := Lib.hid (take_yes t tl e1 p1 1 h1)
                clear hw hh hm12
                go_wp2_with fail
                refine CT.out.mono ?_
                rintro e0 w00 ⟨rfl, rfl⟩
                have KD := Lib.hid (fun W (h : RdAt w0 W g _) => qkind_pair (TK.out) w0 W g h)
                go_wp2_with fail
                refine (KD.out _ HR.out).mono ?_
                rintro e2 w2 ⟨rfl, hr2, hg2⟩
                have HO2 := Lib.hid (HO.out.kept hg2 (.inr (fun e => by have := (HO.out.lt g e).1; omega)))
                have HR2 := Lib.hid hr2
                have HG2 := Lib.hid (gb_trans HG.out hg2)
                have hws : w.heap.size ≤ w2.heap.size := HG2.out.size
                clear hr2 hg2 KD
                go_wp2_with fail
                refine (str_Place _ acc (t.tx) w2 (Sl.of_own HO2.out).a hasc.out (by omega)).mono ?_
                rintro e3 w3 ⟨⟨kk, rfl, hkk, hpos⟩, rfl⟩
                cases hh : hasB acc (t.tx) with
                | true =>
                  have EI := Lib.hid (insS_hasB hh)
                  clear hh hpos
                  go_wp2
                  exact ⟨⟨k + 1, insSB acc t.tx, ⟨tl, e1, p1, 0⟩, by go_num, by (try simp only [List.length_cons] at hsum); (try simp only [List.length_nil] at hsum); omega, HR2, by rw [EI.out]; exact HO2, HG2, .inl ⟨rfl, by rw [← WT.out], by rw [EI.out]; exact hasc, by rw [EI.out]; exact h12, by (try simp only [List.length_cons] at hsum); (try simp only [List.length_nil] at hsum); (try dsimp only); omega⟩⟩, by simp [intOf]; omega⟩
                | false =>
                  have EI := Lib.hid (show insSB acc (t.tx) = insAtB acc (t.tx) kk by rw [insS_notB hh, hpos])
                  have EL := Lib.hid (insS_len1 hh)
                  have EM := Lib.hid hh
                  have HO3 := Lib.hid (own_below HO2.out ((Below.refl _ _).alloc (Nat.le_refl _) (.cells #[.string (t.tx)] 9)))
                  have INS := Lib.hid (str_Insert w.heap.size _ acc (t.tx) kk w3.heap.size (w3.alloc (.cells #[.string (t.tx)] 9)) HO3.out (by simp; omega) (by omega) hkk (heap_alloc_new _ _) (fun e => by have := (HO2.out.lt _ e).2; omega))
                  clear hh hpos
                  go_wp2_with fail
                  refine INS.out.mono ?_
                  rintro e4 w4 ⟨a4, c4, rfl, hown4, hg4⟩
                  have HR4 := Lib.hid ((HR2.out.alloc (.cells #[.string (t.tx)] 9)).grown hg4 (fun e => by have := (HO2.out.lt g e.symm).1; omega) (fun j e => by have := (HO2.out.lt j e).1; omega))
                  have HG4 := Lib.hid (gb_far (gb_alloc HG2.out (.cells #[.string (t.tx)] 9)) hg4 (fun j e => (HO2.out.lt j e).1))
                  have HO4 := Lib.hid (show w4.ownsRow w.heap.size 9 1 (.slice a4 (acc.length + 1) c4) (insSB acc (t.tx)).length (strs (insSB acc (t.tx))) by rw [EL.out, EI.out]; exact hown4)
                  clear hown4 hg4 INS
                  go_wp2
                  exact ⟨⟨k + 1, insSB acc t.tx, ⟨tl, e1, p1, 0⟩, by go_num, by (try simp only [List.length_cons] at hsum); (try simp only [List.length_nil] at hsum); omega, HR4, HO4, HG4, .inl ⟨rfl, by rw [← WT.out], Lib.hid (insS_ascB hasc.out _), by rw [EL.out]; have := EM.out; rw [HHT.out] at this; exact absurd this (by decide), by (try simp only [List.length_cons] at hsum); (try simp only [List.length_nil] at hsum); (try dsimp only); omega⟩⟩, by simp [intOf]; omega⟩
              · have hf : hasB acc t.tx = false := by simpa using hh
                have WT := Lib.hid (show res = ([], ⟨t :: tl, e1, t.col, 5⟩) by rw [← hw]; show whoT few (t :: tl) k acc e1 p1 = _; rw [whoT, if_pos h1, if_pos ⟨hm12, hf⟩])
                rw [hf] at CT
                have FA := Lib.hid (fun W (h : RdAt w0 W g ⟨t :: tl, e1, p1, 0⟩) => qr_fail ⟨t :: tl, e1, p1, 0⟩ w0 W g 5 h)
                rw [failQ_cons] at FA
                clear hw hh hf hm12
                go_wp2_with fail
                refine CT.out.mono ?_
                rintro e0 w00 ⟨rfl, rfl⟩
                go_wp2_with fail
                refine (FA.out _ HR.out).mono ?_
                rintro e2 w2 ⟨rfl, hr2, hg2⟩
                have HR2 := Lib.hid hr2
                have HG2 := Lib.hid (gb_trans HG.out hg2)
                clear hr2 hg2
                go_wp2
                go_ret
                rw [WT.out]
                exact ⟨none, 0, rfl, HR2.out, World.ownsRow_nil _ _ _ _, HG2.out⟩
            · have dm : ((acc.length : Int) == 12) = false := by rw [beq_eq_false_iff_ne]; omega
              have WT := Lib.hid (show res = whoT few tl (k + 1) (insSB acc t.tx) e1 p1 by rw [← hw]; show whoT few (t :: tl) k acc e1 p1 = _; rw [whoT, if_pos h1, if_neg (fun x => hm12 x.1)])
              have TK := Lib.hid (take_yes t tl e1 p1 1 h1)
              clear hw
              have KD := Lib.hid (fun W (h : RdAt w0 W g _) => qkind_pair (TK.out) w0 W g h)
              go_wp2_with fail
              refine (KD.out _ HR.out).mono ?_
              rintro e2 w2 ⟨rfl, hr2, hg2⟩
              have HO2 := Lib.hid (HO.out.kept hg2 (.inr (fun e => by have := (HO.out.lt g e).1; omega)))
              have HR2 := Lib.hid hr2
              have HG2 := Lib.hid (gb_trans HG.out hg2)
              have hws : w.heap.size ≤ w2.heap.size := HG2.out.size
              clear hr2 hg2 KD
              go_wp2_with fail
              refine (str_Place _ acc (t.tx) w2 (Sl.of_own HO2.out).a hasc.out (by omega)).mono ?_
              rintro e3 w3 ⟨⟨kk, rfl, hkk, hpos⟩, rfl⟩
              cases hh : hasB acc (t.tx) with
              | true =>
                have EI := Lib.hid (insS_hasB hh)
                clear hh hpos
                go_wp2
                exact ⟨⟨k + 1, insSB acc t.tx, ⟨tl, e1, p1, 0⟩, by go_num, by (try simp only [List.length_cons] at hsum); (try simp only [List.length_nil] at hsum); omega, HR2, by rw [EI.out]; exact HO2, HG2, .inl ⟨rfl, by rw [← WT.out], by rw [EI.out]; exact hasc, by rw [EI.out]; exact h12, by (try simp only [List.length_cons] at hsum); (try simp only [List.length_nil] at hsum); (try dsimp only); omega⟩⟩, by simp [intOf]; omega⟩
              | false =>
                have EI := Lib.hid (show insSB acc (t.tx) = insAtB acc (t.tx) kk by rw [insS_notB hh, hpos])
                have EL := Lib.hid (insS_len1 hh)
                have EM := Lib.hid hh
                have HO3 := Lib.hid (own_below HO2.out ((Below.refl _ _).alloc (Nat.le_refl _) (.cells #[.string (t.tx)] 9)))
                have INS := Lib.hid (str_Insert w.heap.size _ acc (t.tx) kk w3.heap.size (w3.alloc (.cells #[.string (t.tx)] 9)) HO3.out (by simp; omega) (by omega) hkk (heap_alloc_new _ _) (fun e => by have := (HO2.out.lt _ e).2; omega))
                clear hh hpos
                go_wp2_with fail
                refine INS.out.mono ?_
                rintro e4 w4 ⟨a4, c4, rfl, hown4, hg4⟩
                have HR4 := Lib.hid ((HR2.out.alloc (.cells #[.string (t.tx)] 9)).grown hg4 (fun e => by have := (HO2.out.lt g e.symm).1; omega) (fun j e => by have := (HO2.out.lt j e).1; omega))
                have HG4 := Lib.hid (gb_far (gb_alloc HG2.out (.cells #[.string (t.tx)] 9)) hg4 (fun j e => (HO2.out.lt j e).1))
                have HO4 := Lib.hid (show w4.ownsRow w.heap.size 9 1 (.slice a4 (acc.length + 1) c4) (insSB acc (t.tx)).length (strs (insSB acc (t.tx))) by rw [EL.out, EI.out]; exact hown4)
                clear hown4 hg4 INS
                go_wp2
                exact ⟨⟨k + 1, insSB acc t.tx, ⟨tl, e1, p1, 0⟩, by go_num, by (try simp only [List.length_cons] at hsum); (try simp only [List.length_nil] at hsum); omega, HR4, HO4, HG4, .inl ⟨rfl, by rw [← WT.out], Lib.hid (insS_ascB hasc.out _), by rw [EL.out]; omega, by (try simp only [List.length_cons] at hsum); (try simp only [List.length_nil] at hsum); (try dsimp only); omega⟩⟩, by simp [intOf]; omega⟩
          · have dk : (t.kind == 1) = false := by simp [h1]
            have WT := Lib.hid (show res = (insSB acc emp, ⟨t :: tl, e1, t.col, 2⟩) by rw [← hw]; show whoT few (t :: tl) k acc e1 p1 = _; rw [whoT, if_neg h1])
            have TK := Lib.hid (take_no t tl e1 p1 1 h1)
            clear hw h1
            have KD := Lib.hid (fun W (h : RdAt w0 W g _) => qkind_pair (TK.out) w0 W g h)
            go_wp2_with fail
            refine (KD.out _ HR.out).mono ?_
            rintro e2 w2 ⟨rfl, hr2, hg2⟩
            have HO2 := Lib.hid (HO.out.kept hg2 (.inr (fun e => by have := (HO.out.lt g e).1; omega)))
            have HR2 := Lib.hid hr2
            have HG2 := Lib.hid (gb_trans HG.out hg2)
            have hws : w.heap.size ≤ w2.heap.size := HG2.out.size
            clear hr2 hg2 KD
            go_wp2_with fail
            refine (str_Place _ acc (emp) w2 (Sl.of_own HO2.out).a hasc.out (by omega)).mono ?_
            rintro e3 w3 ⟨⟨kk, rfl, hkk, hpos⟩, rfl⟩
            cases hh : hasB acc (emp) with
            | true =>
              have EI := Lib.hid (insS_hasB hh)
              clear hh hpos
              go_wp2
              exact ⟨⟨k + 1, insSB acc emp, ⟨t :: tl, e1, t.col, 2⟩, by go_num, by (try simp only [List.length_cons] at hsum); (try simp only [List.length_nil] at hsum); omega, HR2, by rw [EI.out]; exact HO2, HG2, .inr ⟨(show ¬ (2 : Int) = 0 by decide), by rw [← WT.out]⟩⟩, by simp [intOf]; omega⟩
            | false =>
              have EI := Lib.hid (show insSB acc (emp) = insAtB acc (emp) kk by rw [insS_notB hh, hpos])
              have EL := Lib.hid (insS_len1 hh)
              have EM := Lib.hid hh
              have HO3 := Lib.hid (own_below HO2.out ((Below.refl _ _).alloc (Nat.le_refl _) (.cells #[.string (emp)] 9)))
              have INS := Lib.hid (str_Insert w.heap.size _ acc (emp) kk w3.heap.size (w3.alloc (.cells #[.string (emp)] 9)) HO3.out (by simp; omega) (by omega) hkk (heap_alloc_new _ _) (fun e => by have := (HO2.out.lt _ e).2; omega))
              clear hh hpos
              go_wp2_with fail
              refine INS.out.mono ?_
              rintro e4 w4 ⟨a4, c4, rfl, hown4, hg4⟩
              have HR4 := Lib.hid ((HR2.out.alloc (.cells #[.string (emp)] 9)).grown hg4 (fun e => by have := (HO2.out.lt g e.symm).1; omega) (fun j e => by have := (HO2.out.lt j e).1; omega))
              have HG4 := Lib.hid (gb_far (gb_alloc HG2.out (.cells #[.string (emp)] 9)) hg4 (fun j e => (HO2.out.lt j e).1))
              have HO4 := Lib.hid (show w4.ownsRow w.heap.size 9 1 (.slice a4 (acc.length + 1) c4) (insSB acc (emp)).length (strs (insSB acc (emp))) by rw [EL.out, EI.out]; exact hown4)
              clear hown4 hg4 INS
              go_wp2
              exact ⟨⟨k + 1, insSB acc emp, ⟨t :: tl, e1, t.col, 2⟩, by go_num, by (try simp only [List.length_cons] at hsum); (try simp only [List.length_nil] at hsum); omega, HR4, HO4, HG4, .inr ⟨(show ¬ (2 : Int) = 0 by decide), by rw [← WT.out]⟩⟩, by simp [intOf]; omega⟩
    · have d : (y1 == 0) = false := by simp [hy]
      clear hs hblk hbel hy
      go_wp2
      go_ret
      rw [← hres]
      exact ⟨ao, ac, rfl, HR.out, HO.out, HG.out⟩
end Go.Proofs.YtnhkgfgbhedphaaGreatDoor
namespace Go.Proofs.YtnhkgfgbhedphaaGreatDoor
open Go.RowKit Go.Shelf

theorem own_mono {w : World} {B B' size n : Nat} {e : TypeId} {v : Value} {xs : List Value} (h : w.ownsRow B e size v n xs) (hb : B' ≤ B) : w.ownsRow B' e size v n xs := by
  refine ⟨h.1, ?_⟩
  rcases h.2 with h2 | ⟨g, cap, cur, h1, h2, h3⟩
  · exact .inl h2
  · exact .inr ⟨g, cap, cur, h1, Nat.le_trans hb h2, h3⟩
end Go.Proofs.YtnhkgfgbhedphaaGreatDoor
namespace Go.Proofs.YtnhkgfgbhedphaaGreatDoor
open Go.RowKit Go.Shelf

abbrev qdv (q : Qd) (v : Value) : Value := .agg #[.int .i64 q.k, .string q.a.o, .string q.a.n, .string q.b.o, .string q.b.n, v]
theorem toks_len : ∀ (f : Nat) (l : List UInt8) (p : Nat) (acc : List Tok), (toks f l p acc).1.length ≤ acc.length + f
  | 0, l, p, acc => by
    have : toks 0 l p acc = (acc, 0, 0) := by unfold toks; rfl
    rw [this]; simp
  | f + 1, [], p, acc => by rw [toks_nil]; simp
  | f + 1, c :: r, p, acc => by
    by_cases hc : c.toNat = 32
    · rw [toks_space _ _ _ _ _ hc]; have := toks_len f r (p + 1) acc; omega
    by_cases hk : (oneTok (c :: r) p).kind = 0
    · rw [toks_bad _ _ _ _ _ hc hk]; simp
    by_cases hl : 8 < (oneTok (c :: r) p).text.length
    · rw [toks_long _ _ _ _ _ hc hk hl]; simp
    · rw [toks_go _ _ _ _ _ hc hk hl]
      have := toks_len f ((c :: r).drop (oneTok (c :: r) p).text.length) (p + (oneTok (c :: r) p).text.length) (acc ++ [oneTok (c :: r) p])
      simp only [List.length_append, List.length_singleton] at this
      omega
theorem tokens_len (l : List UInt8) : (tokens l).1.length ≤ 200 := by
  unfold tokens
  split
  · simp
  · have h1 := toks_len (bare l).length (bare l) 0 []
    have h2 := bare_le l
    simp only [List.length_nil] at h1
    omega
theorem drop_want (r : Rd) (f : Tok → Bool) : (r.want f).2.l.length ≤ r.l.length := by
  unfold Rd.want
  split
  · exact Nat.le_refl _
  · split
    · rename_i h; rw [h]; simp [Rd.fail, h]
    · rename_i t l h
      split <;> simp [Rd.drop1, Rd.fail, h]
theorem drop_take (r : Rd) (k : Int) : (r.take k).2.l.length ≤ r.l.length := by rw [take_want]; exact drop_want _ _
theorem drop_role (r : Rd) : r.role.2.l.length ≤ r.l.length := by
  unfold Rd.role
  exact Nat.le_trans (drop_take _ _) (Nat.le_trans (drop_take _ _) (drop_take _ _))
theorem drop_ask (r : Rd) (u : Bool) : (r.ask u).2.l.length ≤ r.l.length := by
  unfold Rd.ask
  dsimp only
  split
  · exact Nat.le_trans (drop_want _ _) (drop_want _ _)
  · exact drop_want _ _
theorem drop_roleB (r : Rd) (k : Int) : (r.roleB k).2.l.length ≤ r.l.length := by
  unfold Rd.roleB
  split
  · exact drop_role _
  · exact Nat.le_refl _
theorem scan_cutQ (s : ByteArray) (w : World) (hs : s.size < 4294967281) (hg : Gl w) :
    Calls Tryz.prog 101 #[.string s, .string ⟨#[35]⟩] w fun e w' => ∃ (x : ByteArray) (b : Bool), e = .returned (.tuple #[.string ⟨(bare (bl s)).toArray⟩, .string x, .bool b]) ∧ ∃ n, w' = w.drewN n := by
  obtain ⟨m, hm⟩ := hg
  have hcon := Tryz.strings_Cut s ⟨#[35]⟩ m w hs hm
  rw [show (⟨#[35]⟩ : ByteArray).data.toList = [35] from rfl, cut_bare] at hcon
  exact hcon.mono fun e w' ⟨h1, h2⟩ => ⟨_, _, h1, h2⟩
theorem qrole_pair {r : Rd} {x : Rl} {r' : Rd} (h : r.role = (x, r')) (w0 w : World) (g : Nat) (ha : RdAt w0 w g r) :
    Calls Tryz.prog 164 #[.pointer (some ⟨g, 0, none⟩)] w fun e w' => e = .returned (rv x) ∧ RdAt w0 w' g r' ∧ w.grownBy w' (some g) := by
  have := qr_role r w0 w g ha
  rw [h] at this
  exact this
theorem qask_pair {r : Rd} {u : Bool} {k : Int} {r' : Rd} (h : r.ask u = (k, r')) (w0 w : World) (g : Nat) (ha : RdAt w0 w g r) :
    Calls Tryz.prog 165 #[.pointer (some ⟨g, 0, none⟩), .bool u] w fun e w' => e = .returned (.int .i64 k) ∧ RdAt w0 w' g r' ∧ w.grownBy w' (some g) := by
  have := qr_ask r u w0 w g ha
  rw [h] at this
  exact this
theorem qwho_pair {r : Rd} {few : Int} {us : List ByteArray} {r' : Rd} (h : r.who few = (us, r')) (w0 w : World) (g : Nat) (ha : RdAt w0 w g r) (hn : r.l.length ≤ 1000) :
    Calls Tryz.prog 166 #[.pointer (some ⟨g, 0, none⟩), .int .i64 few] w fun e w' => ∃ a c, e = .returned (.slice a us.length c) ∧ RdAt w0 w' g r' ∧ w'.ownsRow w.heap.size 9 1 (.slice a us.length c) us.length (strs us) ∧ w.grownBy w' (some g) := by
  have := qr_who r few w0 w g ha hn
  rw [h] at this
  exact this
theorem endQ_fail (t : Tok) (l : List Tok) (e p y : Int) (q : Qd) : (Rd.mk (t :: l) e p y).endQ q = (noQd, ((Rd.mk (t :: l) e p y).failQ 2).p, ((Rd.mk (t :: l) e p y).failQ 2).why) ∧ ¬ ((Rd.mk (t :: l) e p y).failQ 2).why = 0 := by
  by_cases hy : y = 0
  · subst hy
    rw [failQ_cons, endQ_cons]
    exact ⟨rfl, (show ¬ (2 : Int) = 0 by decide)⟩
  · rw [failQ_why _ _ hy, endQ_why _ _ _ _ _ hy]
    exact ⟨rfl, hy⟩
def ParseO (r : Qd × Int × Int) (w : World) (e : Ending) (w' : World) : Prop := ∃ v, e = .returned (.tuple #[qdv r.1 v, .int .i64 r.2.1, .int .i64 r.2.2]) ∧ w'.ownsRow w.heap.size 9 1 v r.1.us.length (strs r.1.us) ∧ Below w.heap.size w w'
set_option maxRecDepth 100000 in
set_option maxHeartbeats 8000000 in
theorem query_ParseO (s : ByteArray) (w : World) (hs : s.size < 4294967281) (hg : Gl w) :
    Calls Tryz.prog 108 #[.string s] w fun e w' => ParseO (parseQ s) w e w' := by
  have HG := Lib.hid hg
  have E := Lib.hid (show parseQ s = parseQT (tokens (bl s)) (endOf s) from rfl)
  have EO := Lib.hid (show endOf s = ((Lib.trimRightB (bare (bl s)) 32).length : Int) + 1 from rfl)
  have hcut := fun (W : World) (h : Gl W) => scan_cutQ s W hs h
  have HC := Lib.hid hcut
  have HT := Lib.hid (fun W => Tryz.strings_TrimRight_one (⟨(bare (bl s)).toArray⟩) 32 (by decide) W (by simp [ByteArray.size]; have := bare_le (bl s); rw [bl_len] at this; omega))
  have hend : endOf s ≤ 4294967282 := by have := trimRight_le (bare (bl s)) 32; have := bare_le (bl s); rw [bl_len] at this; unfold endOf; omega
  have hend0 : 0 ≤ endOf s := by unfold endOf; omega
  have HTL := Lib.hid (tokens_len (bl s))
  generalize hE : endOf s = en at *
  generalize hr : (⟨(Lib.trimRightB (bare (bl s)) 32).toArray⟩ : ByteArray) = tr at HT
  have htr : (tr.size : Int) + 1 = en := by rw [← hr, ← hE]; rfl
  clear hr EO hE
  generalize parseQ s = res at E ⊢
  clear hg hcut
  go_enter Tryz.func108, Tryz.ntmps108
  go_wp2_with fail
  refine (scan_Tokens_any s _ (HG.out.below ((Below.refl _ _).alloc (Nat.le_refl _) _)) (by omega)).mono ?_
  rintro e w1 ⟨va, rfl, hown1, hb1⟩
  obtain ⟨sa, sc, rfl⟩ := own_form hown1
  have hsl1 := Lib.hid (Sl.of_own hown1)
  have hG1 := Lib.hid ((HG.out.below ((Below.refl _ _).alloc (Nat.le_refl _) _)).below hb1)
  have HD1 := Lib.hid (keep1 hb1)
  have HBW := Lib.hid (((Below.refl _ _).alloc (Nat.le_refl _) _).trans (hb1.mono (by simp)) : Below w.heap.size w w1)
  clear hown1 hb1
  generalize tokens (bl s) = t at hsl1 E HTL ⊢
  obtain ⟨l, i, y⟩ := t
  dsimp only at hsl1 E HTL ⊢
  have hD1 := HD1.out.2.2
  by_cases hy : y = 0
  · subst hy
    replace E := Lib.hid (E.out.trans (show parseQT (l, i, 0) en = readQ l en from if_neg (fun h => h rfl)))
    go_wp2_with fail
    refine (HC.out w1 hG1.out).mono ?_
    rintro e w' ⟨x, bb, rfl, n, rfl⟩
    go_wp2_with (go_at_call 152; refine (HT.out _).mono ?_; rintro e w' ⟨rfl, rfl⟩)
    obtain ⟨WX, hWX⟩ : ∃ W, W = (w1.drewN n).alloc (.cells #[.slice sa l.length sc, .int .i64 en, .int .i64 0, .int .i64 0] 185) := ⟨_, rfl⟩
    have hbx : Below w1.heap.size w1 WX := by rw [hWX]; exact (below_of_drewN n).alloc (Nat.le_refl _) _
    have hr0 : RdAt w1 WX w1.heap.size ⟨l, en, 0, 0⟩ := ⟨Nat.le_refl _, hbx, _, hsl1.out, by rw [hWX]; exact Blk.new (w1.drewN n) _ _⟩
    obtain ⟨WY, hWY⟩ : ∃ W, W = WX.alloc (.cells #[.string wAlways, .string wCan] 9) := ⟨_, rfl⟩
    have hby : Below WX.heap.size WX WY := by rw [hWY]; exact (Below.refl _ _).alloc (Nat.le_refl _) _
    have hWD := qr_word ⟨l, en, 0, 0⟩ w1 WY w1.heap.size (.slice (some ⟨WX.heap.size, 0, none⟩) 2 2) [wAlways, wCan] (hr0.later hby) (by rw [hWY]; exact (Sl.new1 WX [.string wAlways, .string wCan] 9 WX.heap.size 2 rfl rfl (by decide)).a)
    have hxs : WX.heap.size = w1.heap.size + 1 := by rw [hWX]; simp
    rw [hxs] at hWD
    cases h1 : (Rd.mk l en 0 0).word [wAlways, wCan] with | mk s1 r1 =>
    rw [h1] at hWD
    have HWD := Lib.hid hWD
    clear hWD hr0 hby hbx hxs
    subst hWY
    subst hWX
    go_wp2_with fail
    refine HWD.out.mono ?_
    rintro e w2 ⟨rfl, hr1, hg1⟩
    clear HWD
    have HR1 := Lib.hid hr1
    clear hg1 hr1
    cases h2 : r1.role with | mk a r2 =>
    cases h3 : r2.ask (decide (s1 = wAlways)) with | mk k r3 =>
    cases h4 : r3.roleB k with | mk b r4 =>
    cases h5 : r4.whoB k with | mk us r5 =>
    have hl4 : r4.l.length ≤ 1000 := by
      have e1 := drop_want ⟨l, en, 0, 0⟩ (wordIn [wAlways, wCan])
      rw [show (Rd.mk l en 0 0).want (wordIn [wAlways, wCan]) = (s1, r1) from h1] at e1
      have e2 := drop_role r1
      rw [h2] at e2
      have e3 := drop_ask r2 (decide (s1 = wAlways))
      rw [h3] at e3
      have e4 := drop_roleB r3 k
      rw [h4] at e4
      have e5 := HTL.out
      dsimp only at e1 e2 e3 e4
      omega
    obtain ⟨a1, a2⟩ := a
    obtain ⟨b1, b2⟩ := b
    replace E := Lib.hid (show res = r5.endQ ⟨k, ⟨a1, a2⟩, ⟨b1, b2⟩, us⟩ by
      rw [E.out]
      unfold readQ midQ tailQ
      rw [h1]
      dsimp only
      rw [h2]
      dsimp only
      rw [h3]
      dsimp only
      rw [h4]
      dsimp only
      rw [h5])
    have R2 := Lib.hid (fun W (h : RdAt w1 W w1.heap.size r1) => qrole_pair h2 w1 W w1.heap.size h)
    have R3 := Lib.hid (fun W (h : RdAt w1 W w1.heap.size r2) => qask_pair h3 w1 W w1.heap.size h)
    have H4 := Lib.hid h4
    have H5 := Lib.hid h5
    have hu : (s1.toList == wAlways.toList) = decide (s1 = wAlways) := beq_str s1 wAlways
    rw [show wAlways.toList = [97, 108, 119, 97, 121, 115] from by rw [ByteArray.toList_eq]; rfl] at hu
    clear h1 h2 h3 h4 h5
    go_wp2_with fail
    refine (R2.out _ HR1.out).mono ?_
    rintro e w3 ⟨rfl, hr2, _⟩
    have HR := Lib.hid hr2
    have hlt3 : w1.heap.size < w3.heap.size := hr2.lt
    clear hr2 R2
    go_wp2_with fail
    refine (R3.out _ (HR.out.alloc _)).mono ?_
    rintro e w5 ⟨rfl, hr3, hg3⟩
    have hB5 := (Blk.new w3 #[.int .i64 0, .string a1, .string a2, .string emp, .string emp, .slice none 0 0] 66).grown hg3 (fun e => by have := Option.some.inj e; omega)
    have HQ := Lib.hid hB5
    have HR := Lib.hid hr3
    obtain ⟨gq, hgq⟩ : ∃ g, g = w3.heap.size := ⟨_, rfl⟩
    have hgq1 : w1.heap.size < gq := by omega
    rw [← hgq] at HQ hB5 ⊢
    obtain ⟨cb, fb, zb⟩ := hB5
    clear hr3 hg3 R3 hgq hlt3
    go_wp2_with fail
    refine (query_secondB k _).mono ?_
    rintro e w6 ⟨rfl, hw6⟩
    obtain rfl := hw6
    have HR6 := Lib.hid (HR.out.set (b := gq) (o := 0) (.int .i64 k) (by omega) (by omega))
    have HQ6 := Lib.hid (HQ.out.set 0 (.int .i64 k) (by simp))
    clear cb fb zb HR HQ
    obtain ⟨W6, hW6⟩ : ∃ W, W = w5.setCell ⟨gq, 0, none⟩ (.int .i64 k) := ⟨_, rfl⟩
    rw [← hW6] at HR6 HQ6 ⊢
    clear hW6
    go_upto_if 52 with fail
    go_cut [] (fun wx => ∃ V, V = wx ∧ Hid (RdAt w1 V w1.heap.size r4) ∧ Hid (Blk V gq #[.int .i64 k, .string a1, .string a2, .string b1, .string b2, .slice none 0 0]))
    case first =>
      cases hsec : secB k with
      | false =>
        have e4 := H4.out
        unfold Rd.roleB at e4
        rw [if_neg (by rw [hsec]; decide)] at e4
        simp only [Prod.mk.injEq, noR, Rl.mk.injEq] at e4
        obtain ⟨⟨rfl, rfl⟩, rfl⟩ := e4
        go_wp2
        go_meet
        exact ⟨_, rfl, HR6, HQ6⟩
      | true =>
        have e4 := H4.out
        unfold Rd.roleB at e4
        rw [if_pos hsec] at e4
        have R4 := Lib.hid (qrole_pair e4 w1 W6 w1.heap.size HR6.out)
        go_wp2_with fail
        refine R4.out.mono ?_
        rintro e w7 ⟨rfl, hr7, hg7⟩
        have hB7 := HQ6.out.grown hg7 (fun e => by have := Option.some.inj e; omega)
        have HR7 := Lib.hid ((hr7.set (b := gq) (o := 3) (.string b1) (by omega) (by omega)).set (b := gq) (o := 4) (.string b2) (by omega) (by omega))
        have HQ7 := Lib.hid ((hB7.set 3 (.string b1) (by simp)).set 4 (.string b2) (by simp))
        obtain ⟨cb, fb, zb⟩ := hB7
        clear hr7 hg7 R4
        go_wp2
        go_meet
        exact ⟨_, rfl, HR7, HQ7⟩
    case rest =>
    clear HR6 HQ6
    obtain ⟨V, rfl, HR, HQ⟩ := hcut
    obtain ⟨cb, fb, zb⟩ := HQ.out
    go_wp2_with fail
    refine (query_least k _).mono ?_
    rintro e w7 ⟨rfl, hw7⟩
    subst hw7
    go_upto_if 60 with fail
    clear cb fb zb
    go_cut [] (fun wx => ∃ (W : World) (v : Value), W = wx ∧ Hid (RdAt w1 W w1.heap.size r5) ∧ Hid (W.ownsRow w7.heap.size 9 1 v us.length (strs us)) ∧ Hid (Blk W gq #[.int .i64 k, .string a1, .string a2, .string b1, .string b2, v]))
    case first =>
      by_cases hl : 0 ≤ leastI k
      · have e5 := H5.out
        unfold Rd.whoB at e5
        rw [if_pos hl] at e5
        have R5 := Lib.hid (qwho_pair e5 w1 w7 w1.heap.size HR.out hl4)
        have dl : decide ((0 : Int) ≤ leastI k) = true := decide_eq_true hl
        clear e5 H5
        generalize leastI k = lk at *
        go_wp2_with fail
        refine R5.out.mono ?_
        rintro e w8 ⟨av, cv, rfl, hr8, hown8, hg8⟩
        have hB8 := HQ.out.grown hg8 (fun e => by have := Option.some.inj e; omega)
        have hq8 := HQ.out.2.2
        have HR8 := Lib.hid (hr8.set (b := gq) (o := 5) (.slice av us.length cv) (by omega) (by omega))
        have HQ8 := Lib.hid (hB8.set 5 (.slice av us.length cv) (by simp))
        have HO8 := Lib.hid (hown8.kept (gb_setCell (g := gq) (o := 5) (World.grownBy.refl _ _) (.slice av us.length cv)) (.inr (fun e => by have := (hown8.lt gq e).1; omega)))
        obtain ⟨cb, fb, zb⟩ := hB8
        clear hr8 hown8 hg8 R5
        go_wp2
        go_meet
        exact ⟨_, _, rfl, HR8, HO8, HQ8⟩
      · have e5 := H5.out
        unfold Rd.whoB at e5
        rw [if_neg hl] at e5
        simp only [Prod.mk.injEq] at e5
        obtain ⟨rfl, rfl⟩ := e5
        have dl : decide ((0 : Int) ≤ leastI k) = false := decide_eq_false hl
        clear H5
        generalize leastI k = lk at *
        go_wp2
        go_meet
        exact ⟨_, _, rfl, HR, Lib.hid (World.ownsRow_nil _ _ _ _), HQ⟩
    case rest =>
    have hq7 := HQ.out.2.2
    have hD7 : w.heap.size < w7.heap.size := Nat.lt_of_lt_of_le hD1 HR.out.below.size
    have HMN := Lib.hid (Nat.le_of_lt hD7)
    clear HR HQ H4 H5 hl4 hu hG1 HG HC HT HTL
    obtain ⟨V2, vw, rfl, HR, HO, HQ⟩ := hcut
    obtain ⟨ao, ac, rfl⟩ := own_form HO.out
    obtain ⟨l5, e5, p5, y5⟩ := r5
    have hbel := HR.out.below
    obtain ⟨lv, hs5, hb5⟩ := HR.out.row
    have c0 := hb5.cell 0 lv rfl
    have c3 := hb5.cell 3 (.int .i64 y5) rfl
    dsimp only at hs5
    cases l5 with
    | nil =>
      obtain ⟨la, lc, rfl⟩ := hs5.form
      clear hs5 hb5 hbel
      by_cases hy6 : y5 = 0
      · subst hy6
        have E := Lib.hid (E.out.trans (endQ_nil e5 p5 ⟨k, ⟨a1, a2⟩, ⟨b1, b2⟩, us⟩))
        have HB := Lib.hid (HBW.out.trans (HR.out.below.mono (Nat.le_of_lt hD1)))
        obtain ⟨cb, fb, zb⟩ := HQ.out
        obtain ⟨ca, fa, za⟩ := HD1.out.below HR.out.below
        go_wp2
        refine bodyPost_ret (v := .tuple #[qdv ⟨k, ⟨a1, a2⟩, ⟨b1, b2⟩, us⟩ (.slice ao us.length ac), .int .i64 0, .int .i64 0]) (by simp [results, Tryz.results108, go_sem, ca]) rfl ⟨_, by rw [E.out], ?_, ?_⟩
        · rw [E.out]
          refine own_mono (HO.out.kept (row := some w.heap.size) ?_ (.inr (fun e => by have := (HO.out.lt _ e).1; omega))) HMN.out
          repeat' (first | exact World.grownBy.refl _ _ | refine gb_setCell ?_ _)
        · have hb4 := HB.out
          (repeat' (first | with_reducible exact Below.refl _ _ | with_reducible assumption | with_reducible (refine Below.setCell ?_ ?_ _) | with_reducible (refine Below.alloc ?_ ?_ _) | with_reducible (refine below_drew ?_) | with_reducible (refine below_drewN ?_ _) | with_reducible (refine Below.trans ?_ (Below.mono (by assumption) ?_)) | omega | (simp; done) | (simp; omega)))
      · have E := Lib.hid (E.out.trans (endQ_why [] e5 p5 y5 ⟨k, ⟨a1, a2⟩, ⟨b1, b2⟩, us⟩ hy6))
        clear HQ HO
        obtain ⟨ca, fa, za⟩ := HD1.out.below HR.out.below
        have HB := Lib.hid (HBW.out.trans (HR.out.below.mono (Nat.le_of_lt hD1)))
        obtain ⟨_, _, lv6, hs6, hb6⟩ := HR.out
        have c2 := hb6.cell 2 (.int .i64 p5) rfl
        have c3 := hb6.cell 3 (.int .i64 y5) rfl
        have f0 := hb6.2.1
        have z0 := hb6.2.2
        have dy : (y5 != 0) = true := by simp [hy6]
        have dy' : (y5 == 0) = false := by simp [hy6]
        clear hs6 hb6 hy6
        go_wp2_with fail
        go_region
        go_wp2
        refine bodyPost_ret (v := .tuple #[qdv noQd (.slice none 0 0), .int .i64 p5, .int .i64 y5]) (by simp [results, Tryz.results108, go_sem, ca, noQd, noR]) rfl ⟨_, by rw [E.out], by rw [E.out]; exact World.ownsRow_nil _ _ _ _, ?_⟩
        have hb4 := HB.out
        (repeat' (first | with_reducible exact Below.refl _ _ | with_reducible assumption | with_reducible (refine Below.setCell ?_ ?_ _) | with_reducible (refine Below.alloc ?_ ?_ _) | with_reducible (refine below_drew ?_) | with_reducible (refine below_drewN ?_ _) | with_reducible (refine Below.trans ?_ (Below.mono (by assumption) ?_)) | omega | (simp; done) | (simp; omega)))
    | cons t tl =>
      obtain ⟨tb, off, cap, rfl, hc, hm, hlt, hx⟩ := hs5.pos (by simp)
      have d1 : decide ((0 : Int) < (tl.length : Int) + 1) = true := by (rw [decide_eq_true_iff]; omega)
      have FA := Lib.hid (fun W (h : RdAt w1 W w1.heap.size ⟨t :: tl, e5, p5, y5⟩) => qr_fail ⟨t :: tl, e5, p5, y5⟩ w1 W w1.heap.size 2 h)
      obtain ⟨E1, hy6⟩ := endQ_fail t tl e5 p5 y5 ⟨k, ⟨a1, a2⟩, ⟨b1, b2⟩, us⟩
      rw [E1] at E
      clear hs5 hb5 hbel hx hc hm hlt E1
      generalize (Rd.mk (t :: tl) e5 p5 y5).failQ 2 = r6 at E hy6 FA
      obtain ⟨l6, e6, p6, y6⟩ := r6
      dsimp only at hy6 E
      go_wp2_with fail
      refine (FA.out _ HR.out).mono ?_
      rintro e w9 ⟨rfl, hr9, _⟩
      have HR := Lib.hid hr9
      clear hr9 FA
      clear HQ HO
      obtain ⟨ca, fa, za⟩ := HD1.out.below HR.out.below
      have HB := Lib.hid (HBW.out.trans (HR.out.below.mono (Nat.le_of_lt hD1)))
      obtain ⟨_, _, lv6, hs6, hb6⟩ := HR.out
      have c2 := hb6.cell 2 (.int .i64 p6) rfl
      have c3 := hb6.cell 3 (.int .i64 y6) rfl
      have f0 := hb6.2.1
      have z0 := hb6.2.2
      have dy : (y6 != 0) = true := by simp [hy6]
      have dy' : (y6 == 0) = false := by simp [hy6]
      clear hs6 hb6 hy6
      go_wp2_with fail
      go_region
      go_wp2
      refine bodyPost_ret (v := .tuple #[qdv noQd (.slice none 0 0), .int .i64 p6, .int .i64 y6]) (by simp [results, Tryz.results108, go_sem, ca, noQd, noR]) rfl ⟨_, by rw [E.out], by rw [E.out]; exact World.ownsRow_nil _ _ _ _, ?_⟩
      have hb4 := HB.out
      (repeat' (first | with_reducible exact Below.refl _ _ | with_reducible assumption | with_reducible (refine Below.setCell ?_ ?_ _) | with_reducible (refine Below.alloc ?_ ?_ _) | with_reducible (refine below_drew ?_) | with_reducible (refine below_drewN ?_ _) | with_reducible (refine Below.trans ?_ (Below.mono (by assumption) ?_)) | omega | (simp; done) | (simp; omega)))
  · replace E := Lib.hid (E.out.trans (show parseQT (l, i, y) en = (noQd, i, y) from if_pos hy))
    have d : (y != 0) = true := by simp [hy]
    clear hy
    obtain ⟨ca, fa, za⟩ := HD1.out
    go_wp2
    refine bodyPost_ret (v := .tuple #[qdv noQd (.slice none 0 0), .int .i64 i, .int .i64 y]) (by simp [results, Tryz.results108, go_sem, ca, noQd, noR]) rfl ⟨_, by rw [E.out], by rw [E.out]; exact World.ownsRow_nil _ _ _ _, ?_⟩
    have hb4 := HBW.out
    (repeat' (first | with_reducible exact Below.refl _ _ | with_reducible assumption | with_reducible (refine Below.setCell ?_ ?_ _) | with_reducible (refine Below.alloc ?_ ?_ _) | with_reducible (refine below_drew ?_) | with_reducible (refine below_drewN ?_ _) | with_reducible (refine Below.trans ?_ (Below.mono (by assumption) ?_)) | omega | (simp; done) | (simp; omega)))
end Go.Proofs.YtnhkgfgbhedphaaGreatDoor
namespace Go.Proofs.YtnhkgfgbhedphaaGreatDoor
open Go.RowKit Go.Shelf

def isSl : Value → Bool
  | .slice .. => true
  | _ => false
def BlkS (w : World) (g n : Nat) : Prop := ∃ cs : Array Value, Blk w g cs ∧ cs.size = n ∧ ∀ c ∈ cs.toList, isSl c = true
theorem cell_far (w : World) (g g' o o' : Nat) (v : Value) (h : ¬ g = g') : (w.setCell ⟨g, o, none⟩ v).cell? ⟨g', o', none⟩ = w.cell? ⟨g', o', none⟩ :=
  World.cell?_setCell_other w ⟨g, o, none⟩ ⟨g', o', none⟩ v (fun e => h (by injection e))
theorem Blk.put {w : World} {g o : Nat} {cs : Array Value} {v : Value} (h : Blk w g cs) (ho : o < cs.size) : Blk (w.setCell ⟨g, o, none⟩ v) g (cs.setIfInBounds o v) := by
  refine ⟨fun i => ?_, fun i => by simpa using h.2.1 i, by simpa using h.2.2⟩
  by_cases e : i = o
  · subst e
    rw [World.cell?_setCell_same (u := cs[i]) _ _ _ (by rw [h.1 i]; exact Array.getElem?_eq_getElem ho)]
    simp [ho]
  · rw [set_far _ _ _ _ _ e, h.1 i, Array.getElem?_setIfInBounds, if_neg (fun h => e h.symm)]
theorem BlkS.put {w : World} {g n o : Nat} {v : Value} (h : BlkS w g n) (ho : o < n) (hv : isSl v = true) : BlkS (w.setCell ⟨g, o, none⟩ v) g n := by
  obtain ⟨cs, hb, rfl, hc⟩ := h
  refine ⟨_, hb.put ho, by simp, fun c hcm => ?_⟩
  rw [Array.toList_setIfInBounds] at hcm
  rcases List.mem_or_eq_of_mem_set hcm with h | rfl
  · exact hc c h
  · exact hv
theorem Sl.set {w : World} {size n g m o : Nat} {v x : Value} {xs : List Value} (h : Sl w size v n xs) (hg : BlkS w g m) (hx : ∀ u ∈ xs, isSl u = false) : Sl (w.setCell ⟨g, o, none⟩ x) size v n xs := by
  obtain ⟨h1, h2, h3⟩ := h
  refine ⟨h1, h2, ?_⟩
  rcases h3 with h3 | ⟨b, off, cap, hv, hc, hm, hb, hcell⟩
  · exact .inl h3
  · refine .inr ⟨b, off, cap, hv, hc, hm, by simpa using hb, fun j u hu => ?_⟩
    by_cases e : g = b
    · subst e
      obtain ⟨cs, hbk, _, hcs⟩ := hg
      have h4 := hcell j u hu
      rw [hbk.1] at h4
      have h5 := hcs u (Array.mem_toList_iff.2 (Array.mem_of_getElem? h4))
      rw [hx u (List.mem_of_getElem? hu)] at h5; cases h5
    · exact (cell_far _ _ _ _ _ _ e).trans (hcell j u hu)
theorem st_noSl (l : List St) : ∀ u ∈ l.flatMap St.cells, isSl u = false := by
  intro u hu
  obtain ⟨x, _, hx⟩ := List.mem_flatMap.1 hu
  simp only [St.cells, List.mem_cons, List.not_mem_nil, or_false] at hx
  rcases hx with rfl | rfl | rfl | rfl | rfl | rfl | rfl | rfl | rfl <;> rfl
theorem rl_noSl (l : List Rl) : ∀ u ∈ l.flatMap Rl.cells, isSl u = false := by
  intro u hu
  obtain ⟨x, _, hx⟩ := List.mem_flatMap.1 hu
  simp only [Rl.cells, List.mem_cons, List.not_mem_nil, or_false] at hx
  rcases hx with rfl | rfl <;> rfl
def puts (w : World) (g : Nat) : Nat → List Value → World
  | _, [] => w
  | o, v :: vs => puts (w.setCell ⟨g, o, none⟩ v) g (o + 1) vs
theorem BlkS.puts {g n : Nat} : ∀ (vs : List Value) (o : Nat) (w : World), BlkS w g n → o + vs.length ≤ n → (∀ v ∈ vs, isSl v = true) → BlkS (puts w g o vs) g n
  | [], _, _, h, _, _ => h
  | v :: vs, o, w, h, ho, hv => by
    rw [List.length_cons] at ho
    exact BlkS.puts vs (o + 1) _ (h.put (by omega) (hv v (by simp))) (by omega) (fun x hx => hv x (by simp [hx]))
theorem Sl.puts {size n g m : Nat} {v : Value} {xs : List Value} (hx : ∀ u ∈ xs, isSl u = false) : ∀ (vs : List Value) (o : Nat) (w : World), Sl w size v n xs → BlkS w g m → o + vs.length ≤ m → (∀ v ∈ vs, isSl v = true) → Sl (puts w g o vs) size v n xs
  | [], _, _, h, _, _, _ => h
  | y :: vs, o, w, h, hg, ho, hv => by
    rw [List.length_cons] at ho
    exact Sl.puts hx vs (o + 1) _ (h.set hg hx) (hg.put (by omega) (hv y (by simp))) (by omega) (fun x hx => hv x (by simp [hx]))
end Go.Proofs.YtnhkgfgbhedphaaGreatDoor
namespace Go.Proofs.YtnhkgfgbhedphaaGreatDoor
open Go.RowKit Go.Shelf

end Go.Proofs.YtnhkgfgbhedphaaGreatDoor
namespace Go.Proofs.YtnhkgfgbhedphaaGreatDoor
open Go.RowKit Go.Shelf

end Go.Proofs.YtnhkgfgbhedphaaGreatDoor
namespace Go.Proofs.YtnhkgfgbhedphaaGreatDoor
open Go.RowKit Go.Shelf

end Go.Proofs.YtnhkgfgbhedphaaGreatDoor
namespace Go.Proofs.YtnhkgfgbhedphaaGreatDoor
open Go.RowKit Go.Shelf

def turned (y r : Ru) : Prop := y = r ∨ (r.k = 4 ∧ y.a = r.b ∧ y.b = r.a ∧ y.h = r.h)
end Go.Proofs.YtnhkgfgbhedphaaGreatDoor
namespace Go.Proofs.YtnhkgfgbhedphaaGreatDoor
open Go.RowKit Go.Shelf

end Go.Proofs.YtnhkgfgbhedphaaGreatDoor
namespace Go.Proofs.YtnhkgfgbhedphaaGreatDoor
open Go.RowKit Go.Shelf

end Go.Proofs.YtnhkgfgbhedphaaGreatDoor
namespace Go.Proofs.YtnhkgfgbhedphaaGreatDoor
open Go.RowKit Go.Shelf

structure Kp (X : Nat → Prop) (w w' : World) : Prop where
  os : w'.os = w.os
  tape : w'.tape = w.tape
  output : w'.output = w.output
  size : w.heap.size ≤ w'.heap.size
  block : ∀ k, k < w.heap.size → ¬ X k → w'.heap[k]? = w.heap[k]?
section
variable {X Y : Nat → Prop} {w w1 w2 : World}
theorem Kp.refl (X : Nat → Prop) (w : World) : Kp X w w := ⟨rfl, rfl, rfl, Nat.le_refl _, fun _ _ _ => rfl⟩
theorem Kp.of_below (h : Below w.heap.size w w1) : Kp X w w1 := ⟨h.os, h.tape, h.output, h.size, fun k hk _ => h.block k hk⟩
theorem Kp.of_grown {r : Option Nat} (h : w.grownBy w1 r) (hr : ∀ b, some b = r → X b) : Kp X w w1 := ⟨h.os, h.tape, h.output, h.size, fun k hk hx => h.block k hk (fun e => hx (hr k e))⟩
theorem Kp.trans (h : Kp X w w1) (g : Kp Y w1 w2) (hxy : ∀ b, b < w.heap.size → Y b → X b) : Kp X w w2 :=
  ⟨g.os.trans h.os, g.tape.trans h.tape, g.output.trans h.output, Nat.le_trans h.size g.size, fun k hk hx => (g.block k (Nat.lt_of_lt_of_le hk h.size) (fun hy => hx (hxy k hk hy))).trans (h.block k hk hx)⟩
theorem Kp.below {n : Nat} (h : Kp X w w1) (hn : n ≤ w.heap.size) (hx : ∀ b, b < n → ¬ X b) : Below n w w1 := ⟨h.os, h.tape, h.output, h.size, fun k hk => h.block k (Nat.lt_of_lt_of_le hk hn) (hx k hk)⟩
theorem Kp.blk {b : Nat} {cs : Array Value} (h : Kp X w w1) (hb : Blk w b cs) (hx : ¬ X b) : Blk w1 b cs := by
  have e := h.block b hb.2.2 hx
  exact ⟨fun o => (World.cell?_of_block (a := ⟨b, o, none⟩) e).trans (hb.1 o), fun o => (World.frozen?_of_block (a := ⟨b, o, none⟩) e).trans (hb.2.1 o), Nat.lt_of_lt_of_le hb.2.2 h.size⟩
theorem Kp.own {base size n : Nat} {e : TypeId} {v : Value} {xs : List Value} (h : Kp X w w1) (ho : w.ownsRow base e size v n xs) (hx : ∀ g, v.ownBlock = some g → ¬ X g) : w1.ownsRow base e size v n xs := by
  refine ⟨ho.1, ?_⟩
  rcases ho.2 with h2 | ⟨g, cap, cur, rfl, hb, hg, hr⟩
  · exact .inl h2
  · exact .inr ⟨g, cap, cur, rfl, hb, (h.block g (Array.getElem?_eq_some_iff.1 hg).1 (hx g rfl)).trans hg, hr⟩
theorem Kp.set {b o : Nat} {v : Value} (hx : X b) : Kp X w (w.setCell ⟨b, o, none⟩ v) :=
  ⟨rfl, rfl, rfl, by simp [World.setCell], fun k _ hk => Below.heap_setCell _ _ _ _ (fun e => hk (by have e' : k = b := e; rw [e']; exact hx))⟩
end
end Go.Proofs.YtnhkgfgbhedphaaGreatDoor
namespace Go.Proofs.YtnhkgfgbhedphaaGreatDoor
open Go.RowKit Go.Shelf

section
variable {P : Program} {ops : Array Oper} {Q : Exit → Act → World → Prop} {md : Region.Mode} {S : World → Prop} {last : Nat}

def underB (md : Region.Mode) (ops : Array Oper) : Nat → Nat → Nat → Bool
  | 0, _, _ => false
  | f + 1, j, i => match ops[j]? with
    | none => false
    | some o => o.after.any fun e => Region.binds md e && (e.on == i || underB md ops f e.on i)
def ClosedL (md : Region.Mode) (ops : Array Oper) (listed : Array Bool) : Prop :=
  ∀ j o, ops[j]? = some o → listed.getD j false = true → ∀ e ∈ o.after, Region.binds md e = true → listed.getD e.on false = true
def closedB (md : Region.Mode) (ops : Array Oper) (listed : Array Bool) : Bool :=
  (List.range ops.size).all fun j => !listed.getD j false || match ops[j]? with
    | some o => o.after.all fun e => !Region.binds md e || listed.getD e.on false
    | none => true
theorem closedB_spec {listed : Array Bool} (h : closedB md ops listed = true) : ClosedL md ops listed := by
  intro j o ho hl e he hb
  have h1 := List.all_eq_true.1 h j (List.mem_range.2 (Array.getElem?_eq_some_iff.1 ho).1)
  rw [hl, ho] at h1
  simp only [Bool.not_true, Bool.false_or] at h1
  have h2 := Array.all_eq_true_iff_forall_mem.1 h1 e he
  rw [hb] at h2
  simpa using h2
theorem under_listed {listed : Array Bool} (hc : ClosedL md ops listed) : ∀ (f j i : Nat), underB md ops f j i = true →
    (∀ o, ops[j]? = some o → ∀ e ∈ o.after, Region.binds md e = true → listed.getD e.on false = true) → listed.getD i false = true
  | 0, _, _, h, _ => by cases h
  | f + 1, j, i, h, hl => by
    unfold underB at h
    cases ho : ops[j]? with
    | none => rw [ho] at h; cases h
    | some o =>
      rw [ho] at h
      obtain ⟨e, he, hb⟩ := Array.any_eq_true'.1 h
      rw [Bool.and_eq_true, Bool.or_eq_true] at hb
      have h2 := hl o ho e he hb.1
      rcases hb.2 with h1 | h1
      · rw [← (beq_iff_eq.1 h1)]; exact h2
      · exact under_listed hc f e.on i h1 (fun o' ho' e' he' hb' => hc _ o' ho' h2 e' he' hb')
theorem closed_set {listed : Array Bool} {j : Nat} (hc : ClosedL md ops listed) (hj : j ∈ Region.ready md ops listed) : ClosedL md ops (listed.setIfInBounds j true) := by
  intro k o ho hl e he hb
  by_cases hk : k = j
  · subst hk
    obtain ⟨_, o', ho', hall⟩ := mem_ready.1 hj
    rw [ho] at ho'; cases ho'
    exact getD_set_true (hall e he hb)
  · rw [getD_set_ne false (Ne.symm hk)] at hl
    exact getD_set_true (hc k o ho hl e he hb)

def wpAnyL (P : Program) (md : Region.Mode) (ops : Array Oper) (Q : Exit → Act → World → Prop) (S : World → Prop) (last : Nat) : Nat → Array Bool → Act → World → Prop
  | 0, listed, a, w => Region.ready md ops listed = [] ∧ Q .normal a w
  | fuel + 1, listed, a, w =>
    (Region.ready md ops listed = [] → Q .normal a w) ∧
    ∀ i ∈ Region.ready md ops listed, wpOp P ops Q i (fun a' w' => (i = last ∨ S w') ∧ wpAnyL P md ops Q S last fuel (listed.setIfInBounds i true) a' w') a w
theorem wpAny_of_l : ∀ (fuel : Nat) (listed : Array Bool) (a : Act) (w : World), wpAnyL P md ops Q S last fuel listed a w → wpAny P md ops Q fuel listed a w
  | 0, _, _, _, h => h
  | fuel + 1, _, _, _, h => ⟨h.1, fun i hi => wpOp_mono (fun a' w' h' => wpAny_of_l fuel _ a' w' h'.2) (h.2 i hi)⟩
theorem wpAnyL_first {i : Nat} {oi : Oper} {v : Value} (hi : ops[i]? = some oi) (hsel : ∀ (j : Nat) (o : Oper) cs b, ops[j]? = some o → o.op ≠ .select cs b)
    (hQ : ∀ c a w, Q (.panic c) (a.put oi.dst v) w → Q (.panic c) a w) (f : Nat) (hu : underB md ops f last i = true) :
    ∀ (fuel : Nat) (listed : Array Bool) (a : Act) (w : World), ClosedL md ops listed →
      (∀ j oj, ops[j]? = some oj → j ≠ i → listed.getD j true = false → (∀ e ∈ oj.after, Region.binds md e = true → e.on ≠ i) → oi.apart ops oj = true) →
      i ∈ Region.ready md ops listed → YieldsIf P ops S oi v a → S w →
      wpAnyL P md ops Q S last fuel (listed.setIfInBounds i true) (a.put oi.dst v) w → wpAnyL P md ops Q S last (fuel + 1) listed a w := by
  intro fuel
  induction fuel with
  | zero =>
    intro listed a w _ _ hr hy hS H
    refine ⟨fun h => (by rw [h] at hr; cases hr), fun j hj => ?_⟩
    by_cases hji : j = i
    · subst hji; exact hy.wpOp hi hS ⟨.inr hS, H⟩
    · have := ready_mono hj hji
      rw [H.1] at this
      cases this
  | succ fuel ih =>
    intro listed a w hc hfree hr hy hS H
    refine ⟨fun h => (by rw [h] at hr; cases hr), fun j hj => ?_⟩
    by_cases hji : j = i
    · subst hji; exact hy.wpOp hi hS ⟨.inr hS, H⟩
    · have h1 := H.2 j (ready_mono hj hji)
      obtain ⟨hjun, oj, hoj, hall⟩ := mem_ready.1 hj
      have hiun := (mem_ready.1 hr).1
      have noti : listed.getD i false = true → False := fun h1 => by
        rcases Nat.lt_or_ge i listed.size with h' | h'
        · simp [h'] at hiun h1; rw [hiun] at h1; cases h1
        · simp [Array.getElem?_eq_none h'] at h1
      have hnot : ∀ e ∈ oj.after, Region.binds md e = true → e.on ≠ i := fun e he hb heq => noti (heq ▸ hall e he hb)
      have hlast : j ≠ last := fun e => by
        subst e
        exact noti (under_listed hc _ _ _ hu (fun o ho e he hb => by rw [hoj] at ho; cases ho; exact hall e he hb))
      have h2 := wpOp_putIf hoj (hfree j oj hoj hji hjun hnot) (fun cs b => hsel i oi cs b hi) (fun cs b => hsel j oj cs b hoj) hQ hy h1
      have hfree' : ∀ k ok, ops[k]? = some ok → k ≠ i → (listed.setIfInBounds j true).getD k true = false →
          (∀ e ∈ ok.after, Region.binds md e = true → e.on ≠ i) → oi.apart ops ok = true := fun k ok hk hki hun hno => by
        refine hfree k ok hk hki ?_ hno
        by_cases hjk : j = k
        · subst hjk; exact hjun
        · rw [getD_set_ne true hjk] at hun; exact hun
      refine wpOp_mono (fun a' w' h3 => ⟨h3.2.1, ih (listed.setIfInBounds j true) a' w' (closed_set hc hj) hfree' (ready_mono hr (Ne.symm hji)) h3.1 (h3.2.1.resolve_left hlast) ?_⟩) h2
      rw [Array.setIfInBounds_comm _ _ hji]
      exact h3.2.2
theorem wpAnyL_done {listed : Array Bool} {a : Act} {w : World} (hr : Region.ready md ops listed = []) (h : Q .normal a w) :
    ∀ fuel, wpAnyL P md ops Q S last fuel listed a w
  | 0 => ⟨hr, h⟩
  | _ + 1 => ⟨fun _ => h, by rw [hr]; simp⟩
end

theorem wp_region_last {P : Program} {Q : Exit → Act → World → Prop} {S : World → Prop} {l : List Oper} {id : Nat} {a : Act} {w : World} (last : Nat) (hm : P.follows .mixedOrders = true) (hS : S w.drew)
    (h : S w.drew → wpAnyL P .any l.toArray Q S last l.toArray.size (Array.replicate l.toArray.size false) a w.drew) : (Code.region id l.toArray true).wp P Q a w :=
  wp_region_any hm (wpAny_of_l _ _ _ _ (h hS))
theorem last_yes {P : Program} {md : Region.Mode} {S : World → Prop} {Q : Exit → Act → World → Prop} {fuel last : Nat} {listed : Array Bool} {a : Act} {w : World} {v : Value} {oi : Oper} {l : List Oper} (i : Nat) (hi : nthOp l i = some oi)
    (hs : Region.noSelect l.toArray = true) (hf : Region.free md l.toArray listed i = true) (hr : (Region.ready md l.toArray listed).contains i = true) (hu : underB md l.toArray l.length last i = true) (hc : closedB md l.toArray listed = true)
    (hQ : ∀ c a w, Q (.panic c) (a.put oi.dst v) w → Q (.panic c) a w) (hw : Region.wanted oi (yielded l.toArray a.tmps) = true) (hS : S w) (hy : ∀ w, S w → (execOp a.eval oi).run P w = .ok (.value v) w)
    (h : wpAnyL P md l.toArray Q S last fuel (listed.setIfInBounds i true) (a.put oi.dst v) w) : wpAnyL P md l.toArray Q S last (fuel + 1) listed a w := by
  have hi' : l.toArray[i]? = some oi := by rw [nthOp_get]; exact hi
  exact wpAnyL_first hi' (Region.noSelect_spec hs) hQ _ hu fuel listed a w (closedB_spec hc) (Region.free_spec hi' hf) (by simpa using hr) (Or.inl ⟨hw, hy⟩) hS h
theorem last_call {P : Program} {md : Region.Mode} {S : World → Prop} {Q : Exit → Act → World → Prop} {fuel last : Nat} {listed : Array Bool} {a : Act} {w : World} {oi : Oper} {l : List Oper} (i : Nat) (hi : nthOp l i = some oi)
    (hr : Region.ready md l.toArray listed = [i])
    (h : ∀ K' : Act → World → Prop, Shut (∀ a w, S w → (S w → wpAnyL P md l.toArray Q S last fuel (listed.setIfInBounds i true) a w) → K' a w) → if Region.wanted oi (yielded l.toArray a.tmps) = true then Oper.wp P oi a w K' Q else K' (a.put oi.dst undef) w) :
    wpAnyL P md l.toArray Q S last (fuel + 1) listed a w := by
  refine ⟨fun h0 => (by rw [hr] at h0; cases h0), ?_⟩
  rw [hr]
  intro j hj
  rw [List.mem_singleton] at hj
  subst hj
  exact wpOp_step (by rw [nthOp_get]; exact hi) (fun K' hK => h K' (fun a w hS hW => hK a w ⟨.inr hS, hW hS⟩))
theorem last_end {P : Program} {md : Region.Mode} {S : World → Prop} {Q : Exit → Act → World → Prop} {fuel : Nat} {listed : Array Bool} {a : Act} {w : World} {oi : Oper} {l : List Oper} (i : Nat) (hi : nthOp l i = some oi)
    (hr : Region.ready md l.toArray listed = [i]) (hd : Region.ready md l.toArray (listed.setIfInBounds i true) = [])
    (h : ∀ K' : Act → World → Prop, Shut (∀ a w, Q .normal a w → K' a w) → if Region.wanted oi (yielded l.toArray a.tmps) = true then Oper.wp P oi a w K' Q else K' (a.put oi.dst undef) w) :
    wpAnyL P md l.toArray Q S i (fuel + 1) listed a w := by
  refine ⟨fun h0 => (by rw [hr] at h0; cases h0), ?_⟩
  rw [hr]
  intro j hj
  rw [List.mem_singleton] at hj
  subst hj
  exact wpOp_step (by rw [nthOp_get]; exact hi) (fun K' hK => h K' (fun a w hQ => hK a w ⟨.inl rfl, wpAnyL_done hd hQ _⟩))
theorem lyes {P : Program} {md : Region.Mode} {S : World → Prop} {Q : Exit → Act → World → Prop} {fuel last : Nat} {listed : Array Bool} {a a' : Act} {w : World} {v : Value} {oi : Oper} {l : List Oper} (i : Nat)
    (h : wpAnyL P md l.toArray Q S last fuel (listed.setIfInBounds i true) a' w) (hi : nthOp l i = some oi := by rfl) (hy : ∀ w, S w → (execOp a.eval oi).run P w = .ok (.value v) w := by (intro w hSw; (try dsimp only at hSw); go_simp; (try with_reducible rfl)))
    (ha : a.put oi.dst v = a' := by (simp only [Act.put, List.setIfInBounds_toArray, List.set]; exact rfl)) (hs : Region.noSelect l.toArray = true := by kernel_rfl) (hf : Region.free md l.toArray listed i = true := by kernel_rfl) (hr : (Region.ready md l.toArray listed).contains i = true := by kernel_rfl) (hu : underB md l.toArray l.length last i = true := by kernel_rfl) (hc : closedB md l.toArray listed = true := by kernel_rfl)
    (hQ : ∀ c a w, Q (.panic c) (a.put oi.dst v) w → Q (.panic c) a w := by exact fun _ _ _ h => h) (hw : Region.wanted oi (yielded l.toArray a.tmps) = true := by rfl) (hS : S w := by assumption) : wpAnyL P md l.toArray Q S last (fuel + 1) listed a w := by
  subst ha
  exact last_yes i hi hs hf hr hu hc hQ hw hS hy h
end Go.Proofs.YtnhkgfgbhedphaaGreatDoor
namespace Go.Proofs.YtnhkgfgbhedphaaGreatDoor
open Go.RowKit Go.Shelf

def rowT (w : World) (k : Nat) : Prop := ∃ cs t, w.heap[k]? = some (.cells cs t (0, 0)) ∧ (t = 63 ∨ t = 54 ∨ t = 66)
def mkrX (C b : Nat) (w : World) (k : Nat) : Prop := k = b ∨ (C ≤ k ∧ rowT w k)
structure MkP (C b : Nat) (w : World) (v0 v1 v2 v3 : Value) (p : Pd) (zs : List (Qd × Value)) : Prop where
  blk : Blk w b #[v0, v1, v2, v3]
  hb : b < C
  hC : C ≤ w.heap.size
  z : zs.map (·.1) = p.q
  r0 : w.ownsRow C 63 9 v0 p.l.length (p.l.flatMap St.cells)
  r1 : w.ownsRow C 54 2 v1 p.g.length (p.g.flatMap Rl.cells)
  r2 : w.ownsRow C 54 2 v2 p.h.length (p.h.flatMap Rl.cells)
  r3 : w.ownsRow C 66 6 v3 zs.length ((zs.map qz).flatMap Qv.cells)
  rw : ∀ z ∈ zs, w.ownsRow C 9 1 z.2 z.1.us.length (strs z.1.us)
  ne : ∀ k, some k = v1.ownBlock → some k ≠ v2.ownBlock
theorem own_type {w : World} {base size n g : Nat} {e : TypeId} {v : Value} {xs : List Value} (h : w.ownsRow base e size v n xs) (hg : v.ownBlock = some g) : base ≤ g ∧ ∃ cs, w.heap[g]? = some (.cells cs e (0, 0)) := by
  rcases h.2 with ⟨rfl, _⟩ | ⟨g', cap, cur, rfl, hb, hh, _⟩
  · cases hg
  · injection hg with hg
    dsimp only at hg
    subst hg
    exact ⟨hb, cur, hh⟩
theorem type_ne {w : World} {g g' : Nat} {cs cs' : Array Value} {t t' : TypeId} (h : w.heap[g]? = some (.cells cs t (0, 0))) (h' : w.heap[g']? = some (.cells cs' t' (0, 0))) (hne : ¬ t = t') : ¬ g = g' := by
  rintro rfl
  rw [h] at h'
  injection h' with h'
  injection h' with _ h' _
  exact hne h'
theorem MkP.kp {C b : Nat} {w w' : World} {v0 v1 v2 v3 : Value} {p : Pd} {zs : List (Qd × Value)} (h : MkP C b w v0 v1 v2 v3 p zs) {X : Nat → Prop} (k : Kp X w w') (hb : ¬ X b) (hX : ∀ g, C ≤ g → X g → ¬ rowT w g ∧ ∀ cs, w.heap[g]? ≠ some (.cells cs 9 (0, 0))) : MkP C b w' v0 v1 v2 v3 p zs := by
  have hr : ∀ {e : TypeId} {size n : Nat} {v : Value} {xs : List Value}, w.ownsRow C e size v n xs → (e = 63 ∨ e = 54 ∨ e = 66) → w'.ownsRow C e size v n xs := fun ho he => k.own ho (fun g hg hx => by
    obtain ⟨h1, cs, h2⟩ := own_type ho hg
    exact (hX g h1 hx).1 ⟨cs, _, h2, he⟩)
  exact ⟨k.blk h.blk hb, h.hb, Nat.le_trans h.hC k.size, h.z, hr h.r0 (.inl rfl), hr h.r1 (.inr (.inl rfl)), hr h.r2 (.inr (.inl rfl)), hr h.r3 (.inr (.inr rfl)), fun z hz => k.own (h.rw z hz) (fun g hg hx => by
    obtain ⟨h1, cs, h2⟩ := own_type (h.rw z hz) hg
    exact (hX g h1 hx).2 cs h2), h.ne⟩
theorem MkP.below {C b : Nat} {w w' : World} {v0 v1 v2 v3 : Value} {p : Pd} {zs : List (Qd × Value)} (h : MkP C b w v0 v1 v2 v3 p zs) (hb : Below w.heap.size w w') : MkP C b w' v0 v1 v2 v3 p zs :=
  h.kp (Kp.of_below (X := fun _ => False) hb) id (fun _ _ hx => hx.elim)
theorem MkP.pol {C b : Nat} {w : World} {v0 v1 v2 v3 : Value} {p : Pd} {zs : List (Qd × Value)} (h : MkP C b w v0 v1 v2 v3 p zs) : PolD w v0 v1 v2 v3 p zs :=
  ⟨h.z, (Sl.of_own h.r0).a, (Sl.of_own h.r1).a, (Sl.of_own h.r2).a, (Sl.of_own h.r3).a, fun z hz => (Sl.of_own (h.rw z hz)).a⟩
def resL (y : Pd × Int × Int) : Int × Int := if y.2.2 ≠ 0 then y.2 else if fitsD y.1 = true then (y.2.1, 0) else (1, 5)
def LineP (C b : Nat) (w : World) (y : Pd × Int × Int) (e : Ending) (w' : World) : Prop :=
  e = .returned (.tuple #[.int .i64 (resL y).1, .int .i64 (resL y).2]) ∧ Kp (mkrX C b w) w w' ∧ ((resL y).2 = 0 → ∃ v0 v1 v2 v3 zs, MkP C b w' v0 v1 v2 v3 y.1 zs)
theorem resL_bad {y : Pd × Int × Int} (h : ¬ y.2.2 = 0) : resL y = y.2 := if_pos h
theorem resL_fits {y : Pd × Int × Int} (h : y.2.2 = 0) (hf : fitsD y.1 = true) : resL y = (y.2.1, 0) := by unfold resL; rw [if_neg (fun x => x h), if_pos hf]
theorem resL_many {y : Pd × Int × Int} (h : y.2.2 = 0) (hf : fitsD y.1 = false) : resL y = (1, 5) := by unfold resL; rw [if_neg (fun x => x h), hf]; rfl
theorem lineT_bad {p : Pd} {s : ByteArray} {t : List Tok × Int × Int} (h : ¬ t.2.2 = 0) : lineT p s t = (p, t.2.1, t.2.2) := if_pos h
theorem lineT_nil {p : Pd} {s : ByteArray} {i : Int} : lineT p s ([], i, 0) = (p, i, 0) := by unfold lineT; rw [if_neg (fun h => h rfl)]
theorem lineT_ask {p : Pd} {s : ByteArray} {x : Tok} {r : List Tok} {i : Int} (h : x.tx = wAlways ∨ x.tx = wCan) : lineT p s (x :: r, i, 0) = ({ p with q := p.q ++ [(parseQ s).1] }, (parseQ s).2) := by
  unfold lineT; rw [if_neg (fun h => h rfl)]; exact if_pos h
theorem lineT_grow {p : Pd} {s : ByteArray} {x : Tok} {r : List Tok} {i : Int} (h : ¬ (x.tx = wAlways ∨ x.tx = wCan)) (h2 : x.tx = wGrow) :
    lineT p s (x :: r, i, 0) = ({ p with g := insAllR [] (p.g ++ [(boundT (x :: r) (endOf s)).1]) }, (boundT (x :: r) (endOf s)).2) := by
  unfold lineT; rw [if_neg (fun h => h rfl)]; dsimp only; rw [if_neg h, if_pos h2]
theorem lineT_shrink {p : Pd} {s : ByteArray} {x : Tok} {r : List Tok} {i : Int} (h : ¬ (x.tx = wAlways ∨ x.tx = wCan)) (h2 : ¬ x.tx = wGrow) (h3 : x.tx = wShrink) :
    lineT p s (x :: r, i, 0) = ({ p with h := insAllR [] (p.h ++ [(boundT (x :: r) (endOf s)).1]) }, (boundT (x :: r) (endOf s)).2) := by
  unfold lineT; rw [if_neg (fun h => h rfl)]; dsimp only; rw [if_neg h, if_neg h2, if_pos h3]
theorem lineT_stmt {p : Pd} {s : ByteArray} {x : Tok} {r : List Tok} {i : Int} (h : ¬ (x.tx = wAlways ∨ x.tx = wCan)) (h2 : ¬ x.tx = wGrow) (h3 : ¬ x.tx = wShrink) :
    lineT p s (x :: r, i, 0) = ({ p with l := insAll [] (p.l ++ [(parseS s).1]) }, (parseS s).2) := by
  unfold lineT; rw [if_neg (fun h => h rfl)]; dsimp only; rw [if_neg h, if_neg h2, if_neg h3]
theorem MkP.row {C b o : Nat} {w w' : World} {v0 v1 v2 v3 u : Value} {p : Pd} {zs : List (Qd × Value)} (h : MkP C b w v0 v1 v2 v3 p zs) {v : Value}
    (k : Kp (fun k => some k = v.ownBlock) w w') {e : TypeId} {size n : Nat} {x : Value} {xs : List Value} (hx : w.ownsRow C e size x n xs) (hne : ∀ k, some k = v.ownBlock → some k ≠ x.ownBlock) : (w'.setCell ⟨b, o, none⟩ u).ownsRow C e size x n xs :=
  (Kp.set (X := fun k => k = b) rfl).own (k.own hx (fun g hg e => hne g e hg.symm)) (fun g hg e => by have := (own_type hx hg).1; have := h.hb; omega)
theorem own_ne_type {w : World} {B size size' n n' : Nat} {e e' : TypeId} {v v' : Value} {xs xs' : List Value} (h : w.ownsRow B e size v n xs) (h' : w.ownsRow B e' size' v' n' xs') (hne : ¬ e = e') : ∀ k, some k = v.ownBlock → some k ≠ v'.ownBlock := fun k h1 h2 => by
  obtain ⟨_, cs, hc⟩ := own_type h h1.symm
  obtain ⟨_, cs', hc'⟩ := own_type h' h2.symm
  exact type_ne hc hc' hne rfl
theorem ne_sq : ¬ (63 : TypeId) = 66 := by decide
theorem ne_sr : ¬ (63 : TypeId) = 54 := by decide
theorem ne_rq : ¬ (54 : TypeId) = 66 := by decide
theorem ne_ts : ¬ (9 : TypeId) = 63 := by decide
theorem ne_tr : ¬ (9 : TypeId) = 54 := by decide
theorem ne_tq : ¬ (9 : TypeId) = 66 := by decide
theorem MkP.put0 {C b : Nat} {w w' : World} {v0 v1 v2 v3 u : Value} {p : Pd} {zs : List (Qd × Value)} (h : MkP C b w v0 v1 v2 v3 p zs) (k : Kp (fun k => some k = v0.ownBlock) w w') {l : List St} (ho : w'.ownsRow C 63 9 u l.length (l.flatMap St.cells)) :
    MkP C b (w'.setCell ⟨b, 0, none⟩ u) u v1 v2 v3 { p with l := l } zs := by
  have hb0 : some b ≠ v0.ownBlock := fun e => by have := (own_type h.r0 e.symm).1; have := h.hb; omega
  refine ⟨((k.blk h.blk hb0).put (o := 0) (by simp)).congr rfl, h.hb, by simpa using Nat.le_trans h.hC k.size, h.z, ?_, h.row k h.r1 (own_ne_type h.r0 h.r1 ne_sr), h.row k h.r2 (own_ne_type h.r0 h.r2 ne_sr), h.row k h.r3 (own_ne_type h.r0 h.r3 ne_sq), fun z hz => h.row k (h.rw z hz) (own_ne_type h.r0 (h.rw z hz) (fun e => ne_ts e.symm)), h.ne⟩
  exact (Kp.set (X := fun k => k = b) rfl).own ho (fun g hg e => by have := (own_type ho hg).1; have := h.hb; omega)
theorem MkP.put1 {C b : Nat} {w w' : World} {v0 v1 v2 v3 u : Value} {p : Pd} {zs : List (Qd × Value)} (h : MkP C b w v0 v1 v2 v3 p zs) (k : Kp (fun k => some k = v1.ownBlock) w w') {l : List Rl} (ho : w'.ownsRow C 54 2 u l.length (l.flatMap Rl.cells)) (hn : ∀ k, some k = u.ownBlock → some k ≠ v2.ownBlock) :
    MkP C b (w'.setCell ⟨b, 1, none⟩ u) v0 u v2 v3 { p with g := l } zs := by
  have hb0 : some b ≠ v1.ownBlock := fun e => by have := (own_type h.r1 e.symm).1; have := h.hb; omega
  refine ⟨((k.blk h.blk hb0).put (o := 1) (by simp)).congr rfl, h.hb, by simpa using Nat.le_trans h.hC k.size, h.z, h.row k h.r0 (own_ne_type h.r1 h.r0 (fun e => ne_sr e.symm)), ?_, h.row k h.r2 h.ne, h.row k h.r3 (own_ne_type h.r1 h.r3 ne_rq), fun z hz => h.row k (h.rw z hz) (own_ne_type h.r1 (h.rw z hz) (fun e => ne_tr e.symm)), hn⟩
  exact (Kp.set (X := fun k => k = b) rfl).own ho (fun g hg e => by have := (own_type ho hg).1; have := h.hb; omega)
theorem MkP.put2 {C b : Nat} {w w' : World} {v0 v1 v2 v3 u : Value} {p : Pd} {zs : List (Qd × Value)} (h : MkP C b w v0 v1 v2 v3 p zs) (k : Kp (fun k => some k = v2.ownBlock) w w') {l : List Rl} (ho : w'.ownsRow C 54 2 u l.length (l.flatMap Rl.cells)) (hn : ∀ k, some k = v1.ownBlock → some k ≠ u.ownBlock) :
    MkP C b (w'.setCell ⟨b, 2, none⟩ u) v0 v1 u v3 { p with h := l } zs := by
  have hb0 : some b ≠ v2.ownBlock := fun e => by have := (own_type h.r2 e.symm).1; have := h.hb; omega
  refine ⟨((k.blk h.blk hb0).put (o := 2) (by simp)).congr rfl, h.hb, by simpa using Nat.le_trans h.hC k.size, h.z, h.row k h.r0 (own_ne_type h.r2 h.r0 (fun e => ne_sr e.symm)), h.row k h.r1 (fun g h1 h2 => h.ne g h2 h1), ?_, h.row k h.r3 (own_ne_type h.r2 h.r3 ne_rq), fun z hz => h.row k (h.rw z hz) (own_ne_type h.r2 (h.rw z hz) (fun e => ne_tr e.symm)), hn⟩
  exact (Kp.set (X := fun k => k = b) rfl).own ho (fun g hg e => by have := (own_type ho hg).1; have := h.hb; omega)
theorem MkP.put3 {C b : Nat} {w w' : World} {v0 v1 v2 v3 u v : Value} {p : Pd} {zs : List (Qd × Value)} {q : Qd} (h : MkP C b w v0 v1 v2 v3 p zs) (hw : w.ownsRow C 9 1 v q.us.length (strs q.us)) (k : Kp (fun k => some k = v3.ownBlock) w w')
    (ho : w'.ownsRow C 66 6 u (zs.length + 1) ((zs.map qz).flatMap Qv.cells ++ (qz (q, v)).cells)) :
    MkP C b (w'.setCell ⟨b, 3, none⟩ u) v0 v1 v2 u { p with q := p.q ++ [q] } (zs ++ [(q, v)]) := by
  have hb0 : some b ≠ v3.ownBlock := fun e => by have := (own_type h.r3 e.symm).1; have := h.hb; omega
  refine ⟨((k.blk h.blk hb0).put (o := 3) (by simp)).congr rfl, h.hb, by simpa using Nat.le_trans h.hC k.size, by simp [h.z], h.row k h.r0 (own_ne_type h.r3 h.r0 (fun e => ne_sq e.symm)), h.row k h.r1 (own_ne_type h.r3 h.r1 (fun e => ne_rq e.symm)), h.row k h.r2 (own_ne_type h.r3 h.r2 (fun e => ne_rq e.symm)), ?_, fun z hz => ?_, h.ne⟩
  · have e1 : (zs ++ [(q, v)]).length = zs.length + 1 := by simp
    have e2 : ((zs ++ [(q, v)]).map qz).flatMap Qv.cells = (zs.map qz).flatMap Qv.cells ++ (qz (q, v)).cells := by simp
    rw [e1, e2]
    exact (Kp.set (X := fun k => k = b) rfl).own ho (fun g hg e => by have := (own_type ho hg).1; have := h.hb; omega)
  · rcases List.mem_append.1 hz with hz | hz
    · exact h.row k (h.rw z hz) (own_ne_type h.r3 (h.rw z hz) (fun e => ne_tq e.symm))
    · obtain rfl := List.mem_singleton.1 hz
      exact h.row k hw (own_ne_type h.r3 hw (fun e => ne_tq e.symm))
end Go.Proofs.YtnhkgfgbhedphaaGreatDoor
