/- The reference's Tokens returns the tokens of a line, or what is wrong first, and where. -/
import Derived.Test.YtakpahlgbcgnmaaDoorRef02
namespace Go.Proofs.YtakpahlgbcgnmaaDoor
open Go.RowKit Go.Shelf

theorem tok_push {w2 : World} {B : Nat} {v : Value} {acc : List Tok} {X : ByteArray} {kd co : Int} (t : Tok) (ht : t.cells = [.int .i64 kd, .string X, .int .i64 co])
    (h : w2.ownsRow B 44 3 v (acc.length + 1) (acc.flatMap Tok.cells ++ [.int .i64 kd, .string X, .int .i64 co])) :
    w2.ownsRow B 44 3 v (acc ++ [t]).length ((acc ++ [t]).flatMap Tok.cells) := by
  rw [List.length_append, List.flatMap_append]
  simp only [List.flatMap_cons, List.flatMap_nil, List.append_nil, ht]
  exact h

theorem word_at (s : ByteArray) (k j : Nat) (h1 : k ≤ j) (h2 : j ≤ s.size) (hal : ∀ x ∈ ((bl s).drop k).take (j - k), alnum x = true) (hc : ∀ c, ((bl s).drop k)[j - k]? = some c → alnum c = false) :
    (wordOf ((bl s).drop k)).length = j - k ∧ s.extract k j = ⟨(wordOf ((bl s).drop k)).toArray⟩ := by
  have h := word_stop _ _ hal (by rw [List.length_drop, bl_len]; omega) hc
  have h3 := sword s k
  rw [h, show k + (j - k) = j by omega] at h3
  exact ⟨h, str_eq h3⟩
theorem alnum_big {c : UInt8} (h : btw c.toNat 65 90 = true) : alnum c = true := by simp [alnum, h]
theorem alnum_small {c : UInt8} (h : btw c.toNat 97 122 = true) : alnum c = true := by simp [alnum, h]
theorem alnum_fig {c : UInt8} (h : btw c.toNat 48 57 = true) : alnum c = true := by simp [alnum, h]
theorem alnum_none {c : UInt8} (h1 : btw c.toNat 65 90 = false) (h2 : btw c.toNat 97 122 = false) (h3 : btw c.toNat 48 57 = false) : alnum c = false := by simp [alnum, h1, h2, h3]

set_option maxRecDepth 100000 in
set_option maxHeartbeats 4000000 in
theorem ref2_Tokens (s : ByteArray) (w : World) (hs : s.size ≤ 200) :
    Calls Tryd.prog 23 #[.string s] w (TokPost (tokens (bl s)) w) := by
  have ht : tokens (bl s) = toks (bare (bl s)).length (bare (bl s)) 0 [] := by unfold tokens; rw [if_neg (by rw [bl_len]; omega)]
  have HT := Lib.hid ht
  have HB := Lib.hid (ref2_Bare s w (by omega))
  have hle := bare_le (bl s)
  rw [bl_len] at hle
  generalize hr : (⟨(bare (bl s)).toArray⟩ : ByteArray) = r at HB
  have hbr : bl r = bare (bl s) := by rw [← hr]
  have hrs : r.size ≤ 200 := by rw [← bl_len, hbr]; omega
  have HR := Lib.hid hbr
  clear hr hbr hle ht
  have h200 : decide (200 < (s.size : Int)) = false := by simp; omega
  go_enter Tryd.func23, Tryd.ntmps23
  go_wp2_with (go_at_call 63; refine HB.out.mono ?_; rintro e w' ⟨rfl, rfl⟩)
  go_loopw [6, 7] (TokRel w.heap.size w (bl r)) (fun _ i _ => r.size - (intOf i).toNat)
  case atStart => exact ⟨0, (bl r).length, [], by omega, rfl, by omega, by simp, World.ownsRow_nil _ _ _ _, rfl, Below.refl _ _⟩
  case round =>
    obtain ⟨k, f, acc, hk, rfl, hf, hacc, hown, htk, hb⟩ := hrel
    rw [bl_len] at hk hf
    have HK := Lib.hid htk
    clear htk
    have hsz0 := hb.size
    by_cases hlt : k < r.size
    · obtain ⟨f, rfl⟩ : ∃ f', f = f' + 1 := ⟨f - 1, by omega⟩
      by_cases h32 : r[k].toNat = 32
      · have b32 : ((r[k].toNat : Int) == 32) = true := by rw [beq_iff_eq]; omega
        have HN := Lib.hid (HK.out.trans (toks_at_space r k f acc hlt h32))
        clear h32
        go_wp2
        exact ⟨⟨k + 1, f, acc, by rw [bl_len]; omega, by go_num, by rw [bl_len]; omega, by omega, hown, HN.out, hb⟩, by simp [intOf]; omega⟩
      · have b32 : ((r[k].toNat : Int) == 32) = false := by rw [beq_eq_false_iff_ne]; omega
        have hbad := toks_at_bad r k f acc hlt h32
        have hlong := toks_at_long r k f acc hlt h32
        have hgo := toks_at_go r k f acc hlt h32
        by_cases h46 : r[k].toNat = 46
        · have b46 : ((r[k].toNat : Int) == 46) = true := by rw [beq_iff_eq]; omega
          rw [oneTok_dot r k hlt h46] at hgo
          have HN := Lib.hid (HK.out.trans (hgo (by first | decide | (dsimp only; decide)) (by first | decide | (dsimp only; decide))))
          clear hbad hlong hgo h32 h46
          go_wp2_with (at_builtin; refine app_own Tryd.underlying38 tok_info rfl (by decide) (by decide) rfl _ _ rfl w.heap.size rfl (hown.alloc _) (tokCells 3 ⟨#[46]⟩ (k + 1)) rfl (heap_new1 _ _) rfl (tok_one _ _ _) ?_ ?_ ?_; omega; (simp; omega); intro a' cap' w2 hown' hgrow)
          exact ⟨⟨k + 1, f, acc ++ [⟨3, [46], k + 1⟩], by rw [bl_len]; omega, by go_num, by rw [bl_len]; omega, by simp; omega, tok_push _ rfl hown', HN.out, (hb.alloc hsz0 _).grown hgrow (by simp; omega) (fun g hg => (hown.lt g hg).1)⟩, by simp [intOf]; omega⟩
        · have b46 : ((r[k].toNat : Int) == 46) = false := by rw [beq_eq_false_iff_ne]; omega
          by_cases h38 : r[k].toNat = 38
          · have b38 : ((r[k].toNat : Int) == 38) = true := by rw [beq_iff_eq]; omega
            rw [oneTok_amp r k hlt h38] at hgo
            have HN := Lib.hid (HK.out.trans (hgo (by first | decide | (dsimp only; decide)) (by first | decide | (dsimp only; decide))))
            clear hbad hlong hgo h32 h46 h38
            go_wp2_with (at_builtin; refine app_own Tryd.underlying38 tok_info rfl (by decide) (by decide) rfl _ _ rfl w.heap.size rfl (hown.alloc _) (tokCells 5 ⟨#[38]⟩ (k + 1)) rfl (heap_new1 _ _) rfl (tok_one _ _ _) ?_ ?_ ?_; omega; (simp; omega); intro a' cap' w2 hown' hgrow)
            exact ⟨⟨k + 1, f, acc ++ [⟨5, [38], k + 1⟩], by rw [bl_len]; omega, by go_num, by rw [bl_len]; omega, by simp; omega, tok_push _ rfl hown', HN.out, (hb.alloc hsz0 _).grown hgrow (by simp; omega) (fun g hg => (hown.lt g hg).1)⟩, by simp [intOf]; omega⟩
          · have b38 : ((r[k].toNat : Int) == 38) = false := by rw [beq_eq_false_iff_ne]; omega
            by_cases h60 : r[k].toNat = 60
            · have b60 : ((r[k].toNat : Int) == 60) = true := by rw [beq_iff_eq]; omega
              by_cases hnx : k + 1 < r.size
              · by_cases h45 : r[k + 1].toNat = 45
                · have b45 : ((r[k + 1].toNat : Int) == 45) = true := by rw [beq_iff_eq]; omega
                  rw [oneTok_arrow r k hlt h60 hnx h45] at hgo
                  have HN := Lib.hid (HK.out.trans (hgo (by first | decide | (dsimp only; decide)) (by first | decide | (dsimp only; decide))))
                  clear hbad hlong hgo h32 h46 h38 h60 h45
                  go_wp2_with (at_builtin; refine app_own Tryd.underlying38 tok_info rfl (by decide) (by decide) rfl _ _ rfl w.heap.size rfl (hown.alloc _) (tokCells 4 ⟨#[60, 45]⟩ (k + 1)) rfl (heap_new1 _ _) rfl (tok_one _ _ _) ?_ ?_ ?_; omega; (simp; omega); intro a' cap' w2 hown' hgrow)
                  exact ⟨⟨k + 2, f, acc ++ [⟨4, [60, 45], k + 1⟩], by rw [bl_len]; omega, by go_num, by rw [bl_len]; omega, by simp; omega, tok_push _ rfl hown', HN.out, (hb.alloc hsz0 _).grown hgrow (by simp; omega) (fun g hg => (hown.lt g hg).1)⟩, by simp [intOf]; omega⟩
                · have b45 : ((r[k + 1].toNat : Int) == 45) = false := by rw [beq_eq_false_iff_ne]; omega
                  have hB : btw r[k].toNat 65 90 = false := by simp [btw]; omega
                  have hS : btw r[k].toNat 97 122 = false := by simp [btw]; omega
                  rw [oneTok_none r k hlt h46 h38 (fun x => h45 x.2.2) hB hS] at hbad
                  have HN := Lib.hid (HK.out.trans (hbad rfl))
                  clear hbad hlong hgo h32 h46 h38 h60 h45
                  go_wp2_with (first | (go_at_call 76; refine (ref2_big _ _).mono ?_; rintro e w' ⟨rfl, rfl⟩) | (go_at_call 77; refine (ref2_small _ _).mono ?_; rintro e w' ⟨rfl, rfl⟩) | (go_at_call 78; refine (ref2_figure _ _).mono ?_; rintro e w' ⟨rfl, rfl⟩))
                  go_ret3
                  rw [HT.out, ← HR.out, HN.out]
                  exact ⟨_, rfl, World.ownsRow_nil _ _ _ _, hb⟩
              · have hB : btw r[k].toNat 65 90 = false := by simp [btw]; omega
                have hS : btw r[k].toNat 97 122 = false := by simp [btw]; omega
                rw [oneTok_none r k hlt h46 h38 (fun x => hnx x.2.1) hB hS] at hbad
                have HN := Lib.hid (HK.out.trans (hbad rfl))
                clear hbad hlong hgo h32 h46 h38 h60
                go_wp2_with (first | (go_at_call 76; refine (ref2_big _ _).mono ?_; rintro e w' ⟨rfl, rfl⟩) | (go_at_call 77; refine (ref2_small _ _).mono ?_; rintro e w' ⟨rfl, rfl⟩) | (go_at_call 78; refine (ref2_figure _ _).mono ?_; rintro e w' ⟨rfl, rfl⟩))
                go_ret3
                rw [HT.out, ← HR.out, HN.out]
                exact ⟨_, rfl, World.ownsRow_nil _ _ _ _, hb⟩
            · have b60 : ((r[k].toNat : Int) == 60) = false := by rw [beq_eq_false_iff_ne]; omega
              cases hB : btw r[k].toNat 65 90 with
              | true =>
                rw [oneTok_big r k hlt hB] at hlong hgo
                clear hbad h32 h46 h38 h60
                go_wp2_with (first | (go_at_call 76; refine (ref2_big _ _).mono ?_; rintro e w' ⟨rfl, rfl⟩) | (go_at_call 77; refine (ref2_small _ _).mono ?_; rintro e w' ⟨rfl, rfl⟩) | (go_at_call 78; refine (ref2_figure _ _).mono ?_; rintro e w' ⟨rfl, rfl⟩))
                go_loop [9] (fun x => ∃ j : Nat, k ≤ j ∧ j ≤ r.size ∧ x = .int .i64 j ∧ ∀ c ∈ ((bl r).drop k).take (j - k), alnum c = true) (fun x => r.size - (intOf x).toNat)
                case atStart => exact ⟨k, by omega, by omega, rfl, by simp⟩
                case round =>
                  obtain ⟨j, hj1, hj2, rfl, hal⟩ := hrel
                  have HA := Lib.hid hal
                  clear hal
                  by_cases hjl : j < r.size
                  · have hat : ((bl r).drop k)[j - k]? = some r[j] := by
                      have := bl_at r k (j - k) (by omega)
                      simpa [show k + (j - k) = j by omega] using this
                    have hmore := fun ha => (word_more _ (j - k) _ HA.out hat ha : ∀ x ∈ ((bl r).drop k).take (j - k + 1), alnum x = true)
                    have hw := fun (ha : alnum r[j] = false) => word_at r k j hj1 hj2 HA.out (fun c h => by rw [hat] at h; cases h; exact ha)
                    have hpos : alnum r[j] = false → k < j := fun ha => by
                      rcases Nat.lt_or_ge k j with h | h
                      · exact h
                      · obtain rfl : k = j := by omega
                        rw [alnum_big hB] at ha
                        cases ha
                    rw [show j - k + 1 = j + 1 - k by omega] at hmore
                    clear hat
                    cases h1 : btw r[j].toNat 65 90 with
                    | true =>
                      have HM := Lib.hid (hmore (alnum_big h1))
                      clear hmore hw hpos hlong hgo
                      go_wp2_with (first | (go_at_call 76; refine (ref2_big _ _).mono ?_; rintro e w' ⟨rfl, rfl⟩) | (go_at_call 77; refine (ref2_small _ _).mono ?_; rintro e w' ⟨rfl, rfl⟩) | (go_at_call 78; refine (ref2_figure _ _).mono ?_; rintro e w' ⟨rfl, rfl⟩) | (at_builtin; refine app_own Tryd.underlying38 tok_info rfl (by decide) (by decide) rfl _ _ rfl w.heap.size rfl (hown.alloc _) (tokCells 1 (r.extract k j) (k + 1)) rfl (heap_new1 _ _) rfl (tok_one _ _ _) ?_ ?_ ?_; omega; (simp; omega); intro a' cap' w2 hown' hgrow))
                      exact ⟨⟨j + 1, by omega, by omega, by go_num, HM.out⟩, by simp [intOf]; omega⟩
                    | false =>
                      cases h2 : btw r[j].toNat 97 122 with
                      | true =>
                        have HM := Lib.hid (hmore (alnum_small h2))
                        clear hmore hw hpos hlong hgo
                        go_wp2_with (first | (go_at_call 76; refine (ref2_big _ _).mono ?_; rintro e w' ⟨rfl, rfl⟩) | (go_at_call 77; refine (ref2_small _ _).mono ?_; rintro e w' ⟨rfl, rfl⟩) | (go_at_call 78; refine (ref2_figure _ _).mono ?_; rintro e w' ⟨rfl, rfl⟩) | (at_builtin; refine app_own Tryd.underlying38 tok_info rfl (by decide) (by decide) rfl _ _ rfl w.heap.size rfl (hown.alloc _) (tokCells 1 (r.extract k j) (k + 1)) rfl (heap_new1 _ _) rfl (tok_one _ _ _) ?_ ?_ ?_; omega; (simp; omega); intro a' cap' w2 hown' hgrow))
                        exact ⟨⟨j + 1, by omega, by omega, by go_num, HM.out⟩, by simp [intOf]; omega⟩
                      | false =>
                        cases h3 : btw r[j].toNat 48 57 with
                        | true =>
                          have HM := Lib.hid (hmore (alnum_fig h3))
                          clear hmore hw hpos hlong hgo
                          go_wp2_with (first | (go_at_call 76; refine (ref2_big _ _).mono ?_; rintro e w' ⟨rfl, rfl⟩) | (go_at_call 77; refine (ref2_small _ _).mono ?_; rintro e w' ⟨rfl, rfl⟩) | (go_at_call 78; refine (ref2_figure _ _).mono ?_; rintro e w' ⟨rfl, rfl⟩) | (at_builtin; refine app_own Tryd.underlying38 tok_info rfl (by decide) (by decide) rfl _ _ rfl w.heap.size rfl (hown.alloc _) (tokCells 1 (r.extract k j) (k + 1)) rfl (heap_new1 _ _) rfl (tok_one _ _ _) ?_ ?_ ?_; omega; (simp; omega); intro a' cap' w2 hown' hgrow))
                          exact ⟨⟨j + 1, by omega, by omega, by go_num, HM.out⟩, by simp [intOf]; omega⟩
                        | false =>
                          have hno := alnum_none h1 h2 h3
                          replace hw := hw hno
                          replace hpos := fun (_ : 0 = 0) => hpos hno
                          clear hmore hno
                          obtain ⟨hn, hx⟩ := hw
                          have HX := Lib.hid hx
                          clear hx
                          by_cases h8 : 8 < j - k
                          · have b8 : decide (8 < (j : Int) - (k : Int)) = true := by simp; omega
                            have HN := Lib.hid (HK.out.trans (hlong (by first | decide | (dsimp only; decide)) (by first | omega | (dsimp only; omega))))
                            clear hlong hgo hn
                            go_wp2_with (first | (go_at_call 76; refine (ref2_big _ _).mono ?_; rintro e w' ⟨rfl, rfl⟩) | (go_at_call 77; refine (ref2_small _ _).mono ?_; rintro e w' ⟨rfl, rfl⟩) | (go_at_call 78; refine (ref2_figure _ _).mono ?_; rintro e w' ⟨rfl, rfl⟩) | (at_builtin; refine app_own Tryd.underlying38 tok_info rfl (by decide) (by decide) rfl _ _ rfl w.heap.size rfl (hown.alloc _) (tokCells 1 (r.extract k j) (k + 1)) rfl (heap_new1 _ _) rfl (tok_one _ _ _) ?_ ?_ ?_; omega; (simp; omega); intro a' cap' w2 hown' hgrow))
                            go_ret3
                            rw [HT.out, ← HR.out, HN.out]
                            exact ⟨_, rfl, World.ownsRow_nil _ _ _ _, hb⟩
                          · have b8 : decide (8 < (j : Int) - (k : Int)) = false := by simp; omega
                            have hg := HK.out.trans (hgo (by first | decide | (dsimp only; decide)) (by first | omega | (dsimp only; omega)))
                            try dsimp only at hg
                            rw [hn, show k + (j - k) = j by omega] at hg
                            have HN := Lib.hid hg
                            have hjk : k < j := hpos rfl
                            clear hlong hgo hn hg
                            go_wp2_with (first | (go_at_call 76; refine (ref2_big _ _).mono ?_; rintro e w' ⟨rfl, rfl⟩) | (go_at_call 77; refine (ref2_small _ _).mono ?_; rintro e w' ⟨rfl, rfl⟩) | (go_at_call 78; refine (ref2_figure _ _).mono ?_; rintro e w' ⟨rfl, rfl⟩) | (at_builtin; refine app_own Tryd.underlying38 tok_info rfl (by decide) (by decide) rfl _ _ rfl w.heap.size rfl (hown.alloc _) (tokCells 1 (r.extract k j) (k + 1)) rfl (heap_new1 _ _) rfl (tok_one _ _ _) ?_ ?_ ?_; omega; (simp; omega); intro a' cap' w2 hown' hgrow))
                            exact ⟨⟨j, f, acc ++ [⟨1, wordOf ((bl r).drop k), k + 1⟩], by rw [bl_len]; omega, rfl, by rw [bl_len]; omega, by simp; omega, tok_push _ (by simp [Tok.cells, HX.out]) hown', HN.out, (hb.alloc hsz0 _).grown hgrow (by simp; omega) (fun g hg => (hown.lt g hg).1)⟩, by simp [intOf]; omega⟩
                  · have hw := word_at r k j hj1 hj2 HA.out (fun c h => by rw [List.getElem?_eq_none (by rw [List.length_drop, bl_len]; omega)] at h; cases h)
                    have hpos : 0 = 0 → k < j := fun _ => by omega
                    obtain ⟨hn, hx⟩ := hw
                    have HX := Lib.hid hx
                    clear hx
                    by_cases h8 : 8 < j - k
                    · have b8 : decide (8 < (j : Int) - (k : Int)) = true := by simp; omega
                      have HN := Lib.hid (HK.out.trans (hlong (by first | decide | (dsimp only; decide)) (by first | omega | (dsimp only; omega))))
                      clear hlong hgo hn
                      go_wp2_with (first | (go_at_call 76; refine (ref2_big _ _).mono ?_; rintro e w' ⟨rfl, rfl⟩) | (go_at_call 77; refine (ref2_small _ _).mono ?_; rintro e w' ⟨rfl, rfl⟩) | (go_at_call 78; refine (ref2_figure _ _).mono ?_; rintro e w' ⟨rfl, rfl⟩) | (at_builtin; refine app_own Tryd.underlying38 tok_info rfl (by decide) (by decide) rfl _ _ rfl w.heap.size rfl (hown.alloc _) (tokCells 1 (r.extract k j) (k + 1)) rfl (heap_new1 _ _) rfl (tok_one _ _ _) ?_ ?_ ?_; omega; (simp; omega); intro a' cap' w2 hown' hgrow))
                      go_ret3
                      rw [HT.out, ← HR.out, HN.out]
                      exact ⟨_, rfl, World.ownsRow_nil _ _ _ _, hb⟩
                    · have b8 : decide (8 < (j : Int) - (k : Int)) = false := by simp; omega
                      have hg := HK.out.trans (hgo (by first | decide | (dsimp only; decide)) (by first | omega | (dsimp only; omega)))
                      try dsimp only at hg
                      rw [hn, show k + (j - k) = j by omega] at hg
                      have HN := Lib.hid hg
                      have hjk : k < j := hpos rfl
                      clear hlong hgo hn hg
                      go_wp2_with (first | (go_at_call 76; refine (ref2_big _ _).mono ?_; rintro e w' ⟨rfl, rfl⟩) | (go_at_call 77; refine (ref2_small _ _).mono ?_; rintro e w' ⟨rfl, rfl⟩) | (go_at_call 78; refine (ref2_figure _ _).mono ?_; rintro e w' ⟨rfl, rfl⟩) | (at_builtin; refine app_own Tryd.underlying38 tok_info rfl (by decide) (by decide) rfl _ _ rfl w.heap.size rfl (hown.alloc _) (tokCells 1 (r.extract k j) (k + 1)) rfl (heap_new1 _ _) rfl (tok_one _ _ _) ?_ ?_ ?_; omega; (simp; omega); intro a' cap' w2 hown' hgrow))
                      exact ⟨⟨j, f, acc ++ [⟨1, wordOf ((bl r).drop k), k + 1⟩], by rw [bl_len]; omega, rfl, by rw [bl_len]; omega, by simp; omega, tok_push _ (by simp [Tok.cells, HX.out]) hown', HN.out, (hb.alloc hsz0 _).grown hgrow (by simp; omega) (fun g hg => (hown.lt g hg).1)⟩, by simp [intOf]; omega⟩
              | false =>
                cases hS : btw r[k].toNat 97 122 with
                | true =>
                  rw [oneTok_small r k hlt hS] at hlong hgo
                  clear hbad h32 h46 h38 h60
                  go_wp2_with (first | (go_at_call 76; refine (ref2_big _ _).mono ?_; rintro e w' ⟨rfl, rfl⟩) | (go_at_call 77; refine (ref2_small _ _).mono ?_; rintro e w' ⟨rfl, rfl⟩) | (go_at_call 78; refine (ref2_figure _ _).mono ?_; rintro e w' ⟨rfl, rfl⟩))
                  go_loop [9] (fun x => ∃ j : Nat, k ≤ j ∧ j ≤ r.size ∧ x = .int .i64 j ∧ ∀ c ∈ ((bl r).drop k).take (j - k), alnum c = true) (fun x => r.size - (intOf x).toNat)
                  case atStart => exact ⟨k, by omega, by omega, rfl, by simp⟩
                  case round =>
                    obtain ⟨j, hj1, hj2, rfl, hal⟩ := hrel
                    have HA := Lib.hid hal
                    clear hal
                    by_cases hjl : j < r.size
                    · have hat : ((bl r).drop k)[j - k]? = some r[j] := by
                        have := bl_at r k (j - k) (by omega)
                        simpa [show k + (j - k) = j by omega] using this
                      have hmore := fun ha => (word_more _ (j - k) _ HA.out hat ha : ∀ x ∈ ((bl r).drop k).take (j - k + 1), alnum x = true)
                      have hw := fun (ha : alnum r[j] = false) => word_at r k j hj1 hj2 HA.out (fun c h => by rw [hat] at h; cases h; exact ha)
                      have hpos : alnum r[j] = false → k < j := fun ha => by
                        rcases Nat.lt_or_ge k j with h | h
                        · exact h
                        · obtain rfl : k = j := by omega
                          rw [alnum_small hS] at ha
                          cases ha
                      rw [show j - k + 1 = j + 1 - k by omega] at hmore
                      clear hat
                      cases h1 : btw r[j].toNat 65 90 with
                      | true =>
                        have HM := Lib.hid (hmore (alnum_big h1))
                        clear hmore hw hpos hlong hgo
                        go_wp2_with (first | (go_at_call 76; refine (ref2_big _ _).mono ?_; rintro e w' ⟨rfl, rfl⟩) | (go_at_call 77; refine (ref2_small _ _).mono ?_; rintro e w' ⟨rfl, rfl⟩) | (go_at_call 78; refine (ref2_figure _ _).mono ?_; rintro e w' ⟨rfl, rfl⟩) | (at_builtin; refine app_own Tryd.underlying38 tok_info rfl (by decide) (by decide) rfl _ _ rfl w.heap.size rfl (hown.alloc _) (tokCells 2 (r.extract k j) (k + 1)) rfl (heap_new1 _ _) rfl (tok_one _ _ _) ?_ ?_ ?_; omega; (simp; omega); intro a' cap' w2 hown' hgrow))
                        exact ⟨⟨j + 1, by omega, by omega, by go_num, HM.out⟩, by simp [intOf]; omega⟩
                      | false =>
                        cases h2 : btw r[j].toNat 97 122 with
                        | true =>
                          have HM := Lib.hid (hmore (alnum_small h2))
                          clear hmore hw hpos hlong hgo
                          go_wp2_with (first | (go_at_call 76; refine (ref2_big _ _).mono ?_; rintro e w' ⟨rfl, rfl⟩) | (go_at_call 77; refine (ref2_small _ _).mono ?_; rintro e w' ⟨rfl, rfl⟩) | (go_at_call 78; refine (ref2_figure _ _).mono ?_; rintro e w' ⟨rfl, rfl⟩) | (at_builtin; refine app_own Tryd.underlying38 tok_info rfl (by decide) (by decide) rfl _ _ rfl w.heap.size rfl (hown.alloc _) (tokCells 2 (r.extract k j) (k + 1)) rfl (heap_new1 _ _) rfl (tok_one _ _ _) ?_ ?_ ?_; omega; (simp; omega); intro a' cap' w2 hown' hgrow))
                          exact ⟨⟨j + 1, by omega, by omega, by go_num, HM.out⟩, by simp [intOf]; omega⟩
                        | false =>
                          cases h3 : btw r[j].toNat 48 57 with
                          | true =>
                            have HM := Lib.hid (hmore (alnum_fig h3))
                            clear hmore hw hpos hlong hgo
                            go_wp2_with (first | (go_at_call 76; refine (ref2_big _ _).mono ?_; rintro e w' ⟨rfl, rfl⟩) | (go_at_call 77; refine (ref2_small _ _).mono ?_; rintro e w' ⟨rfl, rfl⟩) | (go_at_call 78; refine (ref2_figure _ _).mono ?_; rintro e w' ⟨rfl, rfl⟩) | (at_builtin; refine app_own Tryd.underlying38 tok_info rfl (by decide) (by decide) rfl _ _ rfl w.heap.size rfl (hown.alloc _) (tokCells 2 (r.extract k j) (k + 1)) rfl (heap_new1 _ _) rfl (tok_one _ _ _) ?_ ?_ ?_; omega; (simp; omega); intro a' cap' w2 hown' hgrow))
                            exact ⟨⟨j + 1, by omega, by omega, by go_num, HM.out⟩, by simp [intOf]; omega⟩
                          | false =>
                            have hno := alnum_none h1 h2 h3
                            replace hw := hw hno
                            replace hpos := fun (_ : 0 = 0) => hpos hno
                            clear hmore hno
                            obtain ⟨hn, hx⟩ := hw
                            have HX := Lib.hid hx
                            clear hx
                            by_cases h8 : 8 < j - k
                            · have b8 : decide (8 < (j : Int) - (k : Int)) = true := by simp; omega
                              have HN := Lib.hid (HK.out.trans (hlong (by first | decide | (dsimp only; decide)) (by first | omega | (dsimp only; omega))))
                              clear hlong hgo hn
                              go_wp2_with (first | (go_at_call 76; refine (ref2_big _ _).mono ?_; rintro e w' ⟨rfl, rfl⟩) | (go_at_call 77; refine (ref2_small _ _).mono ?_; rintro e w' ⟨rfl, rfl⟩) | (go_at_call 78; refine (ref2_figure _ _).mono ?_; rintro e w' ⟨rfl, rfl⟩) | (at_builtin; refine app_own Tryd.underlying38 tok_info rfl (by decide) (by decide) rfl _ _ rfl w.heap.size rfl (hown.alloc _) (tokCells 2 (r.extract k j) (k + 1)) rfl (heap_new1 _ _) rfl (tok_one _ _ _) ?_ ?_ ?_; omega; (simp; omega); intro a' cap' w2 hown' hgrow))
                              go_ret3
                              rw [HT.out, ← HR.out, HN.out]
                              exact ⟨_, rfl, World.ownsRow_nil _ _ _ _, hb⟩
                            · have b8 : decide (8 < (j : Int) - (k : Int)) = false := by simp; omega
                              have hg := HK.out.trans (hgo (by first | decide | (dsimp only; decide)) (by first | omega | (dsimp only; omega)))
                              try dsimp only at hg
                              rw [hn, show k + (j - k) = j by omega] at hg
                              have HN := Lib.hid hg
                              have hjk : k < j := hpos rfl
                              clear hlong hgo hn hg
                              go_wp2_with (first | (go_at_call 76; refine (ref2_big _ _).mono ?_; rintro e w' ⟨rfl, rfl⟩) | (go_at_call 77; refine (ref2_small _ _).mono ?_; rintro e w' ⟨rfl, rfl⟩) | (go_at_call 78; refine (ref2_figure _ _).mono ?_; rintro e w' ⟨rfl, rfl⟩) | (at_builtin; refine app_own Tryd.underlying38 tok_info rfl (by decide) (by decide) rfl _ _ rfl w.heap.size rfl (hown.alloc _) (tokCells 2 (r.extract k j) (k + 1)) rfl (heap_new1 _ _) rfl (tok_one _ _ _) ?_ ?_ ?_; omega; (simp; omega); intro a' cap' w2 hown' hgrow))
                              exact ⟨⟨j, f, acc ++ [⟨2, wordOf ((bl r).drop k), k + 1⟩], by rw [bl_len]; omega, rfl, by rw [bl_len]; omega, by simp; omega, tok_push _ (by simp [Tok.cells, HX.out]) hown', HN.out, (hb.alloc hsz0 _).grown hgrow (by simp; omega) (fun g hg => (hown.lt g hg).1)⟩, by simp [intOf]; omega⟩
                    · have hw := word_at r k j hj1 hj2 HA.out (fun c h => by rw [List.getElem?_eq_none (by rw [List.length_drop, bl_len]; omega)] at h; cases h)
                      have hpos : 0 = 0 → k < j := fun _ => by omega
                      obtain ⟨hn, hx⟩ := hw
                      have HX := Lib.hid hx
                      clear hx
                      by_cases h8 : 8 < j - k
                      · have b8 : decide (8 < (j : Int) - (k : Int)) = true := by simp; omega
                        have HN := Lib.hid (HK.out.trans (hlong (by first | decide | (dsimp only; decide)) (by first | omega | (dsimp only; omega))))
                        clear hlong hgo hn
                        go_wp2_with (first | (go_at_call 76; refine (ref2_big _ _).mono ?_; rintro e w' ⟨rfl, rfl⟩) | (go_at_call 77; refine (ref2_small _ _).mono ?_; rintro e w' ⟨rfl, rfl⟩) | (go_at_call 78; refine (ref2_figure _ _).mono ?_; rintro e w' ⟨rfl, rfl⟩) | (at_builtin; refine app_own Tryd.underlying38 tok_info rfl (by decide) (by decide) rfl _ _ rfl w.heap.size rfl (hown.alloc _) (tokCells 2 (r.extract k j) (k + 1)) rfl (heap_new1 _ _) rfl (tok_one _ _ _) ?_ ?_ ?_; omega; (simp; omega); intro a' cap' w2 hown' hgrow))
                        go_ret3
                        rw [HT.out, ← HR.out, HN.out]
                        exact ⟨_, rfl, World.ownsRow_nil _ _ _ _, hb⟩
                      · have b8 : decide (8 < (j : Int) - (k : Int)) = false := by simp; omega
                        have hg := HK.out.trans (hgo (by first | decide | (dsimp only; decide)) (by first | omega | (dsimp only; omega)))
                        try dsimp only at hg
                        rw [hn, show k + (j - k) = j by omega] at hg
                        have HN := Lib.hid hg
                        have hjk : k < j := hpos rfl
                        clear hlong hgo hn hg
                        go_wp2_with (first | (go_at_call 76; refine (ref2_big _ _).mono ?_; rintro e w' ⟨rfl, rfl⟩) | (go_at_call 77; refine (ref2_small _ _).mono ?_; rintro e w' ⟨rfl, rfl⟩) | (go_at_call 78; refine (ref2_figure _ _).mono ?_; rintro e w' ⟨rfl, rfl⟩) | (at_builtin; refine app_own Tryd.underlying38 tok_info rfl (by decide) (by decide) rfl _ _ rfl w.heap.size rfl (hown.alloc _) (tokCells 2 (r.extract k j) (k + 1)) rfl (heap_new1 _ _) rfl (tok_one _ _ _) ?_ ?_ ?_; omega; (simp; omega); intro a' cap' w2 hown' hgrow))
                        exact ⟨⟨j, f, acc ++ [⟨2, wordOf ((bl r).drop k), k + 1⟩], by rw [bl_len]; omega, rfl, by rw [bl_len]; omega, by simp; omega, tok_push _ (by simp [Tok.cells, HX.out]) hown', HN.out, (hb.alloc hsz0 _).grown hgrow (by simp; omega) (fun g hg => (hown.lt g hg).1)⟩, by simp [intOf]; omega⟩
                | false =>
                  rw [oneTok_none r k hlt h46 h38 (fun x => h60 x.1) hB hS] at hbad
                  have HN := Lib.hid (HK.out.trans (hbad rfl))
                  clear hbad hlong hgo h32 h46 h38 h60
                  go_wp2_with (first | (go_at_call 76; refine (ref2_big _ _).mono ?_; rintro e w' ⟨rfl, rfl⟩) | (go_at_call 77; refine (ref2_small _ _).mono ?_; rintro e w' ⟨rfl, rfl⟩) | (go_at_call 78; refine (ref2_figure _ _).mono ?_; rintro e w' ⟨rfl, rfl⟩))
                  go_ret3
                  rw [HT.out, ← HR.out, HN.out]
                  exact ⟨_, rfl, World.ownsRow_nil _ _ _ _, hb⟩
    · have HN := Lib.hid (HK.out.trans (toks_at_end r k f acc hlt))
      go_wp2
      go_ret3
      rw [HT.out, ← HR.out, HN.out]
      exact ⟨u6, rfl, hown, hb⟩
theorem ref2_Tokens_any (s : ByteArray) (w : World) (hs : s.size ≤ 9223372036854775807) : Calls Tryd.prog 23 #[.string s] w (TokPost (tokens (bl s)) w) := by
  by_cases h : s.size ≤ 200
  · exact ref2_Tokens s w h
  · have HT := Lib.hid (tokens_long s h)
    have h200 : decide (200 < (s.size : Int)) = true := by simp; omega
    clear h
    go_enter Tryd.func23, Tryd.ntmps23
    go_wp2
    go_ret3
    rw [HT.out]
    exact ⟨_, rfl, World.ownsRow_nil _ _ _ _, Below.refl _ _⟩
end Go.Proofs.YtakpahlgbcgnmaaDoor
