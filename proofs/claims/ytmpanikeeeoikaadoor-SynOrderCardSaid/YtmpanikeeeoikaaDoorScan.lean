/- The package scan: what its functions return, for every argument. -/
import Derived.Test.YtmpanikeeeoikaaDoorScanSpec
import Derived.Test.YtmpanikeeeoikaaDoorNames
import Derived.Test.YtmpanikeeeoikaaDoorShelf
namespace Go.Proofs.YtmpanikeeeoikaaDoor
open Go.RowKit Go.Shelf

theorem scan_bare (s : ByteArray) (w : World) (hs : s.size < 4294967281) (hg : Gl w) :
    Calls Tryd.prog 40 #[.string s] w fun e w' => e = .returned (.string ⟨(bare (bl s)).toArray⟩) ∧ ∃ n, w' = w.drewN n := by
  obtain ⟨m, hm⟩ := hg
  have hcon := Tryd.strings_Cut s ⟨#[35]⟩ m w hs hm
  rw [show (⟨#[35]⟩ : ByteArray).data.toList = [35] from rfl, cut_bare] at hcon
  generalize (Lib.cut s.data.toList [35]).2.1 = x at hcon
  generalize (Lib.cut s.data.toList [35]).2.2 = y at hcon
  generalize bare (bl s) = r at hcon ⊢
  have H := Lib.hid hcon
  clear hcon hm
  go_enter Tryd.func40, Tryd.ntmps40
  go_wp2_with (go_at_call 26; refine H.out.mono ?_; rintro e w' ⟨rfl, n, rfl⟩)
  go_ret
  exact ⟨rfl, n, rfl⟩

set_option maxHeartbeats 400000 in
theorem scan_word (s : ByteArray) (a : Nat) (w : World) (hs : s.size ≤ 9223372036854775) (ha : a ≤ s.size) :
    Calls Tryd.prog 63 #[.string s, .int .i64 a] w fun e w' => e = .returned (.int .i64 (wordOf ((bl s).drop a)).length) ∧ w = w' := by
  go_enter Tryd.func63, Tryd.ntmps63
  go_wp2
  go_loop [5] (fun i => ∃ k : Nat, a + k ≤ s.size ∧ i = .int .i64 k ∧ ∀ c ∈ ((bl s).drop a).take k, alnum c = true) (fun i => s.size - (intOf i).toNat)
  case atStart => exact ⟨0, by omega, rfl, by simp⟩
  case round =>
    obtain ⟨k, hk, rfl, hal⟩ := hrel
    have HA := Lib.hid hal
    clear hal
    have hlen : k ≤ ((bl s).drop a).length := by rw [List.length_drop, bl_len]; omega
    by_cases hlt : a + k < s.size
    · have hc := bl_at s a k hlt
      have hb := bl_A s (a + k) hlt
      have HC := Lib.hid (names_IsPrin ({ data := #[65] } ++ s.extract (a + k) (a + k + 1)) w (by rw [size_A s _ hlt]; omega))
      cases hx : alnum s[a + k] with
      | true =>
        have HM := Lib.hid (word_more _ _ _ HA.out hc hx)
        have HB := Lib.hid ((congrArg (isP 65 90) hb).trans ((isP_A _).trans hx))
        clear hc hb hx hlen
        go_wp2_with (go_at_call 34; refine HC.out.mono ?_; rw [HB.out]; rintro e w' ⟨rfl, rfl⟩)
        exact ⟨⟨k + 1, by omega, by go_num, HM.out⟩, by simp [intOf]; omega⟩
      | false =>
        have HM := Lib.hid (word_stop _ _ HA.out hlen (fun c h => by rw [hc] at h; cases h; exact hx))
        have HB := Lib.hid ((congrArg (isP 65 90) hb).trans ((isP_A _).trans hx))
        clear hc hb hx hlen
        go_wp2_with (go_at_call 34; refine HC.out.mono ?_; rw [HB.out]; rintro e w' ⟨rfl, rfl⟩)
        go_ret
        exact ⟨ret_int (by rw [HM.out]), rfl⟩
    · have HM := Lib.hid (word_stop _ _ HA.out hlen (fun _ h => by rw [bl_at_end s a k hlt] at h; cases h))
      clear hlen
      go_wp2
      go_ret
      exact ⟨ret_int (by rw [HM.out]), rfl⟩


theorem agg3 {a b c a' b' c' : Value} (h1 : a = a') (h2 : b = b') (h3 : c = c') : Ending.returned (.agg #[a, b, c]) = .returned (.agg #[a', b', c']) := by rw [h1, h2, h3]

set_option maxHeartbeats 1000000 in
theorem scan_one (s : ByteArray) (a : Nat) (w : World) (hs : s.size ≤ 9223372036854775) (ha : a < s.size) :
    Calls Tryd.prog 41 #[.string s, .int .i64 a] w fun e w' => e = .returned (.agg (oneTok ((bl s).drop a) a).cells.toArray) ∧ Below w.heap.size w w' := by
  have hd := bl_drop s a ha
  have HP := Lib.hid (fun W => Tryd.strings_HasPrefix (s.extract a s.size) ⟨#[60, 45]⟩ W)
  have HW := Lib.hid (fun W => scan_word s a W hs (by omega))
  have h0 : 0 ≤ (s[a].toNat : Int) := by omega
  have HX := Lib.hid (str_eq (bl_one s a ha))
  by_cases h46 : s[a].toNat = 46
  · have e : (oneTok ((bl s).drop a) a) = ⟨3, [s[a]], a + 1⟩ := by rw [hd]; simp [oneTok, h46]
    have b46 : ((s[a].toNat : Int) == 46) = true := by rw [beq_iff_eq]; omega
    have E := Lib.hid e
    clear e hd h46
    go_enter Tryd.func41, Tryd.ntmps41
    go_wp2_with fail
    refine bodyPost_ret (v := .agg #[.int .i64 3, .string (s.extract a (a + 1)), .int .i64 (a + 1)]) (by simp [results, Tryd.results41, go_sem]) rfl ⟨?_, ?_⟩
    · rw [E.out, HX.out]; rfl
    · exact ((Below.refl _ _).alloc (Nat.le_refl _) _).alloc (by simp) _
  · have b46 : ((s[a].toNat : Int) == 46) = false := by rw [beq_eq_false_iff_ne]; omega
    by_cases h38 : s[a].toNat = 38
    · have e : (oneTok ((bl s).drop a) a) = ⟨5, [s[a]], a + 1⟩ := by rw [hd]; simp [oneTok, h38]
      have b38 : ((s[a].toNat : Int) == 38) = true := by rw [beq_iff_eq]; omega
      have E := Lib.hid e
      clear e hd h46 h38
      go_enter Tryd.func41, Tryd.ntmps41
      go_wp2_with fail
      refine bodyPost_ret (v := .agg #[.int .i64 5, .string (s.extract a (a + 1)), .int .i64 (a + 1)]) (by simp [results, Tryd.results41, go_sem]) rfl ⟨?_, ?_⟩
      · rw [E.out, HX.out]; rfl
      · exact ((Below.refl _ _).alloc (Nat.le_refl _) _).alloc (by simp) _
    · have b38 : ((s[a].toNat : Int) == 38) = false := by rw [beq_eq_false_iff_ne]; omega
      cases hp : Lib.hasPrefix (s.extract a s.size).data.toList [60, 45] with
      | true =>
        have hp' : [60, 45].isPrefixOf ((bl s).drop a) = true := by rw [← ssub s a]; exact hp
        have e : (oneTok ((bl s).drop a) a) = ⟨4, [60, 45], a + 1⟩ := by rw [hd] at hp' ⊢; simp only [oneTok, h46, h38, hp', if_false, if_true]
        have E := Lib.hid e
        have HH := Lib.hid hp
        clear e hd h46 h38 hp hp'
        go_enter Tryd.func41, Tryd.ntmps41
        go_wp2_with (go_at_call 62; refine (HP.out _).mono ?_; rw [show Lib.hasPrefix (s.extract a s.size).data.toList (⟨#[60, 45]⟩ : ByteArray).data.toList = true from HH.out]; rintro e w' ⟨rfl, rfl⟩)
        refine bodyPost_ret (v := .agg #[.int .i64 4, .string ⟨#[60, 45]⟩, .int .i64 (a + 1)]) (by simp [results, Tryd.results41, go_sem]) rfl ⟨?_, ?_⟩
        · rw [E.out]; rfl
        · exact ((Below.refl _ _).alloc (Nat.le_refl _) _).alloc (by simp) _
      | false =>
        have hp' : [60, 45].isPrefixOf ((bl s).drop a) = false := by rw [← ssub s a]; exact hp
        have HL := sword_le s a (by omega)
        have HS := Lib.hid (str_eq (sword s a))
        have HH := Lib.hid hp
        by_cases hb : 65 ≤ (s[a].toNat : Int) ∧ (s[a].toNat : Int) ≤ 90
        · obtain ⟨hb1, hb2⟩ := hb
          have e : (oneTok ((bl s).drop a) a) = ⟨1, wordOf ((bl s).drop a), a + 1⟩ := by
            have hbt : btw s[a].toNat 65 90 = true := by simp [btw]; omega
            rw [hd] at hp' ⊢; simp only [oneTok, h46, h38, hp', hbt, if_false, if_true]; rfl
          have E := Lib.hid e
          clear e hd h46 h38 hp hp'
          generalize hn : (wordOf ((bl s).drop a)).length = n at HW HL HS
          clear hn
          go_enter Tryd.func41, Tryd.ntmps41
          go_wp2_with (first | (go_at_call 62; refine (HP.out _).mono ?_; rw [show Lib.hasPrefix (s.extract a s.size).data.toList (⟨#[60, 45]⟩ : ByteArray).data.toList = false from HH.out]; rintro e w' ⟨rfl, rfl⟩) | (go_at_call 63; refine (HW.out _).mono ?_; rintro e w' ⟨rfl, rfl⟩))
          refine bodyPost_ret (v := .agg #[.int .i64 1, .string (s.extract a (a + n)), .int .i64 (a + 1)]) (by simp [results, Tryd.results41, go_sem]) rfl ⟨?_, ?_⟩
          · rw [E.out, HS.out]; rfl
          · exact ((Below.refl _ _).alloc (Nat.le_refl _) _).alloc (by simp) _
        · have hbt : btw s[a].toNat 65 90 = false := by simp [btw]; omega
          have hnb : 65 ≤ (s[a].toNat : Int) → 90 < (s[a].toNat : Int) := by omega
          by_cases hc : 97 ≤ (s[a].toNat : Int) ∧ (s[a].toNat : Int) ≤ 122
          · obtain ⟨hc1, hc2⟩ := hc
            have hb1 : 65 ≤ (s[a].toNat : Int) := by omega
            have hb2 : 90 < (s[a].toNat : Int) := by omega
            have e : (oneTok ((bl s).drop a) a) = ⟨2, wordOf ((bl s).drop a), a + 1⟩ := by
              have hct : btw s[a].toNat 97 122 = true := by simp [btw]; omega
              rw [hd] at hp' ⊢; simp only [oneTok, h46, h38, hp', hbt, hct, if_false, if_true]; rfl
            have E := Lib.hid e
            clear e hd h46 h38 hp hp' hbt hnb
            generalize hn : (wordOf ((bl s).drop a)).length = n at HW HL HS
            clear hn
            go_enter Tryd.func41, Tryd.ntmps41
            go_wp2_with (first | (go_at_call 62; refine (HP.out _).mono ?_; rw [show Lib.hasPrefix (s.extract a s.size).data.toList (⟨#[60, 45]⟩ : ByteArray).data.toList = false from HH.out]; rintro e w' ⟨rfl, rfl⟩) | (go_at_call 63; refine (HW.out _).mono ?_; rintro e w' ⟨rfl, rfl⟩))
            refine bodyPost_ret (v := .agg #[.int .i64 2, .string (s.extract a (a + n)), .int .i64 (a + 1)]) (by simp [results, Tryd.results41, go_sem]; decide) rfl ⟨?_, ?_⟩
            · rw [E.out, HS.out]; rfl
            · exact ((Below.refl _ _).alloc (Nat.le_refl _) _).alloc (by simp) _
          · have e : (oneTok ((bl s).drop a) a) = ⟨0, [s[a]], a + 1⟩ := by
              have hct : btw s[a].toNat 97 122 = false := by simp [btw]; omega
              rw [hd] at hp' ⊢; simp only [oneTok, h46, h38, hp', hbt, hct, if_false, Bool.false_eq_true]
            have E := Lib.hid e
            clear e hd h46 h38 hp hp' hbt
            by_cases hb1 : 65 ≤ (s[a].toNat : Int)
            · have hb2 := hnb hb1
              clear hnb
              by_cases hc1 : 97 ≤ (s[a].toNat : Int)
              · have hc2 : 122 < (s[a].toNat : Int) := by omega
                clear hc
                go_enter Tryd.func41, Tryd.ntmps41
                go_wp2_with (first | (go_at_call 62; refine (HP.out _).mono ?_; rw [show Lib.hasPrefix (s.extract a s.size).data.toList (⟨#[60, 45]⟩ : ByteArray).data.toList = false from HH.out]; rintro e w' ⟨rfl, rfl⟩) | (go_at_call 63; refine (HW.out _).mono ?_; rintro e w' ⟨rfl, rfl⟩))
                refine bodyPost_ret (v := .agg #[.int .i64 0, .string (s.extract a (a + 1)), .int .i64 (a + 1)]) (by simp [results, Tryd.results41, go_sem]) rfl ⟨?_, ?_⟩
                · rw [E.out, HX.out]; rfl
                · exact ((Below.refl _ _).alloc (Nat.le_refl _) _).alloc (by simp) _
              · clear hc
                go_enter Tryd.func41, Tryd.ntmps41
                go_wp2_with (first | (go_at_call 62; refine (HP.out _).mono ?_; rw [show Lib.hasPrefix (s.extract a s.size).data.toList (⟨#[60, 45]⟩ : ByteArray).data.toList = false from HH.out]; rintro e w' ⟨rfl, rfl⟩) | (go_at_call 63; refine (HW.out _).mono ?_; rintro e w' ⟨rfl, rfl⟩))
                refine bodyPost_ret (v := .agg #[.int .i64 0, .string (s.extract a (a + 1)), .int .i64 (a + 1)]) (by simp [results, Tryd.results41, go_sem]) rfl ⟨?_, ?_⟩
                · rw [E.out, HX.out]; rfl
                · exact ((Below.refl _ _).alloc (Nat.le_refl _) _).alloc (by simp) _
            · have hc1 : ¬ 97 ≤ (s[a].toNat : Int) := by omega
              clear hnb hc
              go_enter Tryd.func41, Tryd.ntmps41
              go_wp2_with (first | (go_at_call 62; refine (HP.out _).mono ?_; rw [show Lib.hasPrefix (s.extract a s.size).data.toList (⟨#[60, 45]⟩ : ByteArray).data.toList = false from HH.out]; rintro e w' ⟨rfl, rfl⟩) | (go_at_call 63; refine (HW.out _).mono ?_; rintro e w' ⟨rfl, rfl⟩))
              refine bodyPost_ret (v := .agg #[.int .i64 0, .string (s.extract a (a + 1)), .int .i64 (a + 1)]) (by simp [results, Tryd.results41, go_sem]) rfl ⟨?_, ?_⟩
              · rw [E.out, HX.out]; rfl
              · exact ((Below.refl _ _).alloc (Nat.le_refl _) _).alloc (by simp) _
end Go.Proofs.YtmpanikeeeoikaaDoor
