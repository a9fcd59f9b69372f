/- The reference of layer 3: what its small functions return, for every role and statement of texts that are not too long. syn.Normal, Print, Roles and the reference's Normal, Print, SameRoles, for every statement of texts that are not too long. The package scan: what its functions return, for every argument. scan.Tokens returns the tokens of a line, or what is wrong first, and where. syn.Parse: what it returns, for every line. The reference of layer 2: what its small functions return, for every argument. The reference of layer 3: shapes, fits, End. The plain law: what the reader of package syn makes of any tokens is what the reference's shapes say. How statements stand: syn.Order, and the comparison that syn.Sort hands on. Plain laws: a comparison turned round. Plain laws of the order of statements: it is a total one, and two rows in strict order that hold the same are the same. syn.Roles, the reference's Normal, Print, SameRoles. The reference's order of statements, and rows of statements: Before, Has, Same. Rows of statements: the reference's Same and Has. -/
import Derived.Test.YtedkkegjiikcmaaDoorPart1
import Derived.Test.YtedkkegjiikcmaaDoorPart2
import Derived.Deep.RegionWith
import Derived.Test.YtedkkegjiikcmaaDoorShelf
import Derived.Maps.AppendAt
import Derived.Test.YtedkkegjiikcmaaDoorShelf2
import Derived.Lib.TrimByte
import Derived.Deep.RegionHeld3
namespace Go.Proofs.YtedkkegjiikcmaaDoor
open Go.RowKit Go.Shelf

end Go.Proofs.YtedkkegjiikcmaaDoor
namespace Go.Proofs.YtedkkegjiikcmaaDoor
open Go.RowKit Go.Shelf

end Go.Proofs.YtedkkegjiikcmaaDoor
namespace Go.Proofs.YtedkkegjiikcmaaDoor
open Go.RowKit Go.Shelf

theorem scan_bare (s : ByteArray) (w : World) (hs : s.size < 4294967281) (hg : Gl w) :
    Calls Tryd.prog 35 #[.string s] w fun e w' => e = .returned (.string ⟨(bare (bl s)).toArray⟩) ∧ ∃ n, w' = w.drewN n := by
  obtain ⟨m, hm⟩ := hg
  have hcon := Tryd.strings_Cut s ⟨#[35]⟩ m w hs hm
  rw [show (⟨#[35]⟩ : ByteArray).data.toList = [35] from rfl, cut_bare] at hcon
  generalize (Lib.cut s.data.toList [35]).2.1 = x at hcon
  generalize (Lib.cut s.data.toList [35]).2.2 = y at hcon
  generalize bare (bl s) = r at hcon ⊢
  have H := Lib.hid hcon
  clear hcon hm
  go_enter Tryd.func35, Tryd.ntmps35
  go_wp2_with (go_at_call 39; refine H.out.mono ?_; rintro e w' ⟨rfl, n, rfl⟩)
  go_ret
  exact ⟨rfl, n, rfl⟩

set_option maxHeartbeats 400000 in
theorem scan_word (s : ByteArray) (a : Nat) (w : World) (hs : s.size ≤ 9223372036854775) (ha : a ≤ s.size) :
    Calls Tryd.prog 100 #[.string s, .int .i64 a] w fun e w' => e = .returned (.int .i64 (wordOf ((bl s).drop a)).length) ∧ w = w' := by
  go_enter Tryd.func100, Tryd.ntmps100
  go_wp2
  go_loop [5] (fun i => ∃ k : Nat, a + k ≤ s.size ∧ i = .int .i64 k ∧ ∀ c ∈ ((bl s).drop a).take k, alnum c = true) (fun i => s.size - (intOf i).toNat)
  case atStart => exact ⟨0, by omega, rfl, by simp⟩
  case round =>
    obtain ⟨k, hk, rfl, hal⟩ := hrel
    have HA := Lib.hid hal
    clear hal
    have hlen : k ≤ ((bl s).drop a).length := by rw [List.length_drop, bl_len]; omega
    by_cases hlt : a + k < s.size
    · have hc := bl_at s a k hlt
      have hb := bl_A s (a + k) hlt
      have HC := Lib.hid (names_IsPrin ({ data := #[65] } ++ s.extract (a + k) (a + k + 1)) w (by rw [size_A s _ hlt]; omega))
      cases hx : alnum s[a + k] with
      | true =>
        have HM := Lib.hid (word_more _ _ _ HA.out hc hx)
        have HB := Lib.hid ((congrArg (isP 65 90) hb).trans ((isP_A _).trans hx))
        clear hc hb hx hlen
        go_wp2_with (go_at_call 88; refine HC.out.mono ?_; rw [HB.out]; rintro e w' ⟨rfl, rfl⟩)
        exact ⟨⟨k + 1, by omega, by go_num, HM.out⟩, by simp [intOf]; omega⟩
      | false =>
        have HM := Lib.hid (word_stop _ _ HA.out hlen (fun c h => by rw [hc] at h; cases h; exact hx))
        have HB := Lib.hid ((congrArg (isP 65 90) hb).trans ((isP_A _).trans hx))
        clear hc hb hx hlen
        go_wp2_with (go_at_call 88; refine HC.out.mono ?_; rw [HB.out]; rintro e w' ⟨rfl, rfl⟩)
        go_ret
        exact ⟨ret_int (by rw [HM.out]), rfl⟩
    · have HM := Lib.hid (word_stop _ _ HA.out hlen (fun _ h => by rw [bl_at_end s a k hlt] at h; cases h))
      clear hlen
      go_wp2
      go_ret
      exact ⟨ret_int (by rw [HM.out]), rfl⟩


set_option maxHeartbeats 1000000 in
theorem scan_one (s : ByteArray) (a : Nat) (w : World) (hs : s.size ≤ 9223372036854775) (ha : a < s.size) :
    Calls Tryd.prog 76 #[.string s, .int .i64 a] w fun e w' => e = .returned (.agg (oneTok ((bl s).drop a) a).cells.toArray) ∧ Below w.heap.size w w' := by
  have hd := bl_drop s a ha
  have HP := Lib.hid (fun W => Tryd.strings_HasPrefix (s.extract a s.size) ⟨#[60, 45]⟩ W)
  have HW := Lib.hid (fun W => scan_word s a W hs (by omega))
  have h0 : 0 ≤ (s[a].toNat : Int) := by omega
  have HX := Lib.hid (str_eq (bl_one s a ha))
  by_cases h46 : s[a].toNat = 46
  · have e : (oneTok ((bl s).drop a) a) = ⟨3, [s[a]], a + 1⟩ := by rw [hd]; simp [oneTok, h46]
    have b46 : ((s[a].toNat : Int) == 46) = true := by rw [beq_iff_eq]; omega
    have E := Lib.hid e
    clear e hd h46
    go_enter Tryd.func76, Tryd.ntmps76
    go_wp2_with fail
    refine bodyPost_ret (v := .agg #[.int .i64 3, .string (s.extract a (a + 1)), .int .i64 (a + 1)]) (by simp [results, Tryd.results76, go_sem]) rfl ⟨?_, ?_⟩
    · rw [E.out, HX.out]; rfl
    · exact ((Below.refl _ _).alloc (Nat.le_refl _) _).alloc (by simp) _
  · have b46 : ((s[a].toNat : Int) == 46) = false := by rw [beq_eq_false_iff_ne]; omega
    by_cases h38 : s[a].toNat = 38
    · have e : (oneTok ((bl s).drop a) a) = ⟨5, [s[a]], a + 1⟩ := by rw [hd]; simp [oneTok, h38]
      have b38 : ((s[a].toNat : Int) == 38) = true := by rw [beq_iff_eq]; omega
      have E := Lib.hid e
      clear e hd h46 h38
      go_enter Tryd.func76, Tryd.ntmps76
      go_wp2_with fail
      refine bodyPost_ret (v := .agg #[.int .i64 5, .string (s.extract a (a + 1)), .int .i64 (a + 1)]) (by simp [results, Tryd.results76, go_sem]) rfl ⟨?_, ?_⟩
      · rw [E.out, HX.out]; rfl
      · exact ((Below.refl _ _).alloc (Nat.le_refl _) _).alloc (by simp) _
    · have b38 : ((s[a].toNat : Int) == 38) = false := by rw [beq_eq_false_iff_ne]; omega
      cases hp : Lib.hasPrefix (s.extract a s.size).data.toList [60, 45] with
      | true =>
        have hp' : [60, 45].isPrefixOf ((bl s).drop a) = true := by rw [← ssub s a]; exact hp
        have e : (oneTok ((bl s).drop a) a) = ⟨4, [60, 45], a + 1⟩ := by rw [hd] at hp' ⊢; simp only [oneTok, h46, h38, hp', if_false, if_true]
        have E := Lib.hid e
        have HH := Lib.hid hp
        clear e hd h46 h38 hp hp'
        go_enter Tryd.func76, Tryd.ntmps76
        go_wp2_with (go_at_call 99; refine (HP.out _).mono ?_; rw [show Lib.hasPrefix (s.extract a s.size).data.toList (⟨#[60, 45]⟩ : ByteArray).data.toList = true from HH.out]; rintro e w' ⟨rfl, rfl⟩)
        refine bodyPost_ret (v := .agg #[.int .i64 4, .string ⟨#[60, 45]⟩, .int .i64 (a + 1)]) (by simp [results, Tryd.results76, go_sem]) rfl ⟨?_, ?_⟩
        · rw [E.out]; rfl
        · exact ((Below.refl _ _).alloc (Nat.le_refl _) _).alloc (by simp) _
      | false =>
        have hp' : [60, 45].isPrefixOf ((bl s).drop a) = false := by rw [← ssub s a]; exact hp
        have HL := sword_le s a (by omega)
        have HS := Lib.hid (str_eq (sword s a))
        have HH := Lib.hid hp
        by_cases hb : 65 ≤ (s[a].toNat : Int) ∧ (s[a].toNat : Int) ≤ 90
        · obtain ⟨hb1, hb2⟩ := hb
          have e : (oneTok ((bl s).drop a) a) = ⟨1, wordOf ((bl s).drop a), a + 1⟩ := by
            have hbt : btw s[a].toNat 65 90 = true := by simp [btw]; omega
            rw [hd] at hp' ⊢; simp only [oneTok, h46, h38, hp', hbt, if_false, if_true]; rfl
          have E := Lib.hid e
          clear e hd h46 h38 hp hp'
          generalize hn : (wordOf ((bl s).drop a)).length = n at HW HL HS
          clear hn
          go_enter Tryd.func76, Tryd.ntmps76
          go_wp2_with (first | (go_at_call 99; refine (HP.out _).mono ?_; rw [show Lib.hasPrefix (s.extract a s.size).data.toList (⟨#[60, 45]⟩ : ByteArray).data.toList = false from HH.out]; rintro e w' ⟨rfl, rfl⟩) | (go_at_call 100; refine (HW.out _).mono ?_; rintro e w' ⟨rfl, rfl⟩))
          refine bodyPost_ret (v := .agg #[.int .i64 1, .string (s.extract a (a + n)), .int .i64 (a + 1)]) (by simp [results, Tryd.results76, go_sem]) rfl ⟨?_, ?_⟩
          · rw [E.out, HS.out]; rfl
          · exact ((Below.refl _ _).alloc (Nat.le_refl _) _).alloc (by simp) _
        · have hbt : btw s[a].toNat 65 90 = false := by simp [btw]; omega
          have hnb : 65 ≤ (s[a].toNat : Int) → 90 < (s[a].toNat : Int) := by omega
          by_cases hc : 97 ≤ (s[a].toNat : Int) ∧ (s[a].toNat : Int) ≤ 122
          · obtain ⟨hc1, hc2⟩ := hc
            have hb1 : 65 ≤ (s[a].toNat : Int) := by omega
            have hb2 : 90 < (s[a].toNat : Int) := by omega
            have e : (oneTok ((bl s).drop a) a) = ⟨2, wordOf ((bl s).drop a), a + 1⟩ := by
              have hct : btw s[a].toNat 97 122 = true := by simp [btw]; omega
              rw [hd] at hp' ⊢; simp only [oneTok, h46, h38, hp', hbt, hct, if_false, if_true]; rfl
            have E := Lib.hid e
            clear e hd h46 h38 hp hp' hbt hnb
            generalize hn : (wordOf ((bl s).drop a)).length = n at HW HL HS
            clear hn
            go_enter Tryd.func76, Tryd.ntmps76
            go_wp2_with (first | (go_at_call 99; refine (HP.out _).mono ?_; rw [show Lib.hasPrefix (s.extract a s.size).data.toList (⟨#[60, 45]⟩ : ByteArray).data.toList = false from HH.out]; rintro e w' ⟨rfl, rfl⟩) | (go_at_call 100; refine (HW.out _).mono ?_; rintro e w' ⟨rfl, rfl⟩))
            refine bodyPost_ret (v := .agg #[.int .i64 2, .string (s.extract a (a + n)), .int .i64 (a + 1)]) (by simp [results, Tryd.results76, go_sem]; decide) rfl ⟨?_, ?_⟩
            · rw [E.out, HS.out]; rfl
            · exact ((Below.refl _ _).alloc (Nat.le_refl _) _).alloc (by simp) _
          · have e : (oneTok ((bl s).drop a) a) = ⟨0, [s[a]], a + 1⟩ := by
              have hct : btw s[a].toNat 97 122 = false := by simp [btw]; omega
              rw [hd] at hp' ⊢; simp only [oneTok, h46, h38, hp', hbt, hct, if_false, Bool.false_eq_true]
            have E := Lib.hid e
            clear e hd h46 h38 hp hp' hbt
            by_cases hb1 : 65 ≤ (s[a].toNat : Int)
            · have hb2 := hnb hb1
              clear hnb
              by_cases hc1 : 97 ≤ (s[a].toNat : Int)
              · have hc2 : 122 < (s[a].toNat : Int) := by omega
                clear hc
                go_enter Tryd.func76, Tryd.ntmps76
                go_wp2_with (first | (go_at_call 99; refine (HP.out _).mono ?_; rw [show Lib.hasPrefix (s.extract a s.size).data.toList (⟨#[60, 45]⟩ : ByteArray).data.toList = false from HH.out]; rintro e w' ⟨rfl, rfl⟩) | (go_at_call 100; refine (HW.out _).mono ?_; rintro e w' ⟨rfl, rfl⟩))
                refine bodyPost_ret (v := .agg #[.int .i64 0, .string (s.extract a (a + 1)), .int .i64 (a + 1)]) (by simp [results, Tryd.results76, go_sem]) rfl ⟨?_, ?_⟩
                · rw [E.out, HX.out]; rfl
                · exact ((Below.refl _ _).alloc (Nat.le_refl _) _).alloc (by simp) _
              · clear hc
                go_enter Tryd.func76, Tryd.ntmps76
                go_wp2_with (first | (go_at_call 99; refine (HP.out _).mono ?_; rw [show Lib.hasPrefix (s.extract a s.size).data.toList (⟨#[60, 45]⟩ : ByteArray).data.toList = false from HH.out]; rintro e w' ⟨rfl, rfl⟩) | (go_at_call 100; refine (HW.out _).mono ?_; rintro e w' ⟨rfl, rfl⟩))
                refine bodyPost_ret (v := .agg #[.int .i64 0, .string (s.extract a (a + 1)), .int .i64 (a + 1)]) (by simp [results, Tryd.results76, go_sem]) rfl ⟨?_, ?_⟩
                · rw [E.out, HX.out]; rfl
                · exact ((Below.refl _ _).alloc (Nat.le_refl _) _).alloc (by simp) _
            · have hc1 : ¬ 97 ≤ (s[a].toNat : Int) := by omega
              clear hnb hc
              go_enter Tryd.func76, Tryd.ntmps76
              go_wp2_with (first | (go_at_call 99; refine (HP.out _).mono ?_; rw [show Lib.hasPrefix (s.extract a s.size).data.toList (⟨#[60, 45]⟩ : ByteArray).data.toList = false from HH.out]; rintro e w' ⟨rfl, rfl⟩) | (go_at_call 100; refine (HW.out _).mono ?_; rintro e w' ⟨rfl, rfl⟩))
              refine bodyPost_ret (v := .agg #[.int .i64 0, .string (s.extract a (a + 1)), .int .i64 (a + 1)]) (by simp [results, Tryd.results76, go_sem]) rfl ⟨?_, ?_⟩
              · rw [E.out, HX.out]; rfl
              · exact ((Below.refl _ _).alloc (Nat.le_refl _) _).alloc (by simp) _
end Go.Proofs.YtedkkegjiikcmaaDoor
namespace Go.Proofs.YtedkkegjiikcmaaDoor
open Go.RowKit Go.Shelf

theorem tok_info : (Tryd.prog.info? 39).map (fun i => (i.zero, i.size, i.bytes)) = some (some (.agg #[.int .i64 0, .string ByteArray.empty, .int .i64 0]), 3, 32) := by kernel_rfl

abbrev tokCells (kd : Int) (X : ByteArray) (co : Int) : List Value := [.int .i64 kd, .string X, .int .i64 co]
theorem tok_one (kd : Int) (X : ByteArray) (co : Int) : ∀ u ∈ tokCells kd X co, u.oneCell' = true := by
  intro u hu; simp at hu; rcases hu with rfl | rfl | rfl <;> rfl

def TokPost (r : List Tok × Int × Int) (w : World) (e : Ending) (w' : World) : Prop :=
  ∃ v, e = .returned (.tuple #[v, .int .i64 r.2.1, .int .i64 r.2.2]) ∧ w'.ownsRow w.heap.size 39 3 v r.1.length (r.1.flatMap Tok.cells) ∧ Below w.heap.size w w'

def TokRel (B : Nat) (w : World) (l : List UInt8) (v i : Value) (wr : World) : Prop :=
  ∃ (k f : Nat) (acc : List Tok), k ≤ l.length ∧ i = .int .i64 k ∧ l.length - k ≤ f ∧ acc.length ≤ k ∧ wr.ownsRow B 39 3 v acc.length (acc.flatMap Tok.cells) ∧
    toks l.length l 0 [] = toks f (l.drop k) k acc ∧ Below B w wr

set_option maxHeartbeats 1000000 in
theorem scan_Tokens (s : ByteArray) (w : World) (hs : s.size ≤ 200) (hg : Gl w) :
    Calls Tryd.prog 37 #[.string s] w (TokPost (tokens (bl s)) w) := by
  have ht : tokens (bl s) = toks (bare (bl s)).length (bare (bl s)) 0 [] := by unfold tokens; rw [if_neg (by rw [bl_len]; omega)]
  have HT := Lib.hid ht
  have HB := Lib.hid (scan_bare s w (by omega) hg)
  have hle := bare_le (bl s)
  rw [bl_len] at hle
  generalize hr : (⟨(bare (bl s)).toArray⟩ : ByteArray) = r at HB
  have hbr : bl r = bare (bl s) := by rw [← hr]
  have hrs : r.size ≤ 200 := by rw [← bl_len, hbr]; omega
  have HR := Lib.hid hbr
  clear hr hbr hle ht hg
  have h200 : decide (200 < (s.size : Int)) = false := by simp; omega
  go_enter Tryd.func37, Tryd.ntmps37
  go_wp2_with (go_at_call 35; refine HB.out.mono ?_; rintro e w' ⟨rfl, n, rfl⟩)
  go_loopw [2, 6] (TokRel w.heap.size w (bl r)) (fun _ i _ => r.size - (intOf i).toNat)
  case atStart => exact ⟨0, (bl r).length, [], by omega, rfl, by omega, by simp, World.ownsRow_nil _ _ _ _, rfl, below_of_drewN n⟩
  case round =>
    obtain ⟨k, f, acc, hk, rfl, hf, hacc, hown, htk, hb⟩ := hrel
    rw [bl_len] at hk hf
    have HK := Lib.hid htk
    clear htk
    by_cases hlt : k < r.size
    · obtain ⟨f, rfl⟩ : ∃ f', f = f' + 1 := ⟨f - 1, by omega⟩
      by_cases h32 : r[k].toNat = 32
      · have b32 : ((r[k].toNat : Int) == 32) = true := by rw [beq_iff_eq]; omega
        have HN := Lib.hid (HK.out.trans (toks_at_space r k f acc hlt h32))
        clear h32
        go_wp2
        exact ⟨⟨k + 1, f, acc, by rw [bl_len]; omega, by go_num, by rw [bl_len]; omega, by omega, hown, HN.out, hb⟩, by simp [intOf]; omega⟩
      · have b32 : ((r[k].toNat : Int) == 32) = false := by rw [beq_eq_false_iff_ne]; omega
        have HO := Lib.hid (fun W => scan_one r k W (by omega) hlt)
        have hroom := oneTok_room ((bl r).drop k) k
        rw [List.length_drop, bl_len] at hroom
        have hbad := toks_at_bad r k f acc hlt h32
        have hlong := toks_at_long r k f acc hlt h32
        have hgo := toks_at_go r k f acc hlt h32
        generalize oneTok ((bl r).drop k) k = t at HO hroom hbad hlong hgo
        obtain ⟨kd, tx, co⟩ := t
        dsimp only at hroom hbad hlong hgo
        simp only [Tok.cells] at HO
        have hX : (⟨tx.toArray⟩ : ByteArray).size = tx.length := by simp [ByteArray.size]
        rw [← hX] at hroom hlong hgo
        generalize hXe : (⟨tx.toArray⟩ : ByteArray) = X at HO hroom hlong hgo
        have HX := Lib.hid hXe
        clear hXe h32 hX
        by_cases hkd : kd = 0
        · have bk : (kd == 0) = true := by rw [beq_iff_eq]; exact hkd
          have HN := Lib.hid (HK.out.trans (hbad hkd))
          clear hbad hlong hgo hroom hkd
          go_wp2_with (go_at_call 76; refine (HO.out _).mono ?_; rintro e w1 ⟨rfl, hb1⟩)
          go_quiet (fail)
          go_wp2
          go_ret3
          rw [HT.out, ← HR.out, HN.out]
          exact ⟨_, rfl, World.ownsRow_nil _ _ _ _, below_drewN ((hb.trans (hb1.mono hb.size)).alloc (Nat.le_trans hb.size hb1.size) _) _⟩
        · have bk : (kd == 0) = false := by rw [beq_eq_false_iff_ne]; exact hkd
          obtain ⟨hr1, hr2⟩ := hroom hkd
          by_cases hl : 8 < X.size
          · have bl8 : decide (8 < (X.size : Int)) = true := by simp; omega
            have HN := Lib.hid (HK.out.trans (hlong hkd hl))
            clear hbad hlong hgo hroom hkd hl
            go_wp2_with (go_at_call 76; refine (HO.out _).mono ?_; rintro e w1 ⟨rfl, hb1⟩)
            go_quiet (fail)
            go_wp2
            go_ret3
            rw [HT.out, ← HR.out, HN.out]
            exact ⟨_, rfl, World.ownsRow_nil _ _ _ _, below_drewN ((hb.trans (hb1.mono hb.size)).alloc (Nat.le_trans hb.size hb1.size) _) _⟩
          · have bl8 : decide (8 < (X.size : Int)) = false := by simp; omega
            have HN := Lib.hid (HK.out.trans (hgo hkd hl))
            clear hbad hlong hgo hroom hkd
            go_wp2_with (first | (go_at_call 76; refine (HO.out _).mono ?_; rintro e w1 ⟨rfl, hb1⟩) | (at_builtin; refine app_own Tryd.underlying35 tok_info rfl (by decide) (by decide) rfl _ _ rfl w.heap.size rfl (((own_below hown hb1).alloc _).alloc _) (tokCells kd X co) rfl (heap_new2 _ _ _) rfl (tok_one _ _ _) ?_ ?_ ?_; omega; (have := hb1.size; have := hb.size; simp; omega); intro a' cap' w2 hown' hgrow; have hcx := grown_cell hown (u := .string X) (g := w1.heap.size) (o := 1) hgrow hb1.size (by simp [go_sem])))
            have hsz := hb1.size
            have hsz0 := hb.size
            refine ⟨⟨k + X.size, f, acc ++ [⟨kd, tx, co⟩], by rw [bl_len]; omega, by go_num, by rw [bl_len]; omega, by simp; omega, ?_, HN.out, ?_⟩, by simp [intOf]; omega⟩
            · rw [List.length_append, List.flatMap_append]
              simp only [List.flatMap_cons, List.flatMap_nil, List.append_nil, Tok.cells, HX.out]
              exact hown'
            · exact (((hb.trans (hb1.mono hsz0)).alloc (by omega) _).alloc (by simp; omega) _).grown hgrow (by simp; omega) (fun g hg => (hown.lt g hg).1)
    · have HN := Lib.hid (HK.out.trans (toks_at_end r k f acc hlt))
      go_wp2
      go_ret3
      rw [HT.out, ← HR.out, HN.out]
      exact ⟨u2, rfl, hown, hb⟩
theorem tokens_long (s : ByteArray) (h : ¬ s.size ≤ 200) : tokens (bl s) = ([], 201, 4) := by unfold tokens; rw [if_pos (by rw [bl_len]; omega)]
theorem scan_Tokens_any (s : ByteArray) (w : World) (hg : Gl w) (hs : s.size ≤ 9223372036854775807) : Calls Tryd.prog 37 #[.string s] w (TokPost (tokens (bl s)) w) := by
  by_cases h : s.size ≤ 200
  · exact scan_Tokens s w h hg
  · have HT := Lib.hid (tokens_long s h)
    have h200 : decide (200 < (s.size : Int)) = true := by simp; omega
    clear h
    go_enter Tryd.func37, Tryd.ntmps37
    go_wp2
    go_ret3
    rw [HT.out]
    exact ⟨_, rfl, World.ownsRow_nil _ _ _ _, Below.refl _ _⟩
end Go.Proofs.YtedkkegjiikcmaaDoor
namespace Go.Proofs.YtedkkegjiikcmaaDoor
open Go.RowKit Go.Shelf

def endOf (s : ByteArray) : Int := ((Lib.trimRightB (bare (bl s)) 32).length : Int) + 1
theorem trimRight_le (l : List UInt8) (c : UInt8) : (Lib.trimRightB l c).length ≤ l.length := by
  rw [Lib.trimRightB, List.length_reverse]
  exact Nat.le_trans (List.dropWhile_sublist _).length_le (by simp)

end Go.Proofs.YtedkkegjiikcmaaDoor
namespace Go.Proofs.YtedkkegjiikcmaaDoor
open Go.RowKit Go.Shelf

end Go.Proofs.YtedkkegjiikcmaaDoor
namespace Go.Proofs.YtedkkegjiikcmaaDoor
open Go.RowKit Go.Shelf

theorem Sl.new1 (w : World) (cs : List Value) (t : TypeId) (g n : Nat) (hg : g = w.heap.size) (hl : cs.length = n) (hm : n ≤ maxLen) :
    Sl (w.alloc (.cells cs.toArray t)) 1 (.slice (some ⟨g, 0, none⟩) n n) n cs := by
  subst hg
  refine ⟨by omega, hm, .inr ⟨w.heap.size, 0, n, rfl, Nat.le_refl _, hm, by simp, fun j u hu => ?_⟩⟩
  rw [(Blk.new w cs.toArray t).1]
  simpa using hu
end Go.Proofs.YtedkkegjiikcmaaDoor
namespace Go.Proofs.YtedkkegjiikcmaaDoor

def tx (l : List Tok) (i : Nat) : ByteArray := ⟨(l.getD i ⟨0, [], 0⟩).text.toArray⟩
theorem why_take (l : List Tok) (e p y k : Int) (h : y ≠ 0) : (Rd.mk l e p y).take k = (emp, ⟨l, e, p, y⟩) := take_why _ _ h
theorem role_def (r : Rd) : r.role = (⟨(r.take 1).1, (((r.take 1).2.take 3).2.take 2).1⟩, (((r.take 1).2.take 3).2.take 2).2) := rfl
end Go.Proofs.YtedkkegjiikcmaaDoor
namespace Go.Proofs.YtedkkegjiikcmaaDoor
open Go.RowKit Go.Shelf

end Go.Proofs.YtedkkegjiikcmaaDoor
namespace Go.Proofs.YtedkkegjiikcmaaDoor
open Go.RowKit

theorem cmp_neg : ∀ (a b : List UInt8), Lib.compareBytes b a = - Lib.compareBytes a b
  | [], [] => rfl
  | [], _ :: _ => rfl
  | _ :: _, [] => rfl
  | a :: xs, b :: ys => by
    simp only [Lib.compareBytes]
    by_cases h1 : a < b
    · have h2 : ¬ b < a := fun h => UInt8.lt_irrefl a (UInt8.lt_trans h1 h)
      simp [h1, h2]
    · by_cases h2 : b < a
      · simp [h1, h2]
      · simp [h1, h2, cmp_neg xs ys]
theorem cmpS_neg (a b : ByteArray) : cmpS b a = - cmpS a b := cmp_neg _ _
end Go.Proofs.YtedkkegjiikcmaaDoor
namespace Go.Proofs.YtedkkegjiikcmaaDoor

structure WCmp {α : Type} (c : α → α → Int) : Prop where
  neg : ∀ x y, c y x = - c x y
  le : ∀ x y z, c x y ≤ 0 → c y z ≤ 0 → c x z ≤ 0 ∧ (c x z = 0 → c x y = 0 ∧ c y z = 0)
theorem cb_lt {a b : UInt8} (xs ys : List UInt8) (h : a.toNat < b.toNat) : Lib.compareBytes (a :: xs) (b :: ys) = -1 := by
  simp only [Lib.compareBytes]; rw [if_pos (UInt8.lt_iff_toNat_lt.2 h)]
theorem cb_gt {a b : UInt8} (xs ys : List UInt8) (h : b.toNat < a.toNat) : Lib.compareBytes (a :: xs) (b :: ys) = 1 := by
  simp only [Lib.compareBytes]; rw [if_neg (fun h' => by have := UInt8.lt_iff_toNat_lt.1 h'; omega), if_pos (UInt8.lt_iff_toNat_lt.2 h)]
theorem cb_eq (a : UInt8) (xs ys : List UInt8) : Lib.compareBytes (a :: xs) (a :: ys) = Lib.compareBytes xs ys := by
  simp only [Lib.compareBytes]; rw [if_neg (UInt8.lt_irrefl a), if_neg (UInt8.lt_irrefl a)]
theorem cmpB_le : ∀ (a b c : List UInt8), Lib.compareBytes a b ≤ 0 → Lib.compareBytes b c ≤ 0 → Lib.compareBytes a c ≤ 0 ∧ (Lib.compareBytes a c = 0 → Lib.compareBytes a b = 0 ∧ Lib.compareBytes b c = 0)
  | [], [], c, _, h2 => ⟨h2, fun h => ⟨rfl, h⟩⟩
  | [], y :: ys, [], h1, h2 => by simp [Lib.compareBytes] at h2
  | [], y :: ys, z :: zs, h1, h2 => by simp [Lib.compareBytes]
  | x :: xs, [], c, h1, h2 => by simp [Lib.compareBytes] at h1
  | x :: xs, y :: ys, [], h1, h2 => by simp [Lib.compareBytes] at h2
  | x :: xs, y :: ys, z :: zs, h1, h2 => by
    have ih := cmpB_le xs ys zs
    rcases Nat.lt_trichotomy x.toNat y.toNat with a1 | a1 | a1
    · rcases Nat.lt_trichotomy y.toNat z.toNat with b1 | b1 | b1
      · rw [cb_lt xs zs (Nat.lt_trans a1 b1)]; exact ⟨by omega, fun h => by omega⟩
      · rw [cb_lt xs zs (by omega)]; exact ⟨by omega, fun h => by omega⟩
      · rw [cb_gt ys zs b1] at h2; omega
    · obtain rfl := UInt8.toNat_inj.1 a1
      rcases Nat.lt_trichotomy x.toNat z.toNat with b1 | b1 | b1
      · rw [cb_lt xs zs b1]; exact ⟨by omega, fun h => by omega⟩
      · obtain rfl := UInt8.toNat_inj.1 b1
        rw [cb_eq] at h1 h2
        rw [cb_eq, cb_eq, cb_eq]
        exact ih h1 h2
      · rw [cb_gt ys zs b1] at h2; omega
    · rw [cb_gt xs ys a1] at h1; omega
theorem wcmp_str : WCmp cmpS := ⟨cmpS_neg, fun _ _ _ => cmpB_le _ _ _⟩
end Go.Proofs.YtedkkegjiikcmaaDoor
namespace Go.Proofs.YtedkkegjiikcmaaDoor
open Go.RowKit Go.Shelf

theorem Sl.new (w : World) (cs : List Value) (t : TypeId) (size n g : Nat) (hg : g = w.heap.size) (hl : cs.length = n * size) (hm : n ≤ maxLen) :
    Sl (w.alloc (.cells cs.toArray t)) size (.slice (some ⟨g, 0, none⟩) n n) n cs := by
  subst hg
  refine ⟨hl, hm, .inr ⟨w.heap.size, 0, n, rfl, Nat.le_refl _, hm, by simp, fun j u hu => ?_⟩⟩
  rw [(Blk.new w cs.toArray t).1]
  simpa using hu

end Go.Proofs.YtedkkegjiikcmaaDoor
namespace Go.Proofs.YtedkkegjiikcmaaDoor
open Go.RowKit Go.Shelf

theorem str_less (a b : ByteArray) : decide (cmpS a b < 0) = Op.bytesLess a.toList b.toList := by
  rw [toList_bl, toList_bl, cmp_less]; rfl
section
variable {s t : St}
end

end Go.Proofs.YtedkkegjiikcmaaDoor
namespace Go.Proofs.YtedkkegjiikcmaaDoor
open Go.RowKit Go.Shelf

instance : Inhabited St := ⟨noS⟩
def SlA (w : World) (size : Nat) (v : Value) (n : Nat) (xs : List Value) : Prop := Sl w size v n xs ∨ ((∃ a c, v = .slice (some a) 0 c) ∧ n = 0 ∧ xs = [])
section
variable {w w' : World} {size n : Nat} {v : Value} {xs : List Value}
theorem Sl.a (h : Sl w size v n xs) : SlA w size v n xs := .inl h
theorem SlA.max (h : SlA w size v n xs) : n ≤ 9223372036854775807 := by
  rcases h with h | ⟨_, rfl, _⟩
  · exact h.max
  · exact Nat.zero_le _
theorem SlA.below (h : SlA w size v n xs) (hb : Below w.heap.size w w') : SlA w' size v n xs := by
  rcases h with h | h
  · exact .inl (h.below hb)
  · exact .inr h
theorem SlA.pos (h : SlA w size v n xs) (h0 : 0 < n) :
    ∃ b off cap, v = .slice (some ⟨b, off, none⟩) n cap ∧ n ≤ cap ∧ cap ≤ 9223372036854775807 ∧ b < w.heap.size ∧ ∀ j u, xs[j]? = some u → w.cell? ⟨b, off + j, none⟩ = some u := by
  rcases h with h | ⟨_, rfl, _⟩
  · exact h.pos h0
  · omega
theorem SlA.form (h : SlA w size v n xs) : ∃ (a : Option Addr) (cap : Nat), v = .slice a n cap := by
  rcases h with h | ⟨⟨a, c, rfl⟩, rfl, _⟩
  · exact h.form
  · exact ⟨_, _, rfl⟩
end
end Go.Proofs.YtedkkegjiikcmaaDoor
