/- package set: row, Has, Add, List; bits.TrailingZeros64. set.Family.List: the numbers of a row, rising. set.New. slices.Grow and Concat at rows of roles, the row being the call's own (rl_GrowO, rl_Concat of RlConc, turned); slices.Clone of texts. query.Roles, policy.roles, to the letter. names.All, query.Prins, policy.Prins, policy.Names, to the letter (printed by gen_polprins.py). -/
import Derived.Test.YtcmdhfccdkjenaaGreatDoorPart8
import Derived.Test.YtcmdhfccdkjenaaGreatDoorPart5
import Derived.Test.YtcmdhfccdkjenaaGreatDoorShelf
import Derived.Test.YtcmdhfccdkjenaaGreatDoorPart7
import Derived.Test.YtcmdhfccdkjenaaGreatDoorPart3
namespace Go.Proofs.YtcmdhfccdkjenaaGreatDoor
open Go.RowKit Go.Shelf

section
variable {w : World} {F W0 g0 rows cols : Nat} {fs : List (Nat × Nat)}
theorem fam_Rows (h : FamAt w F W0 g0 rows cols fs) : Calls Tryz.prog 222 #[.pointer (some ⟨F, 0, none⟩)] w fun e w' => e = .returned (.int .i64 rows) ∧ w' = w := by
  obtain ⟨ca, fa, za⟩ := h.ff
  clear h
  go_enter Tryz.func222, Tryz.ntmps222
  go_wp2
  go_ret
  exact ⟨rfl, rfl⟩
theorem fam_row (h : FamAt w F W0 g0 rows cols fs) (i : Nat) (hi : i < rows) : Calls Tryz.prog 189 #[.pointer (some ⟨F, 0, none⟩), .int .i64 i] w fun e w' => e = .returned (.slice (some ⟨g0 + i, 0, none⟩) 1 1) ∧ w' = w := by
  have R := Lib.hid (fam_Rows h)
  have h64 := h.r64
  obtain ⟨ca, fa, za⟩ := h.ff
  obtain ⟨cw, fw, zw⟩ := h.ww
  have cwi := cw i
  rw [arrOf_get, if_pos hi] at cwi
  clear h cw fw
  go_enter Tryz.func189, Tryz.ntmps189
  go_wp2_with fail
  refine R.out.mono ?_
  rintro e w1 ⟨rfl, rfl⟩
  go_wp2
  go_ret
  exact ⟨rfl, rfl⟩
theorem fam_rowNo (h : FamAt w F W0 g0 rows cols fs) (i : Int) (hi : ¬ (0 ≤ i ∧ i < rows)) : Calls Tryz.prog 189 #[.pointer (some ⟨F, 0, none⟩), .int .i64 i] w fun e w' => e = .returned (.slice none 0 0) ∧ w' = w := by
  have R := Lib.hid (fam_Rows h)
  obtain ⟨ca, fa, za⟩ := h.ff
  clear h
  by_cases h0 : i < 0
  · have d : decide (i < 0) = true := decide_eq_true h0
    clear h0 hi
    go_enter Tryz.func189, Tryz.ntmps189
    go_wp2
    go_ret
    exact ⟨rfl, rfl⟩
  · have d : decide (i < 0) = false := decide_eq_false h0
    have d2 : decide ((rows : Int) ≤ i) = true := decide_eq_true (by omega)
    clear h0 hi
    go_enter Tryz.func189, Tryz.ntmps189
    go_wp2_with fail
    refine R.out.mono ?_
    rintro e w1 ⟨rfl, rfl⟩
    go_wp2
    go_ret
    exact ⟨rfl, rfl⟩
def hasF (fs : List (Nat × Nat)) (r c : Int) : Bool := decide (0 ≤ r ∧ 0 ≤ c ∧ (r.toNat, c.toNat) ∈ fs)
theorem hasF_nat (fs : List (Nat × Nat)) (r c : Nat) : hasF fs r c = decide ((r, c) ∈ fs) := by
  unfold hasF
  rw [decide_eq_decide]
  exact ⟨fun h => h.2.2, fun h => ⟨by omega, by omega, h⟩⟩
theorem hasF_no (h : FamAt w F W0 g0 rows cols fs) {r c : Int} (hn : ¬ (0 ≤ r ∧ r < rows) ∨ ¬ (0 ≤ c ∧ c < cols)) : hasF fs r c = false := by
  unfold hasF
  rw [decide_eq_false_iff_not]
  rintro ⟨h1, h2, h3⟩
  have := h.rng _ h3
  dsimp only at this
  omega
set_option maxRecDepth 100000 in
set_option maxHeartbeats 2000000 in
theorem fam_Has (h : FamAt w F W0 g0 rows cols fs) (r c : Int) : Calls Tryz.prog 221 #[.pointer (some ⟨F, 0, none⟩), .int .i64 r, .int .i64 c] w fun e w' => e = .returned (.bool (hasF fs r c)) ∧ w' = w := by
  have HN := Lib.hid (fun (hn : ¬ (0 ≤ r ∧ r < rows) ∨ ¬ (0 ≤ c ∧ c < cols)) => hasF_no h hn)
  by_cases hr : 0 ≤ r ∧ r < rows
  · obtain ⟨i, rfl⟩ := Int.eq_ofNat_of_zero_le hr.1
    have hi : i < rows := by omega
    have R := Lib.hid (fam_row h i hi)
    obtain ⟨m, ⟨cm, fm, zm⟩, hw⟩ := h.gg i hi
    have c64 := h.c64
    obtain ⟨ca, fa, za⟩ := h.ff
    clear h fm fa hr
    by_cases hc : 0 ≤ c ∧ c < cols
    · obtain ⟨j, rfl⟩ := Int.eq_ofNat_of_zero_le hc.1
      have hj : j < cols := by omega
      have hb := word_has (c := j) hw
      have RES := Lib.hid (hasF_nat fs i j)
      rw [← hb] at RES
      generalize hasF fs (i : Int) (j : Int) = res at RES ⊢
      have e0 : j / 64 = 0 := Nat.div_eq_of_lt (by omega)
      have e2 : (j : Int) % 64 = (j : Int) := by omega
      have e3 : (j : Int).tmod 64 = (j : Int) := by rw [Int.tmod_eq_emod_of_nonneg (by omega)]; exact e2
      clear hw hb hc
      go_enter Tryz.func221, Tryz.ntmps221
      go_wp2_with fail
      refine R.out.mono ?_
      rintro e w1 ⟨rfl, rfl⟩
      go_wp2
      go_ret
      exact ⟨ret_b (by rw [RES.out]), rfl⟩
    · have RES := Lib.hid (HN.out (.inr hc))
      generalize hasF fs (i : Int) c = res at RES ⊢
      clear hw HN
      by_cases h0 : 0 ≤ c
      · have d : decide (0 ≤ c) = true := decide_eq_true h0
        have d2 : decide (c < (cols : Int)) = false := decide_eq_false (by omega)
        clear h0 hc
        go_enter Tryz.func221, Tryz.ntmps221
        go_wp2_with fail
        refine R.out.mono ?_
        rintro e w1 ⟨rfl, rfl⟩
        go_wp2
        go_ret
        exact ⟨ret_b (by rw [RES.out]), rfl⟩
      · have d : decide (0 ≤ c) = false := decide_eq_false h0
        clear h0 hc
        go_enter Tryz.func221, Tryz.ntmps221
        go_wp2_with fail
        refine R.out.mono ?_
        rintro e w1 ⟨rfl, rfl⟩
        go_wp2
        go_ret
        exact ⟨ret_b (by rw [RES.out]), rfl⟩
  · have R := Lib.hid (fam_rowNo h r hr)
    have RES := Lib.hid (HN.out (.inl hr))
    generalize hasF fs r c = res at RES ⊢
    clear HN h hr
    go_enter Tryz.func221, Tryz.ntmps221
    go_wp2_with fail
    refine R.out.mono ?_
    rintro e w1 ⟨rfl, rfl⟩
    go_wp2
    go_ret
    exact ⟨ret_b (by rw [RES.out]), rfl⟩
theorem eql_nil (b : Addr) (n c : Nat) (W : World) : (binOp .eql 204 (.slice (some b) n c) (.slice none 0 0)).run Tryz.prog W = .ok (.bool false) W := by
  exact Go.Lib.run_eql_slice_nil W _ _ _ _ _ _ _ Tryz.underlying204
/-- What Add leaves. -/
def addF (fs : List (Nat × Nat)) (r c : Nat) : List (Nat × Nat) := if (r, c) ∈ fs then fs else fs ++ [(r, c)]
set_option maxRecDepth 100000 in
set_option maxHeartbeats 4000000 in
theorem fam_Add (h : FamAt w F W0 g0 rows cols fs) (r c : Nat) (hr : r < rows) (hc : c < cols) : Calls Tryz.prog 239 #[.pointer (some ⟨F, 0, none⟩), .int .i64 r, .int .i64 c] w fun e w' =>
    e = .returned (.bool (!decide ((r, c) ∈ fs))) ∧ FamAt w' F W0 g0 rows cols (addF fs r c) ∧ Kp (famX F g0 rows) w w' := by
  have HS := fam_Has h r c
  rw [hasF_nat] at HS
  have HS := Lib.hid HS
  have R := Lib.hid (fam_row h r hr)
  have HF := Lib.hid h
  have hEN := fun W => eql_nil ⟨g0 + r, 0, none⟩ 1 1 W
  have c64 := h.c64
  have d1 : decide ((c : Int) < 0) = false := decide_eq_false (by omega)
  have d2 : decide ((cols : Int) ≤ (c : Int)) = false := decide_eq_false (by omega)
  obtain ⟨ca, fa, za⟩ := h.ff
  by_cases hf : (r, c) ∈ fs
  · have RES := Lib.hid (show addF fs r c = fs from if_pos hf)
    rw [decide_eq_true hf] at HS ⊢
    clear h hf
    go_enter Tryz.func239, Tryz.ntmps239
    go_wp2_with fail
    refine R.out.mono ?_
    rintro e w1 ⟨rfl, rfl⟩
    go_wp2_with fail
    refine HS.out.mono ?_
    rintro e w1 ⟨rfl, rfl⟩
    go_wp2
    go_ret
    exact ⟨rfl, by rw [RES.out]; exact HF.out, Kp.refl _ _⟩
  · have RES := Lib.hid (show addF fs r c = fs ++ [(r, c)] from if_neg hf)
    have HNF := Lib.hid hf
    rw [decide_eq_false hf] at HS ⊢
    obtain ⟨m, hm, hw⟩ := h.gg r hr
    have HW := Lib.hid hw
    have HM := Lib.hid hm
    have hlen := fam_len h
    have hlen2 : rows * cols ≤ 4096 * 64 := Nat.mul_le_mul h.r64 h.c64
    obtain ⟨cm, fm, zm⟩ := hm
    have e0 : c / 64 = 0 := Nat.div_eq_of_lt (by omega)
    have e2 : (c : Int) % 64 = (c : Int) := by omega
    clear h hf hw
    go_enter Tryz.func239, Tryz.ntmps239
    go_wp2_with fail
    refine R.out.mono ?_
    rintro e w1 ⟨rfl, rfl⟩
    go_wp2_with fail
    refine HS.out.mono ?_
    rintro e w1 ⟨rfl, rfl⟩
    go_wp2_with fail
    have HFd := Lib.hid (HF.out.below (below_drew (Below.refl _ _)))
    refine wp_region_last (S := (fun W => ∀ o, W.cell? ⟨g0 + r, o, none⟩ = (#[.int .u64 m] : Array Value)[o]?)) 10 (by kernel_rfl) (by intro o; rw [World.cell?_drew]; exact cm o) (fun hHeld => ?_)
    have HM := Lib.hid (HM.out.below (below_drew (Below.refl _ _)))
    obtain ⟨wk, hwk⟩ : ∃ W, W = w1.drew := ⟨_, rfl⟩
    rw [← hwk] at HM HFd hHeld ⊢
    have HKP := Lib.hid (show Kp (famX F g0 rows) w1 wk by rw [hwk]; exact (Kp.refl _ _).drew)
    have ew : IntKind.i64.wrap ((c : Int) / 64) = 0 := by rw [show (c : Int) / 64 = 0 by omega]; rfl
    have er : IntKind.i64.wrap ((c : Int) % 64) = (c : Int) := by rw [e2]; exact Go.IntWalk.i64_in _ (by omega)
    have hcz : (c : Int) ≤ 64 := by omega
    have hcz0 : (0 : Int) ≤ (c : Int) := by omega
    have et : (c : Int).tmod 64 = (c : Int) := by rw [Int.tmod_eq_emod_of_nonneg (by omega)]; exact e2
    have HOR := Lib.hid (show bits .or .u64 (m : Int) (IntKind.u64.wrap (2 ^ c)) = ((m ||| 2 ^ c : Nat) : Int) by
      have hp : 2 ^ c < 2 ^ 64 := Nat.pow_lt_pow_right (by decide) (by omega)
      have e : IntKind.u64.wrap (2 ^ c) = ((2 ^ c : Nat) : Int) := by
        rw [show ((2 : Int) ^ c) = ((2 ^ c : Nat) : Int) by rw [Int.natCast_pow]; rfl]
        generalize 2 ^ c = q at *
        exact Go.IntWalk.u64_in _ (by omega)
      rw [e]
      exact bits_or_u64_nat _ _ HW.out.1 hp)
    clear hwk
    (refine last_yes (v := ?_) 0 rfl (by kernel_rfl) (by kernel_rfl) (by kernel_rfl) (by kernel_rfl) (by kernel_rfl) (fun _ _ _ h => h) (by rfl) (by assumption) ?_ ?_; rotate_left; (focus ((intro w hSw); (try dsimp only at hSw); go_simp; (try with_reducible rfl))); (try simp only [Act.put, List.setIfInBounds_toArray, List.set_cons_zero, List.set_cons_succ])); (refine last_yes (v := ?_) 1 rfl (by kernel_rfl) (by kernel_rfl) (by kernel_rfl) (by kernel_rfl) (by kernel_rfl) (fun _ _ _ h => h) (by rfl) (by assumption) ?_ ?_; rotate_left; (focus ((intro w hSw); (try dsimp only at hSw); go_simp; (try with_reducible rfl))); (try simp only [Act.put, List.setIfInBounds_toArray, List.set_cons_zero, List.set_cons_succ])); (refine last_yes (v := ?_) 2 rfl (by kernel_rfl) (by kernel_rfl) (by kernel_rfl) (by kernel_rfl) (by kernel_rfl) (fun _ _ _ h => h) (by rfl) (by assumption) ?_ ?_; rotate_left; (focus ((intro w hSw); (try dsimp only at hSw); go_simp; (try with_reducible rfl))); (try simp only [Act.put, List.setIfInBounds_toArray, List.set_cons_zero, List.set_cons_succ])); (refine last_yes (v := ?_) 3 rfl (by kernel_rfl) (by kernel_rfl) (by kernel_rfl) (by kernel_rfl) (by kernel_rfl) (fun _ _ _ h => h) (by rfl) (by assumption) ?_ ?_; rotate_left; (focus ((intro w hSw); (try dsimp only at hSw); go_simp; (try with_reducible rfl))); (try simp only [Act.put, List.setIfInBounds_toArray, List.set_cons_zero, List.set_cons_succ])); (refine last_yes (v := ?_) 4 rfl (by kernel_rfl) (by kernel_rfl) (by kernel_rfl) (by kernel_rfl) (by kernel_rfl) (fun _ _ _ h => h) (by rfl) (by assumption) ?_ ?_; rotate_left; (focus ((intro w hSw); (try dsimp only at hSw); go_simp; (try with_reducible rfl))); (try simp only [Act.put, List.setIfInBounds_toArray, List.set_cons_zero, List.set_cons_succ])); (refine last_yes (v := ?_) 5 rfl (by kernel_rfl) (by kernel_rfl) (by kernel_rfl) (by kernel_rfl) (by kernel_rfl) (fun _ _ _ h => h) (by rfl) (by assumption) ?_ ?_; rotate_left; (focus ((intro w hSw); (try dsimp only at hSw); go_simp; (try with_reducible rfl))); (try simp only [Act.put, List.setIfInBounds_toArray, List.set_cons_zero, List.set_cons_succ])); (refine last_yes (v := ?_) 6 rfl (by kernel_rfl) (by kernel_rfl) (by kernel_rfl) (by kernel_rfl) (by kernel_rfl) (fun _ _ _ h => h) (by rfl) (by assumption) ?_ ?_; rotate_left; (focus ((intro w hSw); (try dsimp only at hSw); go_simp; (try with_reducible rfl))); (try simp only [Act.put, List.setIfInBounds_toArray, List.set_cons_zero, List.set_cons_succ])); (refine last_yes (v := ?_) 7 rfl (by kernel_rfl) (by kernel_rfl) (by kernel_rfl) (by kernel_rfl) (by kernel_rfl) (fun _ _ _ h => h) (by rfl) (by assumption) ?_ ?_; rotate_left; (focus ((intro w hSw); (try dsimp only at hSw); go_simp; (try with_reducible rfl))); (try simp only [Act.put, List.setIfInBounds_toArray, List.set_cons_zero, List.set_cons_succ])); (refine last_yes (v := ?_) 8 rfl (by kernel_rfl) (by kernel_rfl) (by kernel_rfl) (by kernel_rfl) (by kernel_rfl) (fun _ _ _ h => h) (by rfl) (by assumption) ?_ ?_; rotate_left; (focus ((intro w hSw); (try dsimp only at hSw); go_simp; (try with_reducible rfl))); (try simp only [Act.put, List.setIfInBounds_toArray, List.set_cons_zero, List.set_cons_succ])); (refine last_yes (v := ?_) 9 rfl (by kernel_rfl) (by kernel_rfl) (by kernel_rfl) (by kernel_rfl) (by kernel_rfl) (fun _ _ _ h => h) (by rfl) (by assumption) ?_ ?_; rotate_left; (focus ((intro w hSw); (try dsimp only at hSw); go_simp; (try with_reducible rfl))); (try simp only [Act.put, List.setIfInBounds_toArray, List.set_cons_zero, List.set_cons_succ]))
    obtain ⟨cm2, fm2, zm2⟩ := HM.out
    (refine last_end 10 rfl (by kernel_rfl) (by kernel_rfl) (fun K hK => ?_); go_simp)
    rw [HOR.out]
    clear cm2 fm2 zm2
    refine hK.out _ _ ?_
    clear hK K
    have hwp := HW.out.put (c := c) (by omega)
    generalize hW1 : wk.setCell ⟨g0 + r, 0, none⟩ (.int .u64 ((m ||| 2 ^ c : Nat) : Int)) = wv
    have HKP := Lib.hid (HKP.out.trans (show Kp (famX F g0 rows) wk wv by rw [← hW1]; exact Kp.set (.inr ⟨by omega, by omega⟩)) (fun _ _ h => h))
    have HM2 := Lib.hid (show Blk wv (g0 + r) #[.int .u64 ((m ||| 2 ^ c : Nat) : Int)] by rw [← hW1]; simpa using HM.out.put (o := 0) (v := .int .u64 ((m ||| 2 ^ c : Nat) : Int)) (by simp))
    have o1 := HF.out.o1
    have o2 := HF.out.o2
    have HFF := Lib.hid (show Blk wv F #[.int .i64 rows, .int .i64 cols, .slice (some ⟨W0, 0, none⟩) rows rows, .int .i64 fs.length] by rw [← hW1]; exact HFd.out.ff.far (by omega))
    have HWW := Lib.hid (show Blk wv W0 (arrOf rows (fun i => .slice (some ⟨g0 + i, 0, none⟩) 1 1)) by rw [← hW1]; exact HFd.out.ww.far (by omega))
    have HGG := Lib.hid (show ∀ i, i < rows → ∃ m : Nat, Blk wv (g0 + i) #[.int .u64 m] ∧ wrdOf (fs ++ [(r, c)]) i m from fun i hi => by
      by_cases e : r = i
      · subst e; exact ⟨_, HM2.out, hwp⟩
      · obtain ⟨m', hm', hw'⟩ := HFd.out.gg i hi
        exact ⟨m', by rw [← hW1]; exact hm'.far (by omega), hw'.other e⟩)
    clear hwp hW1 HFd HM HOR HW ew er et hcz hcz0 e0 e2 HM2
    have ca2 := HFF.out.1
    go_wp2_with fail
    refine wp_region_last (S := (fun W => ∀ o, W.cell? ⟨F, o, none⟩ = (#[.int .i64 rows, .int .i64 cols, .slice (some ⟨W0, 0, none⟩) rows rows, .int .i64 fs.length] : Array Value)[o]?)) 9 (by kernel_rfl) (by intro o; rw [World.cell?_drew]; exact ca2 o) (fun hHeld => ?_)
    have hwl : IntKind.i64.wrap ((fs.length : Int) + 1) = (fs.length : Int) + 1 := Go.IntWalk.i64_in _ (by omega)
    (refine last_yes (v := ?_) 0 rfl (by kernel_rfl) (by kernel_rfl) (by kernel_rfl) (by kernel_rfl) (by kernel_rfl) (fun _ _ _ h => h) (by rfl) (by assumption) ?_ ?_; rotate_left; (focus ((intro w hSw); (try dsimp only at hSw); go_simp; (try with_reducible rfl))); (try simp only [Act.put, List.setIfInBounds_toArray, List.set_cons_zero, List.set_cons_succ])); (refine last_yes (v := ?_) 1 rfl (by kernel_rfl) (by kernel_rfl) (by kernel_rfl) (by kernel_rfl) (by kernel_rfl) (fun _ _ _ h => h) (by rfl) (by assumption) ?_ ?_; rotate_left; (focus ((intro w hSw); (try dsimp only at hSw); go_simp; (try with_reducible rfl))); (try simp only [Act.put, List.setIfInBounds_toArray, List.set_cons_zero, List.set_cons_succ])); (refine last_yes (v := ?_) 2 rfl (by kernel_rfl) (by kernel_rfl) (by kernel_rfl) (by kernel_rfl) (by kernel_rfl) (fun _ _ _ h => h) (by rfl) (by assumption) ?_ ?_; rotate_left; (focus ((intro w hSw); (try dsimp only at hSw); go_simp; (try with_reducible rfl))); (try simp only [Act.put, List.setIfInBounds_toArray, List.set_cons_zero, List.set_cons_succ])); (refine last_yes (v := ?_) 3 rfl (by kernel_rfl) (by kernel_rfl) (by kernel_rfl) (by kernel_rfl) (by kernel_rfl) (fun _ _ _ h => h) (by rfl) (by assumption) ?_ ?_; rotate_left; (focus ((intro w hSw); (try dsimp only at hSw); go_simp; (try with_reducible rfl))); (try simp only [Act.put, List.setIfInBounds_toArray, List.set_cons_zero, List.set_cons_succ])); (refine last_yes (v := ?_) 4 rfl (by kernel_rfl) (by kernel_rfl) (by kernel_rfl) (by kernel_rfl) (by kernel_rfl) (fun _ _ _ h => h) (by rfl) (by assumption) ?_ ?_; rotate_left; (focus ((intro w hSw); (try dsimp only at hSw); go_simp; (try with_reducible rfl))); (try simp only [Act.put, List.setIfInBounds_toArray, List.set_cons_zero, List.set_cons_succ])); (refine last_yes (v := ?_) 5 rfl (by kernel_rfl) (by kernel_rfl) (by kernel_rfl) (by kernel_rfl) (by kernel_rfl) (fun _ _ _ h => h) (by rfl) (by assumption) ?_ ?_; rotate_left; (focus ((intro w hSw); (try dsimp only at hSw); go_simp; (try with_reducible rfl))); (try simp only [Act.put, List.setIfInBounds_toArray, List.set_cons_zero, List.set_cons_succ])); (refine last_yes (v := ?_) 6 rfl (by kernel_rfl) (by kernel_rfl) (by kernel_rfl) (by kernel_rfl) (by kernel_rfl) (fun _ _ _ h => h) (by rfl) (by assumption) ?_ ?_; rotate_left; (focus ((intro w hSw); (try dsimp only at hSw); go_simp; (try with_reducible rfl))); (try simp only [Act.put, List.setIfInBounds_toArray, List.set_cons_zero, List.set_cons_succ])); (refine last_yes (v := ?_) 7 rfl (by kernel_rfl) (by kernel_rfl) (by kernel_rfl) (by kernel_rfl) (by kernel_rfl) (fun _ _ _ h => h) (by rfl) (by assumption) ?_ ?_; rotate_left; (focus ((intro w hSw); (try dsimp only at hSw); go_simp; (try with_reducible rfl))); (try simp only [Act.put, List.setIfInBounds_toArray, List.set_cons_zero, List.set_cons_succ])); (refine last_yes (v := ?_) 8 rfl (by kernel_rfl) (by kernel_rfl) (by kernel_rfl) (by kernel_rfl) (by kernel_rfl) (fun _ _ _ h => h) (by rfl) (by assumption) ?_ ?_; rotate_left; (focus ((intro w hSw); (try dsimp only at hSw); go_simp; (try with_reducible rfl))); (try simp only [Act.put, List.setIfInBounds_toArray, List.set_cons_zero, List.set_cons_succ]))
    obtain ⟨cm2, fm2, zm2⟩ := HFF.out
    (refine last_end 9 rfl (by kernel_rfl) (by kernel_rfl) (fun K hK => ?_); go_simp)
    clear cm2 fm2 zm2
    refine hK.out _ _ ?_
    clear hK K
    have HFE := Lib.hid (show Blk ((wv.setCell ⟨F, 3, none⟩ (.int .i64 ((fs.length : Int) + 1))).drew) F #[.int .i64 rows, .int .i64 cols, .slice (some ⟨W0, 0, none⟩) rows rows, .int .i64 ((fs ++ [(r, c)]).length : Nat)] by
      rw [List.length_append]
      have := HFF.out.put (o := 3) (v := .int .i64 ((fs.length : Int) + 1)) (by simp)
      exact this.below (below_drew (Below.refl _ _)))
    have HWE := Lib.hid ((HWW.out.far (g := F) (o := 3) (v := .int .i64 ((fs.length : Int) + 1)) (by omega)).below (below_drew (Below.refl _ _)))
    have HGE := Lib.hid (fun i hi => by
      obtain ⟨m', hm', hw'⟩ := HGG.out i hi
      exact (⟨m', (hm'.far (g := F) (o := 3) (v := .int .i64 ((fs.length : Int) + 1)) (by omega)).below (below_drew (Below.refl _ _)), hw'⟩ : ∃ m : Nat, Blk ((wv.setCell ⟨F, 3, none⟩ (.int .i64 ((fs.length : Int) + 1))).drew) (g0 + i) #[.int .u64 m] ∧ wrdOf (fs ++ [(r, c)]) i m))
    have HKE := Lib.hid ((HKP.out.trans (Kp.set (X := famX F g0 rows) (o := 3) (v := .int .i64 ((fs.length : Int) + 1)) (.inl rfl)) (fun _ _ h => h)).drew)
    generalize (wv.setCell ⟨F, 3, none⟩ (.int .i64 ((fs.length : Int) + 1))).drew = we at *
    clear HFF HWW HGG HKP ca2 hwl
    go_wp2
    go_ret
    refine ⟨rfl, ?_, HKE.out⟩
    rw [RES.out]
    exact ⟨HFE.out, HWE.out, HGE.out, HF.out.o1, HF.out.o2, HF.out.c64, HF.out.r64, fun f hf => by
      rcases List.mem_append.1 hf with hf | hf
      · exact HF.out.rng f hf
      · rw [List.mem_singleton.1 hf]; exact ⟨hr, hc⟩, nodup_snoc HF.out.nodup HNF.out⟩
end
end Go.Proofs.YtcmdhfccdkjenaaGreatDoor
namespace Go.Proofs.YtcmdhfccdkjenaaGreatDoor
open Go.RowKit Go.Shelf

/-- The library's table behind TrailingZeros64. -/
def TB (w : World) : Prop := ∀ j, j < Lib.deBruijn64tab.length → w.cell? ⟨0, j, none⟩ = some (.int .u8 (Lib.deBruijn64tab.getD j 0))
theorem TB.below {w w' : World} (h : TB w) (hb : Below w.heap.size w w') : TB w' := by
  exact fun j hj => (hb.cell (p := ⟨0, j, none⟩) (World.block_lt_of_cell? w _ (h j hj))).trans (h j hj)
theorem tz_key (x a : Nat) (hx : x < 18446744073709551616) (hx0 : x ≠ 0) (hlow : x &&& (18446744073709551616 - x) = a) :
    IntKind.u64.wrap (bits BinOp.and IntKind.u64 (x : Int) (IntKind.u64.wrap (-(x : Int))) * 285870213051353865) / 288230376151711744 = ((a * 285870213051353865 % 18446744073709551616 / 288230376151711744 : Nat) : Int) := by
  have e1 : IntKind.u64.wrap (-(x : Int)) = ((18446744073709551616 - x : Nat) : Int) := by rw [IntKind.wrap_u64]; omega
  rw [e1, bits_and_u64_nat x _ hx (by omega), hlow, IntKind.wrap_u64]
  omega
set_option maxHeartbeats 1000000 in
theorem tz_core (x k idx : Nat) (w : World) (hx1 : ((x : Int) == 0) = false)
    (key : IntKind.u64.wrap (bits BinOp.and IntKind.u64 (x : Int) (IntKind.u64.wrap (-(x : Int))) * 285870213051353865) / 288230376151711744 = (idx : Int))
    (hi : idx < 64) (hk : k < 64) (hcell : w.cell? ⟨0, idx, none⟩ = some (.int .u8 k)) :
    Calls Tryz.prog 190 #[.int .u64 x] w fun e w' => e = .returned (.int .i64 k) ∧ w' = w := by
  go_enter Tryz.func190, Tryz.ntmps190
  go_wp2_with (simp only [key])
  go_ret
  exact ⟨rfl, rfl⟩
theorem bits_tz (x : Nat) (hx0 : 0 < x) (hx : x < 18446744073709551616) (w : World) (hT : TB w) :
    Calls Tryz.prog 190 #[.int .u64 x] w fun e w' => e = .returned (.int .i64 (Lib.ctz 64 x)) ∧ w' = w := by
  have hne : x ≠ 0 := by omega
  obtain ⟨hlow, hk⟩ := Lib.lowest_bit 64 x hne hx
  obtain ⟨hi, htab⟩ := Lib.deBruijn64_at _ hk
  have hcell := hT _ hi
  rw [htab] at hcell
  exact tz_core x _ _ w (by simp; omega) (tz_key x _ hx hne hlow) hi hk hcell
def ints (l : List Nat) : List Value := l.map (fun (c : Nat) => .int .i64 (c : Int))
theorem int_info : (Tryz.prog.info? 3).map (fun i => (i.zero, i.size, i.bytes)) = some (some (.int .i64 0), 1, 8) := by kernel_rfl
theorem int1 (x : Int) : ∀ u ∈ [Value.int .i64 x], u.oneCell' = true := fun u hu => by rw [List.mem_singleton.1 hu]; rfl
set_option maxRecDepth 100000 in
set_option maxHeartbeats 4000000 in
theorem fam_List {w : World} {F W0 g0 rows cols : Nat} {fs : List (Nat × Nat)} (h : FamAt w F W0 g0 rows cols fs) (hT : TB w) (i : Nat) (hi : i < rows) :
    Calls Tryz.prog 145 #[.pointer (some ⟨F, 0, none⟩), .int .i64 i] w fun e w' => ∃ v, e = .returned v ∧ w'.ownsRow w.heap.size 3 1 v (colsOf fs i).length (ints (colsOf fs i)) ∧ Below w.heap.size w w' := by
  have R := Lib.hid (fam_row h i hi)
  obtain ⟨m, hm, hw⟩ := h.gg i hi
  have HM := Lib.hid hm
  have BC := Lib.hid (bits_cols hw)
  have hm64 := hw.1
  have HTB := Lib.hid hT
  have HCL := colsOf_len fs i
  rw [← BC.out] at HCL ⊢
  clear h hm hw hT BC
  go_enter Tryz.func145, Tryz.ntmps145
  go_wp2_with fail
  refine R.out.mono ?_
  rintro e w1 ⟨rfl, rfl⟩
  clear R
  go_wp2_with fail
  go_loopw [4, 11] (fun vo i wr => ∃ (k : Nat) (xs : List Nat), k ≤ 1 ∧ i = .int .i64 k ∧ Hid (Below w1.heap.size w1 wr) ∧ Hid (wr.ownsRow w1.heap.size 3 1 vo xs.length (ints xs)) ∧ Hid (k = 0 → xs = []) ∧ Hid (k = 1 → xs = bitsOf m)) (fun _ i _ => 1 - (intOf i).toNat)
  case atStart => exact ⟨0, [], by omega, rfl, Lib.hid (Below.refl _ _), Lib.hid (World.ownsRow_nil _ _ _ _), Lib.hid (fun _ => rfl), Lib.hid (fun h => by cases h)⟩
  case round =>
    obtain ⟨k, xs, hk, rfl, HB, HO, H0, H1⟩ := hrel
    obtain ⟨oo, oc, rfl⟩ := own_form HO.out
    by_cases hlt : k = 0
    · subst hlt
      obtain rfl := H0.out rfl
      obtain ⟨cm, fm, zm⟩ := HM.out.below HB.out
      clear fm
      go_wp2_with fail
      obtain ⟨wA, hwA⟩ : ∃ wA, wA = wr := ⟨_, rfl⟩
      subst hwA
      clear cm zm H0 H1
      go_loopw [4, 6] (fun vo vm wr => ∃ (q : Nat) (xs : List Nat), vm = .int .u64 q ∧ Hid (q < 18446744073709551616) ∧ Hid (bitsOf m = xs ++ bitsOf q) ∧ Hid (Below w1.heap.size w1 wr) ∧ Hid (wr.ownsRow w1.heap.size 3 1 vo xs.length (ints xs))) (fun _ vm _ => (intOf vm).toNat)
      case atStart => exact ⟨m, [], rfl, Lib.hid hm64, Lib.hid rfl, HB, HO⟩
      case round =>
        clear HB HO
        obtain ⟨q, xs, rfl, HQ, HE, HB, HO⟩ := hrel
        obtain ⟨oo, oc, rfl⟩ := own_form HO.out
        have hxl : xs.length ≤ 64 := by have := congrArg List.length HE.out; rw [List.length_append] at this; omega
        by_cases hq : 0 < q
        · have d : ((q : Int) != 0) = true := by rw [bne_iff_ne]; omega
          obtain ⟨s1, s2, s3⟩ := bits_step hq HQ.out
          have TZ := Lib.hid (fun W (hb : Below w1.heap.size w1 W) => bits_tz q hq HQ.out W (HTB.out.below hb))
          have HS := Lib.hid s1
          have HOR := Lib.hid (show bits .and .u64 (q : Int) ((q : Int) - 1) = ((q &&& (q - 1) : Nat) : Int) by
            rw [show (q : Int) - 1 = ((q - 1 : Nat) : Int) by omega]
            exact bits_and_u64_nat _ _ HQ.out (by have := HQ.out; omega))
          have hqq : (q &&& (q - 1)) < q := Nat.lt_of_le_of_lt Nat.and_le_right (by omega)
          have hq64 := HQ.out
          generalize Lib.ctz 64 q = tz at *
          go_wp2_with fail
          refine (TZ.out _ HB.out).mono ?_
          rintro e w3 ⟨rfl, rfl⟩
          have hown := HO.out
          clear TZ
          go_wp2_with (at_builtin; refine halt_ ?_)
          unfold Halt_
          refine app_own Tryz.underlying113 int_info rfl (by decide) (by decide) rfl _ _ rfl w1.heap.size rfl (hown.alloc _) [.int .i64 (tz : Int)] rfl (heap_new1 _ _) rfl (int1 _) ?_ ?_ ?_
          · omega
          · have := HB.out.size; simp; omega
          intro a' cap' w4 hown' hgrow
          have HB4 := Lib.hid (below_own (HB.out.alloc HB.out.size _) (hown.alloc _) hgrow (HB.out.alloc HB.out.size _).size (Nat.le_refl _))
          have HO4 := Lib.hid (show w4.ownsRow w1.heap.size 3 1 (.slice a' (xs.length + 1) cap') (xs ++ [tz]).length (ints (xs ++ [tz])) by rw [List.length_append]; unfold ints at hown' ⊢; rw [List.map_append]; exact hown')
          clear hown hown' hgrow HB HO
          go_wp2_with fail
          rw [HOR.out]
          exact ⟨⟨q &&& (q - 1), xs ++ [tz], rfl, Lib.hid (by omega), Lib.hid (by rw [HE.out, HS.out, List.append_assoc]; rfl), HB4, HO4⟩, by simp [intOf]; omega⟩
        · obtain rfl : q = 0 := by omega
          have HXS := Lib.hid (show xs = bitsOf m by rw [HE.out, bitsOf_zero, List.append_nil])
          go_wp2_with fail
          exact ⟨⟨1, xs, by omega, by go_num, HB, HO, Lib.hid (fun h => by cases h), Lib.hid (fun _ => HXS.out)⟩, by simp [intOf]⟩
    · obtain rfl : k = 1 := by omega
      have HXS := Lib.hid (H1.out rfl)
      go_wp2
      go_ret
      exact ⟨_, rfl, by rw [← HXS.out]; exact HO.out, HB.out⟩
end Go.Proofs.YtcmdhfccdkjenaaGreatDoor
namespace Go.Proofs.YtcmdhfccdkjenaaGreatDoor
open Go.RowKit Go.Shelf

theorem made_one (z : Value) (n : Nat) : madeCells #[z] n = arrOf n (fun _ => z) := by
  apply Array.ext_getElem?
  intro j
  rw [arrOf_get]
  unfold madeCells
  by_cases h : j < n
  · rw [if_pos h]; simp [h, Nat.mod_one]
  · rw [if_neg h]; simp [h]
theorem set_within (n most : Nat) (w : World) (h : n ≤ most) : Calls Tryz.prog 217 #[.int .i64 n, .int .i64 most] w fun e w' => e = .returned (.int .i64 n) ∧ w' = w := by
  go_enter Tryz.func217, Tryz.ntmps217
  go_wp2
  go_ret
  refine ⟨?_, rfl⟩
  show Ending.returned (.int .i64 (max 0 (min (n : Int) (most : Int)))) = _
  congr 2
  omega
theorem u64s_info : (Tryz.prog.info? 204).map (fun i => (i.zero, i.size, i.bytes)) = some (some (.slice none 0 0), 1, 24) := by kernel_rfl
theorem u64_info : (Tryz.prog.info? 206).map (fun i => (i.zero, i.size, i.bytes)) = some (some (.int .u64 0), 1, 8) := by kernel_rfl
/-- make of n one-cell things. -/
theorem run_mk (t e : TypeId) (z : Value) (bytes : Nat) (ht : Tryz.prog.underlying t = some (.slice e)) (hinfo : (Tryz.prog.info? e).map (fun i => (i.zero, i.size, i.bytes)) = some (some z, 1, bytes)) (hz : z.cells = #[z]) (hb : bytes ≤ 100) (n : Nat) (hn : n ≤ 5000) (W : World) :
    (Instr.makeSlice t (.int .i64 (n : Int)) (.int .i64 (n : Int))).run Tryz.prog W = .ok (.slice (some ⟨W.heap.size, 0, none⟩) n n) (W.alloc (.cells (arrOf n (fun _ => z)) e)) := by
  obtain ⟨i, hi, hz0, hz1, hz2⟩ := info_parts hinfo
  have hm : bytes * n ≤ 100 * 5000 := Nat.mul_le_mul hb hn
  have h := run_makeSlice (P := Tryz.prog) W t e i z ht hi hz0 .i64 .i64 (n : Int) (n : Int) (by omega) (by omega) (by rw [hz1]; simp; omega) (by rw [hz2, ← Int.natCast_mul]; omega) (by omega)
  rw [hz1, hz, Int.toNat_natCast, Nat.mul_one, made_one] at h
  exact h
set_option maxRecDepth 100000 in
set_option maxHeartbeats 4000000 in
theorem set_New (rows cols : Nat) (w : World) (hr : rows ≤ 4096) (hc : 0 < cols ∨ rows = 0) (c64 : cols ≤ 64) :
    Calls Tryz.prog 184 #[.int .i64 rows, .int .i64 cols] w fun e w' => ∃ F W0 g0, e = .returned (.pointer (some ⟨F, 0, none⟩)) ∧ FamAt w' F W0 g0 rows cols [] ∧ Below w.heap.size w w' ∧ w.heap.size ≤ F ∧ g0 + rows ≤ w'.heap.size := by
  have S1 := Lib.hid (fun W => set_within rows 5000 W (by omega))
  have S2 := Lib.hid (fun W => set_within cols 1000 W (by omega))
  have hmk := fun W => run_mk 225 204 (.slice none 0 0) 24 Tryz.underlying225 u64s_info rfl (by decide) rows (by omega) W
  go_enter Tryz.func184, Tryz.ntmps184
  go_wp2_with fail
  refine (S1.out _).mono ?_
  rintro e w1 ⟨rfl, rfl⟩
  go_wp2_with fail
  refine (S2.out _).mono ?_
  rintro e w1 ⟨rfl, rfl⟩
  go_wp2_with fail
  have hwr : ∀ j : Nat, j < rows → IntKind.i64.wrap ((j : Int) + 1) = (j : Int) + 1 := fun j hj => Go.IntWalk.i64_in _ (by omega)
  have hc1 : IntKind.i64.wrap ((cols : Int) + 64) = (cols : Int) + 64 := Go.IntWalk.i64_in _ (by omega)
  have hc2 : IntKind.i64.wrap ((cols : Int) + 64 - 1) = (cols : Int) + 63 := by rw [show (cols : Int) + 64 - 1 = (cols : Int) + 63 by omega]; exact Go.IntWalk.i64_in _ (by omega)
  have hmk1 : ∀ W : World, (Instr.makeSlice 204 (.int .i64 1) (.int .i64 1)).run Tryz.prog W = .ok (.slice (some ⟨W.heap.size, 0, none⟩) 1 1) (W.alloc (.cells #[.int .u64 0] 206)) :=
    fun W => run_mk 204 206 (.int .u64 0) 8 Tryz.underlying204 u64_info rfl (by decide) 1 (by omega) W
  go_loopw [25] (fun i wr => ∃ n : Nat, n ≤ rows ∧ i = .int .i64 n ∧ Hid (wr.heap.size = w1.heap.size + 2 + n) ∧ Hid (Below w1.heap.size w1 wr) ∧
      Hid (Blk wr w1.heap.size #[.int .i64 rows, .int .i64 cols, .slice (some ⟨w1.heap.size + 1, 0, none⟩) rows rows, .int .i64 0]) ∧
      Hid (Blk wr (w1.heap.size + 1) (arrOf rows (fun j => if j < n then .slice (some ⟨w1.heap.size + 2 + j, 0, none⟩) 1 1 else .slice none 0 0))) ∧
      Hid (∀ j, j < n → Blk wr (w1.heap.size + 2 + j) #[.int .u64 0])) (fun i _ => rows - (intOf i).toNat)
  case atStart =>
    refine ⟨0, by omega, rfl, Lib.hid (by simp), Lib.hid (((Below.refl _ _).alloc (Nat.le_refl _) _).alloc (by simp) _), Lib.hid ((Blk.new w1 _ _).alloc _), Lib.hid ?_, Lib.hid (fun j hj => absurd hj (by omega))⟩
    have h := Blk.new (w1.alloc (.cells #[.int .i64 rows, .int .i64 cols, .slice (some ⟨w1.heap.size + 1, 0, none⟩) rows rows, .int .i64 0] 228)) (arrOf rows fun _ => .slice none 0 0) 204
    have e : (arrOf rows fun j => if j < 0 then Value.slice (some ⟨w1.heap.size + 2 + j, 0, none⟩) 1 1 else .slice none 0 0) = arrOf rows fun _ => .slice none 0 0 := arrOf_congr (fun i _ => if_neg (by omega))
    rw [e]
    simpa using h
  case round =>
    obtain ⟨n, hn, rfl, HS, HB, HF, HW, HG⟩ := hrel
    by_cases hlt : n < rows
    · have hcp : 0 < cols := hc.resolve_right (by omega)
      have hc3 : IntKind.i64.wrap (((cols : Int) + 63) / 64) = 1 := by rw [show ((cols : Int) + 63) / 64 = 1 by omega]; rfl
      have hc4 : IntKind.i64.wrap (((cols : Int) + 63).tdiv 64) = 1 := by rw [Int.tdiv_eq_ediv_of_nonneg (by omega)]; exact hc3
      obtain ⟨cf, ff, zf⟩ := HF.out
      go_wp2_with fail
      refine wp_region_held_drew (S := (fun W => ∀ o, W.cell? ⟨w1.heap.size, o, none⟩ = (#[.int .i64 rows, .int .i64 cols, .slice (some ⟨w1.heap.size + 1, 0, none⟩) rows rows, .int .i64 0] : Array Value)[o]?)) (by kernel_rfl) (by intro o; rw [World.cell?_drew]; exact cf o) (fun hHeld => ?_)
      obtain ⟨wk, hwk⟩ : ∃ W, W = wr.drew := ⟨_, rfl⟩
      have HBk : Below wr.heap.size wr wk := by rw [hwk]; exact below_drew (Below.refl _ _)
      rw [← hwk] at hHeld ⊢
      have hks : wk.heap.size = w1.heap.size + 2 + n := by rw [hwk]; exact HS.out
      clear hwk
      have HF2 := HF.out.below HBk
      have HW2 := HW.out.below HBk
      obtain ⟨cf, ff, zf⟩ := HF2
      (refine held_yes (v := ?_) 0 rfl (by kernel_rfl) (by kernel_rfl) (by kernel_rfl) (fun _ _ _ h => h) (by rfl) (by assumption) ?_ ?_; rotate_left; (focus ((intro w hSw); (try dsimp only at hSw); go_simp; (try with_reducible rfl))); (try simp only [Act.put, List.setIfInBounds_toArray, List.set_cons_zero, List.set_cons_succ])); (refine held_yes (v := ?_) 1 rfl (by kernel_rfl) (by kernel_rfl) (by kernel_rfl) (fun _ _ _ h => h) (by rfl) (by assumption) ?_ ?_; rotate_left; (focus ((intro w hSw); (try dsimp only at hSw); go_simp; (try with_reducible rfl))); (try simp only [Act.put, List.setIfInBounds_toArray, List.set_cons_zero, List.set_cons_succ])); (refine held_yes (v := ?_) 2 rfl (by kernel_rfl) (by kernel_rfl) (by kernel_rfl) (fun _ _ _ h => h) (by rfl) (by assumption) ?_ ?_; rotate_left; (focus ((intro w hSw); (try dsimp only at hSw); go_simp; (try with_reducible rfl))); (try simp only [Act.put, List.setIfInBounds_toArray, List.set_cons_zero, List.set_cons_succ])); (refine held_yes (v := ?_) 3 rfl (by kernel_rfl) (by kernel_rfl) (by kernel_rfl) (fun _ _ _ h => h) (by rfl) (by assumption) ?_ ?_; rotate_left; (focus ((intro w hSw); (try dsimp only at hSw); go_simp; (try with_reducible rfl))); (try simp only [Act.put, List.setIfInBounds_toArray, List.set_cons_zero, List.set_cons_succ])); (refine held_yes (v := ?_) 4 rfl (by kernel_rfl) (by kernel_rfl) (by kernel_rfl) (fun _ _ _ h => h) (by rfl) (by assumption) ?_ ?_; rotate_left; (focus ((intro w hSw); (try dsimp only at hSw); go_simp; (try with_reducible rfl))); (try simp only [Act.put, List.setIfInBounds_toArray, List.set_cons_zero, List.set_cons_succ])); (refine held_yes (v := ?_) 5 rfl (by kernel_rfl) (by kernel_rfl) (by kernel_rfl) (fun _ _ _ h => h) (by rfl) (by assumption) ?_ ?_; rotate_left; (focus ((intro w hSw); (try dsimp only at hSw); go_simp; (try with_reducible rfl))); (try simp only [Act.put, List.setIfInBounds_toArray, List.set_cons_zero, List.set_cons_succ])); (refine held_yes (v := ?_) 6 rfl (by kernel_rfl) (by kernel_rfl) (by kernel_rfl) (fun _ _ _ h => h) (by rfl) (by assumption) ?_ ?_; rotate_left; (focus ((intro w hSw); (try dsimp only at hSw); go_simp; (try with_reducible rfl))); (try simp only [Act.put, List.setIfInBounds_toArray, List.set_cons_zero, List.set_cons_succ])); (refine held_yes (v := ?_) 7 rfl (by kernel_rfl) (by kernel_rfl) (by kernel_rfl) (fun _ _ _ h => h) (by rfl) (by assumption) ?_ ?_; rotate_left; (focus ((intro w hSw); (try dsimp only at hSw); go_simp; (try with_reducible rfl))); (try simp only [Act.put, List.setIfInBounds_toArray, List.set_cons_zero, List.set_cons_succ])); (refine held_yes (v := ?_) 8 rfl (by kernel_rfl) (by kernel_rfl) (by kernel_rfl) (fun _ _ _ h => h) (by rfl) (by assumption) ?_ ?_; rotate_left; (focus ((intro w hSw); (try dsimp only at hSw); go_simp; (try with_reducible rfl))); (try simp only [Act.put, List.setIfInBounds_toArray, List.set_cons_zero, List.set_cons_succ])); (refine held_yes (v := ?_) 9 rfl (by kernel_rfl) (by kernel_rfl) (by kernel_rfl) (fun _ _ _ h => h) (by rfl) (by assumption) ?_ ?_; rotate_left; (focus ((intro w hSw); (try dsimp only at hSw); go_simp; (try with_reducible rfl))); (try simp only [Act.put, List.setIfInBounds_toArray, List.set_cons_zero, List.set_cons_succ])); (refine held_yes (v := ?_) 10 rfl (by kernel_rfl) (by kernel_rfl) (by kernel_rfl) (fun _ _ _ h => h) (by rfl) (by assumption) ?_ ?_; rotate_left; (focus ((intro w hSw); (try dsimp only at hSw); go_simp; (try with_reducible rfl))); (try simp only [Act.put, List.setIfInBounds_toArray, List.set_cons_zero, List.set_cons_succ])); (refine held_yes (v := ?_) 11 rfl (by kernel_rfl) (by kernel_rfl) (by kernel_rfl) (fun _ _ _ h => h) (by rfl) (by assumption) ?_ ?_; rotate_left; (focus ((intro w hSw); (try dsimp only at hSw); go_simp; (try with_reducible rfl))); (try simp only [Act.put, List.setIfInBounds_toArray, List.set_cons_zero, List.set_cons_succ]))
      (refine held_call 12 rfl (by kernel_rfl) (fun K hK => ?_); go_simp)
      have HB3 : Below wk.heap.size wk (wk.alloc (.cells #[.int .u64 0] 206)) := (Below.refl _ _).alloc (Nat.le_refl _) _
      have HW3 := HW2.below HB3
      have HF3 := HF.out.below (HBk.trans (HB3.mono HBk.size))
      have HN3 : Blk (wk.alloc (.cells #[.int .u64 0] 206)) (w1.heap.size + 2 + n) #[.int .u64 0] := by rw [← hks]; exact Blk.new _ _ _
      have HG3 := Lib.hid (fun j hj => (HG.out j hj).below (HBk.trans (HB3.mono HBk.size)))
      have hk3 : (wk.alloc (.cells #[.int .u64 0] 206)).heap.size = w1.heap.size + 2 + (n + 1) := by simp; omega
      have HB4 := Lib.hid (HB.out.trans ((HBk.trans (HB3.mono HBk.size)).mono HB.out.size))
      generalize wk.alloc (.cells #[.int .u64 0] 206) = wm at *
      clear HB3 cf ff zf
      (refine hK.out _ _ (HF3.1) (fun hHeld => ?_); clear hK K; (try simp only [Act.put, List.setIfInBounds_toArray, List.set_cons_zero, List.set_cons_succ]))
      (refine held_yes (v := ?_) 13 rfl (by kernel_rfl) (by kernel_rfl) (by kernel_rfl) (fun _ _ _ h => h) (by rfl) (by assumption) ?_ ?_; rotate_left; (focus ((intro w hSw); (try dsimp only at hSw); go_simp; (try with_reducible rfl))); (try simp only [Act.put, List.setIfInBounds_toArray, List.set_cons_zero, List.set_cons_succ]))
      have cwn := HW3.1 n
      rw [arrOf_get, if_pos hlt, if_neg (Nat.lt_irrefl n)] at cwn
      have fwn := HW3.2.1 n
      (refine held_call 14 rfl (by kernel_rfl) (fun K hK => ?_); go_simp)
      have HW5 := HW3.put (o := n) (v := .slice (some ⟨w1.heap.size + 2 + n, 0, none⟩) 1 1) (by rw [arrOf_size]; exact hlt)
      rw [arrOf_set _ _ _ _ hlt] at HW5
      have e5 : (arrOf rows fun j => if j = n then Value.slice (some ⟨w1.heap.size + 2 + n, 0, none⟩) 1 1 else if j < n then Value.slice (some ⟨w1.heap.size + 2 + j, 0, none⟩) 1 1 else .slice none 0 0) = arrOf rows fun j => if j < n + 1 then Value.slice (some ⟨w1.heap.size + 2 + j, 0, none⟩) 1 1 else .slice none 0 0 := arrOf_congr (fun i _ => by
        by_cases h1 : i = n
        · subst h1; rw [if_pos rfl, if_pos (by omega)]
        · rw [if_neg h1]
          by_cases h2 : i < n
          · rw [if_pos h2, if_pos (by omega)]
          · rw [if_neg h2, if_neg (by omega)])
      rw [e5] at HW5
      have HF5 := HF3.far (g := w1.heap.size + 1) (o := n) (v := .slice (some ⟨w1.heap.size + 2 + n, 0, none⟩) 1 1) (by omega)
      have HG5 := Lib.hid (show ∀ j, j < n + 1 → Blk (wm.setCell ⟨w1.heap.size + 1, n, none⟩ (.slice (some ⟨w1.heap.size + 2 + n, 0, none⟩) 1 1)) (w1.heap.size + 2 + j) #[.int .u64 0] from fun j hj => by
        by_cases h1 : j = n
        · subst h1; exact HN3.far (by omega)
        · exact (HG3.out j (by omega)).far (by omega))
      have HB5 := Lib.hid (below_put (o := n) (v := .slice (some ⟨w1.heap.size + 2 + n, 0, none⟩) 1 1) HB4.out (show w1.heap.size ≤ w1.heap.size + 1 by omega))
      have hk5 : (wm.setCell ⟨w1.heap.size + 1, n, none⟩ (.slice (some ⟨w1.heap.size + 2 + n, 0, none⟩) 1 1)).heap.size = w1.heap.size + 2 + (n + 1) := by simpa using hk3
      generalize wm.setCell ⟨w1.heap.size + 1, n, none⟩ (.slice (some ⟨w1.heap.size + 2 + n, 0, none⟩) 1 1) = wn at *
      (refine hK.out _ _ (HF5.1) (fun hHeld => ?_); clear hK K; (try simp only [Act.put, List.setIfInBounds_toArray, List.set_cons_zero, List.set_cons_succ]))
      refine wpAnyH_done (by kernel_rfl) ?_ _
      have HW5 := Lib.hid HW5
      have HF5 := Lib.hid HF5
      clear HW3 HF3 HN3 HG3 HB4 cwn fwn hks hk3 HW2 HBk hHeld
      go_wp2_with fail
      exact ⟨⟨n + 1, by omega, by go_num, Lib.hid hk5, HB5, HF5, HW5, HG5⟩, by simp [intOf]; omega⟩
    · obtain rfl : n = rows := by omega
      have HWE := Lib.hid (show Blk wr (w1.heap.size + 1) (arrOf n (fun i => .slice (some ⟨w1.heap.size + 2 + i, 0, none⟩) 1 1)) by
        have e : (arrOf n fun j => if j < n then Value.slice (some ⟨w1.heap.size + 2 + j, 0, none⟩) 1 1 else .slice none 0 0) = arrOf n (fun i => .slice (some ⟨w1.heap.size + 2 + i, 0, none⟩) 1 1) := arrOf_congr (fun i hi => if_pos hi)
        rw [← e]; exact HW.out)
      clear HW hmk hmk1
      go_wp2
      go_ret
      exact ⟨w1.heap.size, w1.heap.size + 1, w1.heap.size + 2, rfl, ⟨HF.out, HWE.out, fun i hi => ⟨0, HG.out i hi, wrdOf.nil i⟩, by omega, by omega, c64, hr, (fun f hf => by cases hf), List.nodup_nil⟩, HB.out, Nat.le_refl _, by have := HS.out; omega⟩
end Go.Proofs.YtcmdhfccdkjenaaGreatDoor
namespace Go.Proofs.YtcmdhfccdkjenaaGreatDoor
open Go.RowKit Go.Shelf

theorem own_base {w : World} {base base' size n : Nat} {e : TypeId} {v : Value} {xs : List Value} (h : w.ownsRow base e size v n xs) (hb : base' ≤ base) : w.ownsRow base' e size v n xs := by
  obtain ⟨h1, h2⟩ := h
  refine ⟨h1, ?_⟩
  rcases h2 with h2 | ⟨g, cap, cur, rfl, h3, h4⟩
  · exact .inl h2
  · exact .inr ⟨g, cap, cur, rfl, Nat.le_trans hb h3, h4⟩
/-- slices.Clone of a row of texts. -/
theorem str_CloneO (v : Value) (l : List ByteArray) (w : World) (h : SlA w 1 v l.length (strs l)) (hl : l.length ≤ 100000) :
    Calls Tryz.prog 124 #[v] w fun e w' => ∃ v', e = .returned v' ∧ w'.ownsRow w.heap.size 9 1 v' l.length (strs l) ∧ Below w.heap.size w w' := by
  by_cases h0 : 0 < l.length
  · obtain ⟨b1, o1, c1, rfl, hc1, hm1, hb1, hx1⟩ := h.pos h0
    refine (Tryz.slices_Clone_string b1 o1 l.length c1 l w (Nat.le_refl _) (by omega) (fun j hj => by
      rw [hx1 j _ (strs_get hj), List.getD_eq_getElem?_getD, List.getElem?_eq_getElem hj]; rfl)).mono ?_
    rintro e w' ⟨v', he, hown, _, hb⟩
    rw [List.take_of_length_le (Nat.le_refl _)] at hown
    exact ⟨v', he, hown, hb⟩
  · obtain rfl : l = [] := List.eq_nil_of_length_eq_zero (by omega)
    obtain ⟨ao, ac, rfl⟩ := h.form
    cases ao with
    | none =>
      refine (Tryz.slices_Clone_string_nil _ ac w).mono ?_
      rintro e w' ⟨he, rfl⟩
      exact ⟨_, he, World.ownsRow_nil _ _ _ _, Below.refl _ _⟩
    | some a =>
      refine (Tryz.slices_Clone_string_zero a ac w).mono ?_
      rintro e w' ⟨v', he, hown, _, hb⟩
      exact ⟨v', he, hown, hb⟩
theorem rl_GrowO (n : Nat) (w : World) (hn : n ≤ 2000) : Calls Tryz.prog 215 #[.slice none 0 0, .int .i64 n] w fun e w' =>
    ∃ a cap, e = .returned (.slice a 0 cap) ∧ w'.ownsRow w.heap.size 28 2 (.slice a 0 cap) 0 [] ∧ Below w.heap.size w w' := by
  by_cases h0 : 0 < n
  · obtain ⟨inf, hinf, hz0, hz1, hz2⟩ := info_parts rl_info'
    refine (Any8.slices_Grow_grow Tryz.growR inf _ hinf hz0 (by omega) none 0 0 n [] w (Nat.le_refl _) (by omega) (by rw [hz2]; omega) (by omega) (by simp) (fun _ => rfl) (fun a h => by cases h)).mono ?_
    rintro e w' ⟨rfl, rfl⟩
    have hge := grownCap_ge w (0 + n) 0 28
    have hle := grownCap_le_maxLen w (0 + n) 0 28 (by simp only [maxLen]; omega)
    refine ⟨_, _, rfl, World.ownsRow_made w.drew _ _ (Nat.le_refl _) hle ?_, (below_drew (Below.refl _ _)).alloc (Nat.le_refl _) _⟩
    rw [Nat.zero_add] at hge hle ⊢
    simp [Builtin.zeroCells, Value.cells]
    rw [show Tryz.growR_ren.t 25 = 28 from rfl]
    omega
  · obtain rfl : n = 0 := by omega
    refine (Any8.slices_Grow_room Tryz.growR none 0 0 0 w (Nat.le_refl _) (by omega) (by omega) (by omega)).mono ?_
    rintro e w' ⟨rfl, rfl⟩
    exact ⟨_, _, rfl, World.ownsRow_nil _ _ _ _, Below.refl _ _⟩
set_option maxRecDepth 100000 in
set_option maxHeartbeats 4000000 in
/-- slices.Concat of two rows. -/
theorem rl_ConcatO (g : Nat) (va vb : Value) (l m : List Rl) (w : World) (hg : Blk w g #[va, vb]) (ha : SlA w 2 va l.length (l.flatMap Rl.cells)) (hb : SlA w 2 vb m.length (m.flatMap Rl.cells)) (hl : l.length ≤ 1000) (hm : m.length ≤ 1000) :
    Calls Tryz.prog 179 #[.slice (some ⟨g, 0, none⟩) 2 2] w fun e w' => ∃ v, e = .returned v ∧ w'.ownsRow w.heap.size 28 2 v (l ++ m).length ((l ++ m).flatMap Rl.cells) ∧ Below w.heap.size w w' := by
  have HA := Lib.hid ha
  have HB := Lib.hid hb
  have HG := Lib.hid hg
  obtain ⟨ao, ac, hva⟩ := ha.form
  obtain ⟨bo, bc, hvb⟩ := hb.form
  subst hva hvb
  have GR : Hid (∀ W, Calls Tryz.prog 215 #[.slice none 0 0, .int .i64 ((l.length : Int) + (m.length : Int))] W fun e w' =>
      ∃ a cap, e = .returned (.slice a 0 cap) ∧ w'.ownsRow W.heap.size 28 2 (.slice a 0 cap) 0 [] ∧ Below W.heap.size W w') := Lib.hid (fun W => by
    have h := rl_GrowO (l.length + m.length) W (by omega)
    rw [Int.natCast_add] at h
    exact h)
  have c0 : w.cell? ⟨g, 0, none⟩ = some (.slice ao l.length ac) := (hg.1 0).trans rfl
  have c1 : w.cell? ⟨g, 1, none⟩ = some (.slice bo m.length bc) := (hg.1 1).trans rfl
  have hgw : g < w.heap.size := hg.2.2
  clear ha hb hg
  go_enter Tryz.func179, Tryz.ntmps179
  go_wp2
  go_loop [3, 11] (fun n i => (n = .int .i64 0 ∧ i = .int .i64 0) ∨ (n = .int .i64 l.length ∧ i = .int .i64 1) ∨ (n = .int .i64 ((l.length : Int) + (m.length : Int)) ∧ i = .int .i64 2)) (fun _ i => 2 - (intOf i).toNat)
  case atStart => exact .inl ⟨rfl, rfl⟩
  case round =>
    obtain ⟨rfl, rfl⟩ | ⟨rfl, rfl⟩ | ⟨rfl, rfl⟩ := hrel
    · have d : decide ((l.length : Int) < 0) = false := by (rw [decide_eq_false_iff_not]; omega)
      have hw : IntKind.i64.wrap ((0 : Int) + (l.length : Int)) = (l.length : Int) := by rw [Int.zero_add]; exact Go.IntWalk.i64_in _ (by omega)
      go_wp2
      exact ⟨.inr (.inl ⟨rfl, rfl⟩), by simp [intOf]⟩
    · have d : decide ((l.length : Int) + (m.length : Int) < 0) = false := by (rw [decide_eq_false_iff_not]; omega)
      have hw : IntKind.i64.wrap ((l.length : Int) + (m.length : Int)) = (l.length : Int) + (m.length : Int) := Go.IntWalk.i64_in _ (by omega)
      go_wp2
      exact ⟨.inr (.inr ⟨rfl, rfl⟩), by simp [intOf]⟩
    · go_wp2_with fail
      refine (GR.out _).mono ?_
      rintro e w1 ⟨a1, cap1, rfl, hown, hb1⟩
      have HO := Lib.hid hown
      have HB1 := Lib.hid hb1
      clear hown hb1 c0 c1 hgw
      go_wp2_with fail
      go_loopw [6, 27] (fun vo i wr => Hid (Below w.heap.size w wr) ∧ ((i = .int .i64 0 ∧ Hid (wr.ownsRow w.heap.size 28 2 vo 0 [])) ∨ (i = .int .i64 1 ∧ Hid (wr.ownsRow w.heap.size 28 2 vo l.length (l.flatMap Rl.cells))) ∨ (i = .int .i64 2 ∧ Hid (wr.ownsRow w.heap.size 28 2 vo (l.length + m.length) ((l ++ m).flatMap Rl.cells))))) (fun _ i _ => 2 - (intOf i).toNat)
      case atStart => exact ⟨HB1, .inl ⟨rfl, HO⟩⟩
      case round =>
        obtain ⟨HBR, ⟨rfl, HOR⟩ | ⟨rfl, HOR⟩ | ⟨rfl, HOR⟩⟩ := hrel
        · have hbk := HG.out.below HBR.out
          have c0 : wr.cell? ⟨g, 0, none⟩ = some (.slice ao l.length ac) := (hbk.1 0).trans rfl
          have hgw : g < wr.heap.size := hbk.2.2
          obtain ⟨xo, xc, rfl⟩ := own_form HOR.out
          clear hbk
          go_wp2_with (at_builtin; refine halt_ ?_)
          unfold Halt_
          refine app_row Tryz.underlying23 rl_info' rfl (by decide) (by decide) rfl _ _ rfl w.heap.size rfl HOR.out rfl (HA.out.below HBR.out) (rls_one _) (by omega) HBR.out.size ?_
          intro a' cap' w3 hown' hgrow
          have HO3 := Lib.hid (show w3.ownsRow w.heap.size 28 2 (.slice a' l.length cap') l.length (l.flatMap Rl.cells) by simpa using hown')
          have HB3 := Lib.hid (below_own HBR.out HOR.out hgrow HBR.out.size (Nat.le_refl _))
          clear hown' hgrow
          go_wp2_with fail
          exact ⟨⟨HB3, .inr (.inl ⟨rfl, HO3⟩)⟩, by simp [intOf]⟩
        · have hbk := HG.out.below HBR.out
          have c1 : wr.cell? ⟨g, 1, none⟩ = some (.slice bo m.length bc) := (hbk.1 1).trans rfl
          have hgw : g < wr.heap.size := hbk.2.2
          obtain ⟨xo, xc, rfl⟩ := own_form HOR.out
          clear hbk
          go_wp2_with (at_builtin; refine halt_ ?_)
          unfold Halt_
          refine app_row Tryz.underlying23 rl_info' rfl (by decide) (by decide) rfl _ _ rfl w.heap.size rfl HOR.out rfl (HB.out.below HBR.out) (rls_one _) (by omega) HBR.out.size ?_
          intro a' cap' w3 hown' hgrow
          have HO3 := Lib.hid (show w3.ownsRow w.heap.size 28 2 (.slice a' (l.length + m.length) cap') (l.length + m.length) ((l ++ m).flatMap Rl.cells) by rw [rl_flat]; exact hown')
          have HB3 := Lib.hid (below_own HBR.out HOR.out hgrow HBR.out.size (Nat.le_refl _))
          clear hown' hgrow
          go_wp2_with fail
          exact ⟨⟨HB3, .inr (.inr ⟨rfl, HO3⟩)⟩, by simp [intOf]⟩
        · obtain ⟨xo, xc, rfl⟩ := own_form HOR.out
          go_wp2_with fail
          go_ret
          exact ⟨_, rfl, by rw [List.length_append]; exact HOR.out, HBR.out⟩
end Go.Proofs.YtcmdhfccdkjenaaGreatDoor
namespace Go.Proofs.YtcmdhfccdkjenaaGreatDoor
open Go.RowKit Go.Shelf

theorem query_second (k : Int) (w : World) : Calls Tryz.prog 159 #[.int .i64 k] w fun e w' => e = .returned (.bool (decide (k = 5 ∨ k = 6))) ∧ w' = w := by
  by_cases h5 : k = 5
  · subst h5
    go_enter Tryz.func159, Tryz.ntmps159
    go_wp2
    go_ret
    exact ⟨rfl, rfl⟩
  · by_cases h6 : k = 6
    · subst h6
      go_enter Tryz.func159, Tryz.ntmps159
      go_wp2
      go_ret
      exact ⟨rfl, rfl⟩
    · have hd := Lib.hid (show decide (k = 5 ∨ k = 6) = false from decide_eq_false (fun h => h.elim h5 h6))
      have d5 : (k == 5) = false := by rw [beq_eq_false_iff_ne]; exact h5
      have d6 : (k == 6) = false := by rw [beq_eq_false_iff_ne]; exact h6
      go_enter Tryz.func159, Tryz.ntmps159
      go_wp2
      go_ret
      exact ⟨by rw [hd.out]; rfl, rfl⟩
theorem query_Roles (q : Qv) (w : World) :
    Calls Tryz.prog 208 #[qv q] w fun e w' => ∃ v, e = .returned v ∧ Sl w' 2 v (rolesQ q).length ((rolesQ q).flatMap Rl.cells) ∧ Below w.heap.size w w' := by
  have SE := Lib.hid (fun W => query_second q.k W)
  have RY := Lib.hid (fun (h : q.k = 5 ∨ q.k = 6) => show rolesQ q = [q.a, q.b] from if_pos h)
  have RN := Lib.hid (fun (h : ¬ (q.k = 5 ∨ q.k = 6)) => show rolesQ q = [q.a] from if_neg h)
  obtain ⟨k, ⟨a1, a2⟩, ⟨b1, b2⟩, v⟩ := q
  by_cases hk : k = 5 ∨ k = 6
  · have hd : decide (k = 5 ∨ k = 6) = true := decide_eq_true hk
    rw [hd] at SE
    rw [RY.out hk]
    clear RY RN hk hd
    go_enter Tryz.func208, Tryz.ntmps208
    go_wp2_with fail
    refine (SE.out _).mono ?_
    rintro e w1 ⟨rfl, rfl⟩
    go_wp2
    go_ret
    exact ⟨.slice (some ⟨w.heap.size + 1, 0, none⟩) 2 2, rfl, Sl.new _ [.string a1, .string a2, .string b1, .string b2] _ 2 2 (w.heap.size + 1) (by simp) rfl (by simp [maxLen]), ((Below.refl _ _).alloc (Nat.le_refl _) _).alloc (by simp) _⟩
  · have hd : decide (k = 5 ∨ k = 6) = false := decide_eq_false hk
    rw [hd] at SE
    rw [RN.out hk]
    clear RY RN hk hd
    go_enter Tryz.func208, Tryz.ntmps208
    go_wp2_with fail
    refine (SE.out _).mono ?_
    rintro e w1 ⟨rfl, rfl⟩
    go_wp2
    go_ret
    exact ⟨.slice (some ⟨w.heap.size + 1, 0, none⟩) 1 1, rfl, Sl.new _ [.string a1, .string a2] _ 2 1 (w.heap.size + 1) (by simp) rfl (by simp [maxLen]), ((Below.refl _ _).alloc (Nat.le_refl _) _).alloc (by simp) _⟩

/-- All roles that a policy has, as the program lists them. -/
def polRoles (l : List St) (g h : List Rl) (qs : List Qv) : List Rl := g ++ h ++ l.flatMap rolesS ++ qs.flatMap rolesQ
theorem rolesS_len (s : St) : (rolesS s).length ≤ 3 := by
  unfold rolesS
  split
  · simp
  · split <;> simp
theorem rolesQ_len (q : Qv) : (rolesQ q).length ≤ 2 := by
  unfold rolesQ
  split <;> simp
theorem push_roles {w wr w3 : World} {A : Array Value} {vo : Value} {n m : Nat} {rs ms : List Rl} {a' : Option Addr} {cap' : Nat} (ht : OneAt w A wr) (hown : wr.ownsRow (w.heap.size + 1) 28 2 vo n (rs.flatMap Rl.cells))
    (h : w3.ownsRow (w.heap.size + 1) 28 2 (.slice a' (n + m) cap') (n + m) (rs.flatMap Rl.cells ++ ms.flatMap Rl.cells)) (hg : wr.grownBy w3 vo.ownBlock) :
    w3.ownsRow (w.heap.size + 1) 28 2 (.slice a' (n + m) cap') (n + m) ((rs ++ ms).flatMap Rl.cells) ∧ OneAt w A w3 := by
  refine ⟨by rw [rl_flat]; exact h, ht.a.grown hg (own_gt_ne hown (Nat.lt_succ_self _)), ?_⟩
  exact below_own ht.low hown hg (by have := ht.low.size; omega) (Nat.le_succ _)
set_option maxRecDepth 100000 in
set_option maxHeartbeats 8000000 in
theorem policy_roles (v0 v1 v2 v3 : Value) (l : List St) (g h : List Rl) (qs : List Qv) (w : World) (hp : PolAt w v0 v1 v2 v3 l g h qs) (hl : l.length ≤ 100) (hg : g.length ≤ 100) (hh : h.length ≤ 100) (hq : qs.length ≤ 100) :
    Calls Tryz.prog 168 #[pv v0 v1 v2 v3] w fun e w' => ∃ v, e = .returned v ∧ SlA w' 2 v (polRoles l g h qs).length ((polRoles l g h qs).flatMap Rl.cells) ∧ (polRoles l g h qs).length ≤ 1000 ∧ Below w.heap.size w w' := by
  have HP := Lib.hid hp
  have CO := Lib.hid (fun b W (hb : Below w.heap.size w W) (hx : Blk W b #[v1, v2]) => rl_ConcatO b v1 v2 g h W hx (hp.rg.below hb) (hp.rh.below hb) (by omega) (by omega))
  obtain ⟨a0, c0, rfl⟩ := hp.rs.form
  obtain ⟨a1, c1, rfl⟩ := hp.rg.form
  obtain ⟨a2, c2, rfl⟩ := hp.rh.form
  obtain ⟨a3, c3, rfl⟩ := hp.rq.form
  have HT := Lib.hid (show OneAt w #[.slice a0 l.length c0, .slice a1 g.length c1, .slice a2 h.length c2, .slice a3 qs.length c3] (w.alloc (.cells #[.slice a0 l.length c0, .slice a1 g.length c1, .slice a2 h.length c2, .slice a3 qs.length c3] 26)) from ⟨Blk.new w _ _, (Below.refl _ _).alloc (Nat.le_refl _) _⟩)
  clear hp
  go_enter Tryz.func168, Tryz.ntmps168
  go_wp2_with fail
  refine (CO.out (w.heap.size + 1) _ (((Below.refl _ _).alloc (Nat.le_refl _) _).alloc (by simp) _) (by have := Blk.new (w.alloc (.cells #[.slice a0 l.length c0, .slice a1 g.length c1, .slice a2 h.length c2, .slice a3 qs.length c3] 26)) #[.slice a1 g.length c1, .slice a2 h.length c2] 23; simpa using this)).mono ?_
  rintro e w1 ⟨vo, rfl, hown, hb⟩
  obtain ⟨r0, hr0⟩ : ∃ r, r = g ++ h := ⟨_, rfl⟩
  rw [← hr0] at hown
  have HT := Lib.hid ((HT.out.alloc _).later hb)
  have HO := Lib.hid (own_base (base' := w.heap.size + 1) hown (by simp))
  obtain ⟨oo, oc, rfl⟩ := own_form hown
  clear hown hb CO
  have hn0 : r0.length ≤ 200 + 3 * 0 := by rw [hr0, List.length_append]; omega
  have HE0 := Lib.hid hr0
  clear hr0
  obtain ⟨ca, fa, za⟩ := HT.out.a
  go_wp2_with fail
  clear ca fa za
  go_loopw [3, 17] (fun vo i wr => ∃ (k : Nat) (rs : List Rl), k ≤ l.length ∧ i = .int .i64 k ∧ Hid (rs.length ≤ 200 + 3 * k) ∧ Hid (OneAt w #[.slice a0 l.length c0, .slice a1 g.length c1, .slice a2 h.length c2, .slice a3 qs.length c3] wr) ∧ Hid (wr.ownsRow (w.heap.size + 1) 28 2 vo rs.length (rs.flatMap Rl.cells)) ∧ Hid (rs = g ++ h ++ (l.take k).flatMap rolesS)) (fun _ i _ => l.length - (intOf i).toNat)
  case atStart => exact ⟨0, _, by omega, rfl, Lib.hid hn0, HT, HO, Lib.hid (by rw [HE0.out]; simp)⟩
  case round =>
    clear HT HO hn0 HE0
    obtain ⟨k, rs, hk, rfl, HC, HT, HO, HE⟩ := hrel
    obtain ⟨oo, oc, rfl⟩ := own_form HO.out
    have hrs := HC.out
    by_cases hlt : k < l.length
    · obtain ⟨b1, o1, e1, he1, hc1, hm1', hb1, hx1⟩ := HP.out.rs.pos (by omega)
      simp only [Value.slice.injEq, true_and] at he1
      obtain ⟨rfl, rfl⟩ := he1
      obtain ⟨p0, p1, p2, p3, p4, p5, p6, p7, p8⟩ := st_cell (w := wr) (fun j u hu => (HT.out.low.cell (p := ⟨b1, o1 + j, none⟩) hb1).trans (hx1 j u hu)) k hlt
      have hbr : b1 < wr.heap.size := Nat.lt_of_lt_of_le hb1 HT.out.low.size
      have HF := Lib.hid (flat_snocF rolesS hlt)
      have SR := Lib.hid (fun W => syn_Roles l[k] W)
      have hms := rolesS_len l[k]
      clear hx1
      generalize l[k] = x at *
      obtain ⟨xk, ⟨x1, x2⟩, xw, ⟨x3, x4⟩, ⟨x5, x6⟩, xv⟩ := x
      generalize rolesS ⟨xk, ⟨x1, x2⟩, xw, ⟨x3, x4⟩, ⟨x5, x6⟩, xv⟩ = ms at SR HF hms
      go_wp2_with fail
      refine (SR.out _).mono ?_
      rintro e w3 ⟨vz, rfl, hz, hb⟩
      have HT3 := Lib.hid ((HT.out.alloc _).later hb)
      have HO3 := Lib.hid (own_below (HO.out.alloc _) hb)
      obtain ⟨zo, zc, rfl⟩ := hz.form
      have HZ := Lib.hid hz
      clear hz hb SR
      go_wp2_with (at_builtin; refine halt_ ?_)
      unfold Halt_
      refine app_row Tryz.underlying23 rl_info' rfl (by decide) (by decide) rfl _ _ rfl (w.heap.size + 1) rfl HO3.out rfl HZ.out.a (rls_one _) (by omega) (by have := HT3.out.a.2.2; omega) ?_
      intro a' cap' w4 hown' hgrow
      obtain ⟨q1, q2⟩ := push_roles HT3.out HO3.out hown' hgrow
      have HO4 := Lib.hid (show w4.ownsRow (w.heap.size + 1) 28 2 (.slice a' (rs.length + ms.length) cap') (rs ++ ms).length ((rs ++ ms).flatMap Rl.cells) by rw [List.length_append]; exact q1)
      have HT4 := Lib.hid q2
      clear hown' hgrow q1 q2 HO3 HT3 HZ
      go_wp2_with fail
      exact ⟨⟨k + 1, rs ++ ms, by omega, by go_num, Lib.hid (by rw [List.length_append]; omega), HT4, HO4, Lib.hid (by rw [HF.out, HE.out]; simp only [List.append_assoc])⟩, by simp [intOf]; omega⟩
    · obtain ⟨ca, fa, za⟩ := HT.out.a
      have hn0 : rs.length ≤ 500 + 2 * 0 := by omega
      have HE0 := Lib.hid (show rs = g ++ h ++ l.flatMap rolesS by rw [HE.out, List.take_of_length_le (show l.length ≤ k by omega)])
      clear hrs HC hk HE
      go_wp2_with fail
      clear ca fa za
      go_loopw [3, 29] (fun vo i wr => ∃ (k : Nat) (rs : List Rl), k ≤ qs.length ∧ i = .int .i64 k ∧ Hid (rs.length ≤ 500 + 2 * k) ∧ Hid (OneAt w #[.slice a0 l.length c0, .slice a1 g.length c1, .slice a2 h.length c2, .slice a3 qs.length c3] wr) ∧ Hid (wr.ownsRow (w.heap.size + 1) 28 2 vo rs.length (rs.flatMap Rl.cells)) ∧ Hid (rs = g ++ h ++ l.flatMap rolesS ++ (qs.take k).flatMap rolesQ)) (fun _ i _ => qs.length - (intOf i).toNat)
      case atStart => exact ⟨0, _, by omega, rfl, Lib.hid hn0, HT, HO, Lib.hid (by rw [HE0.out]; simp)⟩
      case round =>
        clear HT HO hn0 HE0
        obtain ⟨k, rs, hk, rfl, HC, HT, HO, HE⟩ := hrel
        obtain ⟨oo, oc, rfl⟩ := own_form HO.out
        have hrs := HC.out
        by_cases hlt : k < qs.length
        · obtain ⟨b1, o1, e1, he1, hc1, hm1', hb1, hx1⟩ := HP.out.rq.pos (by omega)
          simp only [Value.slice.injEq, true_and] at he1
          obtain ⟨rfl, rfl⟩ := he1
          obtain ⟨p0, p1, p2, p3, p4, p5⟩ := q_cell (w := wr) (fun j u hu => (HT.out.low.cell (p := ⟨b1, o1 + j, none⟩) hb1).trans (hx1 j u hu)) k hlt
          have hbr : b1 < wr.heap.size := Nat.lt_of_lt_of_le hb1 HT.out.low.size
          have HF := Lib.hid (flat_snocF rolesQ hlt)
          have SR := Lib.hid (fun W => query_Roles qs[k] W)
          have hms := rolesQ_len qs[k]
          have hqo := HP.out.lq _ (List.getElem_mem hlt)
          obtain ⟨wo, wc, hw5⟩ : ∃ a c, qs[k].w = .slice a ((hqo.2.2).choose).length c := ((hqo.2.2).choose_spec.1).form
          generalize (hqo.2.2).choose.length = nw at hw5
          clear hx1 hqo
          generalize qs[k] = x at *
          obtain ⟨xk, ⟨x1, x2⟩, ⟨x3, x4⟩, xw⟩ := x
          dsimp only at hw5
          subst hw5
          generalize rolesQ ⟨xk, ⟨x1, x2⟩, ⟨x3, x4⟩, .slice wo nw wc⟩ = ms at SR HF hms
          go_wp2_with fail
          refine (SR.out _).mono ?_
          rintro e w3 ⟨vz, rfl, hz, hb⟩
          have HT3 := Lib.hid ((HT.out.alloc _).later hb)
          have HO3 := Lib.hid (own_below (HO.out.alloc _) hb)
          obtain ⟨zo, zc, rfl⟩ := hz.form
          have HZ := Lib.hid hz
          clear hz hb SR
          go_wp2_with (at_builtin; refine halt_ ?_)
          unfold Halt_
          refine app_row Tryz.underlying23 rl_info' rfl (by decide) (by decide) rfl _ _ rfl (w.heap.size + 1) rfl HO3.out rfl HZ.out.a (rls_one _) (by omega) (by have := HT3.out.a.2.2; omega) ?_
          intro a' cap' w4 hown' hgrow
          obtain ⟨q1, q2⟩ := push_roles HT3.out HO3.out hown' hgrow
          have HO4 := Lib.hid (show w4.ownsRow (w.heap.size + 1) 28 2 (.slice a' (rs.length + ms.length) cap') (rs ++ ms).length ((rs ++ ms).flatMap Rl.cells) by rw [List.length_append]; exact q1)
          have HT4 := Lib.hid q2
          clear hown' hgrow q1 q2 HO3 HT3 HZ
          go_wp2_with fail
          exact ⟨⟨k + 1, rs ++ ms, by omega, by go_num, Lib.hid (by rw [List.length_append]; omega), HT4, HO4, Lib.hid (by rw [HF.out, HE.out]; simp only [List.append_assoc])⟩, by simp [intOf]; omega⟩
        · have HA := Lib.hid (show rs = polRoles l g h qs by rw [HE.out, List.take_of_length_le (show qs.length ≤ k by omega)]; rfl)
          have HSL := Lib.hid (Sl.of_own HO.out).a
          go_wp2
          go_ret
          exact ⟨_, rfl, by rw [← HA.out]; exact HSL.out, by rw [← HA.out]; omega, HT.out.low⟩
end Go.Proofs.YtcmdhfccdkjenaaGreatDoor
namespace Go.Proofs.YtcmdhfccdkjenaaGreatDoor
open Go.RowKit Go.Shelf

theorem tab_All (b : Nat) (l : List ByteArray) (w : World) (h : TabAt w b l) (hl : l.length ≤ 100000) :
    Calls Tryz.prog 170 #[.pointer (some ⟨b, 0, none⟩)] w fun e w' => ∃ v, e = .returned v ∧ w'.ownsRow w.heap.size 9 1 v l.length (strs l) ∧ Below w.heap.size w w' := by
  obtain ⟨v, h1, h2, h3⟩ := h
  have CL := Lib.hid (str_CloneO v l w h2.a hl)
  obtain ⟨a, c, rfl⟩ := h2.form
  clear h2
  go_enter Tryz.func170, Tryz.ntmps170
  go_wp2_with fail
  refine CL.out.mono ?_
  rintro e w1 ⟨v1, rfl, ho, hb⟩
  have HO := Lib.hid ho
  have HB := Lib.hid hb
  clear ho hb CL h1 h3
  go_wp2
  go_ret
  exact ⟨_, rfl, HO.out, HB.out⟩
theorem query_Prins (q : Qv) (us : List ByteArray) (w : World) (h : SlA w 1 q.w us.length (strs us)) (hl : us.length ≤ 100000) :
    Calls Tryz.prog 169 #[qv q] w fun e w' => ∃ v, e = .returned v ∧ SlA w' 1 v us.length (strs us) ∧ Below w.heap.size w w' := by
  have CL := Lib.hid (fun W (hb : Below w.heap.size w W) => str_CloneO q.w us W (h.below hb) hl)
  obtain ⟨a, c, hw⟩ := h.form
  obtain ⟨xk, ⟨x1, x2⟩, ⟨x3, x4⟩, xw⟩ := q
  dsimp only at hw CL
  subst hw
  have HB0 := Lib.hid (show Below w.heap.size w (w.alloc (.cells #[.int .i64 xk, .string x1, .string x2, .string x3, .string x4, .slice a us.length c] 45)) from (Below.refl _ _).alloc (Nat.le_refl _) _)
  clear h
  go_enter Tryz.func169, Tryz.ntmps169
  go_wp2_with fail
  refine (CL.out _ HB0.out).mono ?_
  rintro e w1 ⟨v1, rfl, ho, hb⟩
  have HO := Lib.hid (Sl.of_own ho).a
  have HB := Lib.hid (HB0.out.trans (hb.mono HB0.out.size))
  clear ho hb CL
  go_wp2
  go_ret
  exact ⟨_, rfl, HO.out, HB.out⟩
theorem new_congr {l m : List ByteArray} (h : ∀ x, x ∈ l ↔ x ∈ m) : newB l = newB m :=
  asc_uniqueB _ _ (new_asc l) (new_asc m) (fun x => by rw [new_mem, new_mem]; exact h x)
theorem roles_mem (l : List St) (g h : List Rl) (qs : List Qv) (x : Rl) : x ∈ polRoles l g h qs ↔ x ∈ allRoles l g h qs := by
  unfold polRoles allRoles
  simp only [List.mem_append]
  constructor
  · rintro (((h1 | h1) | h1) | h1)
    · exact .inl (.inl (.inr h1))
    · exact .inl (.inr h1)
    · exact .inl (.inl (.inl h1))
    · exact .inr h1
  · rintro (((h1 | h1) | h1) | h1)
    · exact .inl (.inr h1)
    · exact .inl (.inl (.inl h1))
    · exact .inl (.inl (.inr h1))
    · exact .inr h1
theorem prins_congr (l : List St) (g h : List Rl) (qs : List Qv) (F : Qv → List ByteArray) : newB ((polRoles l g h qs).map Rl.o ++ l.flatMap whoS ++ qs.flatMap F) = newB (allPrins l g h qs F) :=
  new_congr (fun x => by unfold allPrins; simp only [List.mem_append, List.mem_map, roles_mem])
theorem names_congr (l : List St) (g h : List Rl) (qs : List Qv) : newB ((polRoles l g h qs).map Rl.n ++ l.flatMap viaS) = newB (allNames l g h qs) :=
  new_congr (fun x => by unfold allNames; simp only [List.mem_append, List.mem_map, roles_mem])
theorem push_txts {wA wr w3 : World} {vo : Value} {n m : Nat} {xs ms : List ByteArray} {a' : Option Addr} {cap' : Nat} (hb : Below wA.heap.size wA wr) (hown : wr.ownsRow wA.heap.size 9 1 vo n (strs xs))
    (h : w3.ownsRow wA.heap.size 9 1 (.slice a' (n + m) cap') (n + m) (strs xs ++ strs ms)) (hg : wr.grownBy w3 vo.ownBlock) :
    w3.ownsRow wA.heap.size 9 1 (.slice a' (n + m) cap') (n + m) (strs (xs ++ ms)) ∧ Below wA.heap.size wA w3 :=
  ⟨by rw [strs_app]; exact h, below_own hb hown hg hb.size (Nat.le_refl _)⟩
set_option maxRecDepth 100000 in
set_option maxHeartbeats 8000000 in
theorem policy_Prins (v0 v1 v2 v3 : Value) (l : List St) (g h : List Rl) (qs : List Qv) (w : World) (hp : PolAt w v0 v1 v2 v3 l g h qs) (hl : l.length ≤ 100) (hg : g.length ≤ 100) (hh : h.length ≤ 100) (hq : qs.length ≤ 100) (F : Qv → List ByteArray) (hF : WhoF w qs F) :
    Calls Tryz.prog 114 #[pv v0 v1 v2 v3] w fun e w' => ∃ v, e = .returned v ∧ w'.ownsRow w.heap.size 9 1 v (newB (allPrins l g h qs F)).length (strs (newB (allPrins l g h qs F))) ∧ (newB (allPrins l g h qs F)).length ≤ 6000 ∧ Below w.heap.size w w' := by
  have HP := Lib.hid hp
  have RO := Lib.hid (fun W (hb : Below w.heap.size w W) => policy_roles v0 v1 v2 v3 l g h qs W (hp.below hb) hl hg hh hq)
  have HFF := Lib.hid hF
  have RES := Lib.hid (prins_congr l g h qs F)
  obtain ⟨a0, c0, rfl⟩ := hp.rs.form
  obtain ⟨a1, c1, rfl⟩ := hp.rg.form
  obtain ⟨a2, c2, rfl⟩ := hp.rh.form
  obtain ⟨a3, c3, rfl⟩ := hp.rq.form
  have HT := Lib.hid (show OneAt w #[.slice a0 l.length c0, .slice a1 g.length c1, .slice a2 h.length c2, .slice a3 qs.length c3] (w.alloc (.cells #[.slice a0 l.length c0, .slice a1 g.length c1, .slice a2 h.length c2, .slice a3 qs.length c3] 26)) from ⟨Blk.new w _ _, (Below.refl _ _).alloc (Nat.le_refl _) _⟩)
  clear hp hF
  generalize polRoles l g h qs = rs at RO RES
  go_enter Tryz.func114, Tryz.ntmps114
  go_wp2_with fail
  refine (RO.out _ HT.out.low).mono ?_
  rintro e w1 ⟨vr, rfl, hr, hrl, hb⟩
  have HT := Lib.hid (HT.out.later hb)
  have HR := Lib.hid hr
  obtain ⟨ro, rc, rfl⟩ := hr.form
  clear hb hr RO
  obtain ⟨wA, hwA⟩ : ∃ wA, wA = w1 := ⟨_, rfl⟩
  subst hwA
  have HTA := Lib.hid HT.out
  go_wp2_with fail
  go_loopw [3, 13] (fun vo i wr => ∃ (k : Nat) (xs : List ByteArray), k ≤ rs.length ∧ i = .int .i64 k ∧ Hid (xs.length ≤ k) ∧ Hid (Below wA.heap.size wA wr) ∧ Hid (wr.ownsRow wA.heap.size 9 1 vo xs.length (strs xs)) ∧ Hid (xs = (rs.take k).map Rl.o)) (fun _ i _ => rs.length - (intOf i).toNat)
  case atStart => exact ⟨0, [], by omega, rfl, Lib.hid (by simp), Lib.hid (Below.refl _ _), Lib.hid (World.ownsRow_nil _ _ _ _), Lib.hid (by simp)⟩
  case round =>
    obtain ⟨k, xs, hk, rfl, HC, HB, HO, HE⟩ := hrel
    obtain ⟨oo, oc, rfl⟩ := own_form HO.out
    have hxs := HC.out
    by_cases hlt : k < rs.length
    · obtain ⟨b1, o1, e1, he1, hc1, hm1', hb1, hx1⟩ := HR.out.pos (by omega)
      simp only [Value.slice.injEq, true_and] at he1
      obtain ⟨rfl, rfl⟩ := he1
      obtain ⟨p0, p1⟩ := rl_cell (w := wr) (fun j u hu => (HB.out.cell (p := ⟨b1, o1 + j, none⟩) hb1).trans (hx1 j u hu)) k hlt
      have hbr : b1 < wr.heap.size := Nat.lt_of_lt_of_le hb1 HB.out.size
      have HF := Lib.hid (take_snoc hlt)
      clear hx1
      generalize rs[k] = x at *
      obtain ⟨x1, x2⟩ := x
      have hown := HO.out
      go_wp2_with (at_builtin; refine halt_ ?_)
      unfold Halt_
      refine app_own Tryz.underlying38 str_info rfl (by decide) (by decide) rfl _ _ rfl wA.heap.size rfl ((hown.alloc _).alloc _) [.string x1] rfl (heap_new2 _ _ _) rfl (str1 _) ?_ ?_ ?_
      · omega
      · have := HB.out.size; simp; omega
      intro a' cap' w3 hown' hgrow
      obtain ⟨q1, q2⟩ := own_push (x := x1) (HB.out.alloc HB.out.size _) (hown.alloc _) hown' hgrow
      have HO1 := Lib.hid q1
      have HB1 := Lib.hid q2
      clear hown hown' hgrow q1 q2
      go_wp2_with fail
      exact ⟨⟨k + 1, xs ++ [x1], by omega, by go_num, Lib.hid (by rw [List.length_append]; exact Nat.succ_le_succ hxs), HB1, HO1, Lib.hid (by rw [HF.out, List.map_append, HE.out]; rfl)⟩, by simp [intOf]; omega⟩
    · have HT := Lib.hid (HT.out.later HB.out)
      have hn0 : xs.length ≤ 1000 + 0 := by omega
      have HE0 := Lib.hid (show xs = rs.map Rl.o by rw [HE.out, List.take_of_length_le (show rs.length ≤ k by omega)])
      obtain ⟨ca, fa, za⟩ := HT.out.a
      clear hxs HC hk HE HR
      go_wp2_with fail
      clear ca fa za
      go_loopw [3, 26] (fun vo i wr => ∃ (k : Nat) (xs : List ByteArray), k ≤ l.length ∧ i = .int .i64 k ∧ Hid (xs.length ≤ 1000 + k) ∧ Hid (Below wA.heap.size wA wr) ∧ Hid (wr.ownsRow wA.heap.size 9 1 vo xs.length (strs xs)) ∧ Hid (xs = rs.map Rl.o ++ (l.take k).flatMap whoS)) (fun _ i _ => l.length - (intOf i).toNat)
      case atStart => exact ⟨0, _, by omega, rfl, Lib.hid hn0, HB, HO, Lib.hid (by rw [HE0.out]; simp)⟩
      case round =>
        clear HB HO hn0 HE0 HT
        obtain ⟨k, xs, hk, rfl, HC, HB, HO, HE⟩ := hrel
        obtain ⟨oo, oc, rfl⟩ := own_form HO.out
        have hxs := HC.out
        by_cases hlt : k < l.length
        · obtain ⟨b1, o1, e1, he1, hc1, hm1', hb1, hx1⟩ := HP.out.rs.pos (by omega)
          simp only [Value.slice.injEq, true_and] at he1
          obtain ⟨rfl, rfl⟩ := he1
          have hlow := HTA.out.low.trans (HB.out.mono HTA.out.low.size)
          obtain ⟨p0, p1, p2, p3, p4, p5, p6, p7, p8⟩ := st_cell (w := wr) (fun j u hu => (hlow.cell (p := ⟨b1, o1 + j, none⟩) hb1).trans (hx1 j u hu)) k hlt
          have hbr : b1 < wr.heap.size := Nat.lt_of_lt_of_le hb1 hlow.size
          have HF := Lib.hid (flat_snocF whoS hlt)
          clear hx1 hlow
          generalize l[k] = x at *
          obtain ⟨xk, ⟨x1, x2⟩, xw, ⟨x3, x4⟩, ⟨x5, x6⟩, xv⟩ := x
          by_cases hkk : xk = 1
          · have d1 : (xk == 1) = true := by simp [hkk]
            have HK := Lib.hid (show whoS ⟨xk, ⟨x1, x2⟩, xw, ⟨x3, x4⟩, ⟨x5, x6⟩, xv⟩ = [xw] from if_pos hkk)
            clear hkk
            have hown := HO.out
            go_wp2_with (at_builtin; refine halt_ ?_)
            unfold Halt_
            refine app_own Tryz.underlying38 str_info rfl (by decide) (by decide) rfl _ _ rfl wA.heap.size rfl ((hown.alloc _).alloc _) [.string xw] rfl (heap_new2 _ _ _) rfl (str1 _) ?_ ?_ ?_
            · omega
            · have := HB.out.size; simp; omega
            intro a' cap' w3 hown' hgrow
            obtain ⟨q1, q2⟩ := own_push (x := xw) (HB.out.alloc HB.out.size _) (hown.alloc _) hown' hgrow
            have HO1 := Lib.hid q1
            have HB1 := Lib.hid q2
            clear hown hown' hgrow q1 q2
            go_wp2_with fail
            exact ⟨⟨k + 1, xs ++ [xw], by omega, by go_num, Lib.hid (by rw [List.length_append]; exact Nat.succ_le_succ hxs), HB1, HO1, Lib.hid (by rw [HF.out, HK.out, HE.out, List.append_assoc])⟩, by simp [intOf]; omega⟩
          · have d1 : (xk == 1) = false := by simp [hkk]
            have HK := Lib.hid (show whoS ⟨xk, ⟨x1, x2⟩, xw, ⟨x3, x4⟩, ⟨x5, x6⟩, xv⟩ = [] from if_neg hkk)
            clear hkk
            have HO1 := Lib.hid (HO.out.alloc (.cells #[.int .i64 xk, .string x1, .string x2, .string xw, .string x3, .string x4, .string x5, .string x6, .string xv] 35))
            have HB1 := Lib.hid (HB.out.alloc HB.out.size (.cells #[.int .i64 xk, .string x1, .string x2, .string xw, .string x3, .string x4, .string x5, .string x6, .string xv] 35))
            go_wp2_with fail
            exact ⟨⟨k + 1, xs, by omega, by go_num, Lib.hid (by omega), HB1, HO1, Lib.hid (by rw [HF.out, HK.out, HE.out, List.append_nil])⟩, by simp [intOf]; omega⟩
        · have HT := Lib.hid (HTA.out.later HB.out)
          have hn0 : xs.length ≤ 1100 + 40 * 0 := by omega
          have HE0 := Lib.hid (show xs = rs.map Rl.o ++ l.flatMap whoS by rw [HE.out, List.take_of_length_le (show l.length ≤ k by omega)])
          obtain ⟨ca, fa, za⟩ := HT.out.a
          clear hxs HC hk HE
          go_wp2_with fail
          clear ca fa za
          go_loopw [3, 42] (fun vo i wr => ∃ (k : Nat) (xs : List ByteArray), k ≤ qs.length ∧ i = .int .i64 k ∧ Hid (xs.length ≤ 1100 + 40 * k) ∧ Hid (Below wA.heap.size wA wr) ∧ Hid (wr.ownsRow wA.heap.size 9 1 vo xs.length (strs xs)) ∧ Hid (xs = rs.map Rl.o ++ l.flatMap whoS ++ (qs.take k).flatMap F)) (fun _ i _ => qs.length - (intOf i).toNat)
          case atStart => exact ⟨0, _, by omega, rfl, Lib.hid hn0, HB, HO, Lib.hid (by rw [HE0.out]; simp)⟩
          case round =>
            clear HB HO hn0 HE0 HT
            obtain ⟨k, xs, hk, rfl, HC, HB, HO, HE⟩ := hrel
            obtain ⟨oo, oc, rfl⟩ := own_form HO.out
            have hxs := HC.out
            by_cases hlt : k < qs.length
            · obtain ⟨b1, o1, e1, he1, hc1, hm1', hb1, hx1⟩ := HP.out.rq.pos (by omega)
              simp only [Value.slice.injEq, true_and] at he1
              obtain ⟨rfl, rfl⟩ := he1
              have hlow := HTA.out.low.trans (HB.out.mono HTA.out.low.size)
              obtain ⟨p0, p1, p2, p3, p4, p5⟩ := q_cell (w := wr) (fun j u hu => (hlow.cell (p := ⟨b1, o1 + j, none⟩) hb1).trans (hx1 j u hu)) k hlt
              have hbr : b1 < wr.heap.size := Nat.lt_of_lt_of_le hb1 hlow.size
              have HF := Lib.hid (flat_snocF F hlt)
              obtain ⟨hu1, hu2⟩ := HFF.out _ (List.getElem_mem hlt)
              have QP := Lib.hid (fun W (hb : Below w.heap.size w W) => query_Prins qs[k] (F qs[k]) W (hu1.below hb) (by omega))
              have HLW := Lib.hid hlow
              generalize F qs[k] = us at hu1 hu2 HF QP
              obtain ⟨wo, wc, hw5⟩ := hu1.form
              clear hx1 hlow hu1
              generalize hnw : us.length = nw at hw5 hu2 QP
              have HNW := Lib.hid hnw
              clear hnw
              generalize qs[k] = x at *
              obtain ⟨xk, ⟨x1, x2⟩, ⟨x3, x4⟩, xw⟩ := x
              dsimp only at hw5
              subst hw5
              go_wp2_with fail
              refine (QP.out _ (HLW.out.alloc HLW.out.size _)).mono ?_
              rintro e w3 ⟨vz, rfl, hz, hb⟩
              have HO3 := Lib.hid (own_below (HO.out.alloc _) hb)
              have HB3 := Lib.hid ((HB.out.alloc HB.out.size _).trans (hb.mono (HB.out.alloc HB.out.size _).size))
              obtain ⟨zo, zc, rfl⟩ := hz.form
              have HZ := Lib.hid hz
              clear hz hb QP HLW
              go_wp2_with (at_builtin; refine halt_ ?_)
              unfold Halt_
              refine app_row Tryz.underlying38 str_info rfl (by decide) (by decide) rfl _ _ rfl wA.heap.size rfl HO3.out rfl HZ.out (strs_one _) (by omega) HB3.out.size ?_
              intro a' cap' w4 hown' hgrow
              obtain ⟨q1, q2⟩ := push_txts HB3.out HO3.out hown' hgrow
              have HO4 := Lib.hid (show w4.ownsRow wA.heap.size 9 1 (.slice a' (xs.length + nw) cap') (xs ++ us).length (strs (xs ++ us)) by rw [List.length_append, HNW.out]; exact q1)
              have HB4 := Lib.hid q2
              clear hown' hgrow q1 q2 HO3 HB3 HZ
              go_wp2_with fail
              exact ⟨⟨k + 1, xs ++ us, by omega, by go_num, Lib.hid (by rw [List.length_append, HNW.out]; omega), HB4, HO4, Lib.hid (by rw [HF.out, HE.out]; simp only [List.append_assoc])⟩, by simp [intOf]; omega⟩
            · have HXS := Lib.hid (show xs = rs.map Rl.o ++ l.flatMap whoS ++ qs.flatMap F by rw [HE.out, List.take_of_length_le (show qs.length ≤ k by omega)])
              have hxl : xs.length ≤ 6000 := by omega
              have NN := Lib.hid (names_New _ xs wr (Sl.of_own HO.out).a (by omega))
              rw [← HXS.out] at RES
              have hnl := new_len xs
              have HLW := Lib.hid (HTA.out.low.trans (HB.out.mono HTA.out.low.size))
              clear HC hk HE HO HXS
              go_wp2_with fail
              refine NN.out.mono ?_
              rintro e w4 ⟨b, rfl, ht, _, hb⟩
              have AL := Lib.hid (tab_All b (newB xs) w4 ht (by omega))
              have HLW := Lib.hid (HLW.out.trans (hb.mono HLW.out.size))
              clear ht hb NN
              go_wp2_with fail
              refine AL.out.mono ?_
              rintro e w5 ⟨v5, rfl, ho, hb⟩
              have HO5 := Lib.hid (own_base ho HLW.out.size)
              have HLW := Lib.hid (HLW.out.trans (hb.mono HLW.out.size))
              clear ho hb AL
              go_wp2
              go_ret
              exact ⟨_, rfl, by rw [← RES.out]; exact HO5.out, by rw [← RES.out]; omega, HLW.out⟩
set_option maxRecDepth 100000 in
set_option maxHeartbeats 8000000 in
theorem policy_Names (v0 v1 v2 v3 : Value) (l : List St) (g h : List Rl) (qs : List Qv) (w : World) (hp : PolAt w v0 v1 v2 v3 l g h qs) (hl : l.length ≤ 100) (hg : g.length ≤ 100) (hh : h.length ≤ 100) (hq : qs.length ≤ 100) :
    Calls Tryz.prog 115 #[pv v0 v1 v2 v3] w fun e w' => ∃ v, e = .returned v ∧ w'.ownsRow w.heap.size 9 1 v (newB (allNames l g h qs)).length (strs (newB (allNames l g h qs))) ∧ (newB (allNames l g h qs)).length ≤ 6000 ∧ Below w.heap.size w w' := by
  have HP := Lib.hid hp
  have RO := Lib.hid (fun W (hb : Below w.heap.size w W) => policy_roles v0 v1 v2 v3 l g h qs W (hp.below hb) hl hg hh hq)
  skip
  have RES := Lib.hid (names_congr l g h qs)
  obtain ⟨a0, c0, rfl⟩ := hp.rs.form
  obtain ⟨a1, c1, rfl⟩ := hp.rg.form
  obtain ⟨a2, c2, rfl⟩ := hp.rh.form
  obtain ⟨a3, c3, rfl⟩ := hp.rq.form
  have HT := Lib.hid (show OneAt w #[.slice a0 l.length c0, .slice a1 g.length c1, .slice a2 h.length c2, .slice a3 qs.length c3] (w.alloc (.cells #[.slice a0 l.length c0, .slice a1 g.length c1, .slice a2 h.length c2, .slice a3 qs.length c3] 26)) from ⟨Blk.new w _ _, (Below.refl _ _).alloc (Nat.le_refl _) _⟩)
  clear hp
  generalize polRoles l g h qs = rs at RO RES
  go_enter Tryz.func115, Tryz.ntmps115
  go_wp2_with fail
  refine (RO.out _ HT.out.low).mono ?_
  rintro e w1 ⟨vr, rfl, hr, hrl, hb⟩
  have HT := Lib.hid (HT.out.later hb)
  have HR := Lib.hid hr
  obtain ⟨ro, rc, rfl⟩ := hr.form
  clear hb hr RO
  obtain ⟨wA, hwA⟩ : ∃ wA, wA = w1 := ⟨_, rfl⟩
  subst hwA
  have HTA := Lib.hid HT.out
  go_wp2_with fail
  go_loopw [3, 11] (fun vo i wr => ∃ (k : Nat) (xs : List ByteArray), k ≤ rs.length ∧ i = .int .i64 k ∧ Hid (xs.length ≤ k) ∧ Hid (Below wA.heap.size wA wr) ∧ Hid (wr.ownsRow wA.heap.size 9 1 vo xs.length (strs xs)) ∧ Hid (xs = (rs.take k).map Rl.n)) (fun _ i _ => rs.length - (intOf i).toNat)
  case atStart => exact ⟨0, [], by omega, rfl, Lib.hid (by simp), Lib.hid (Below.refl _ _), Lib.hid (World.ownsRow_nil _ _ _ _), Lib.hid (by simp)⟩
  case round =>
    obtain ⟨k, xs, hk, rfl, HC, HB, HO, HE⟩ := hrel
    obtain ⟨oo, oc, rfl⟩ := own_form HO.out
    have hxs := HC.out
    by_cases hlt : k < rs.length
    · obtain ⟨b1, o1, e1, he1, hc1, hm1', hb1, hx1⟩ := HR.out.pos (by omega)
      simp only [Value.slice.injEq, true_and] at he1
      obtain ⟨rfl, rfl⟩ := he1
      obtain ⟨p0, p1⟩ := rl_cell (w := wr) (fun j u hu => (HB.out.cell (p := ⟨b1, o1 + j, none⟩) hb1).trans (hx1 j u hu)) k hlt
      have hbr : b1 < wr.heap.size := Nat.lt_of_lt_of_le hb1 HB.out.size
      have HF := Lib.hid (take_snoc hlt)
      clear hx1
      generalize rs[k] = x at *
      obtain ⟨x1, x2⟩ := x
      have hown := HO.out
      go_wp2_with (at_builtin; refine halt_ ?_)
      unfold Halt_
      refine app_own Tryz.underlying38 str_info rfl (by decide) (by decide) rfl _ _ rfl wA.heap.size rfl ((hown.alloc _).alloc _) [.string x2] rfl (heap_new2 _ _ _) rfl (str1 _) ?_ ?_ ?_
      · omega
      · have := HB.out.size; simp; omega
      intro a' cap' w3 hown' hgrow
      obtain ⟨q1, q2⟩ := own_push (x := x2) (HB.out.alloc HB.out.size _) (hown.alloc _) hown' hgrow
      have HO1 := Lib.hid q1
      have HB1 := Lib.hid q2
      clear hown hown' hgrow q1 q2
      go_wp2_with fail
      exact ⟨⟨k + 1, xs ++ [x2], by omega, by go_num, Lib.hid (by rw [List.length_append]; exact Nat.succ_le_succ hxs), HB1, HO1, Lib.hid (by rw [HF.out, List.map_append, HE.out]; rfl)⟩, by simp [intOf]; omega⟩
    · have HT := Lib.hid (HT.out.later HB.out)
      have hn0 : xs.length ≤ 1000 + 0 := by omega
      have HE0 := Lib.hid (show xs = rs.map Rl.n by rw [HE.out, List.take_of_length_le (show rs.length ≤ k by omega)])
      obtain ⟨ca, fa, za⟩ := HT.out.a
      clear hxs HC hk HE HR
      go_wp2_with fail
      clear ca fa za
      go_loopw [3, 24] (fun vo i wr => ∃ (k : Nat) (xs : List ByteArray), k ≤ l.length ∧ i = .int .i64 k ∧ Hid (xs.length ≤ 1000 + k) ∧ Hid (Below wA.heap.size wA wr) ∧ Hid (wr.ownsRow wA.heap.size 9 1 vo xs.length (strs xs)) ∧ Hid (xs = rs.map Rl.n ++ (l.take k).flatMap viaS)) (fun _ i _ => l.length - (intOf i).toNat)
      case atStart => exact ⟨0, _, by omega, rfl, Lib.hid hn0, HB, HO, Lib.hid (by rw [HE0.out]; simp)⟩
      case round =>
        clear HB HO hn0 HE0 HT
        obtain ⟨k, xs, hk, rfl, HC, HB, HO, HE⟩ := hrel
        obtain ⟨oo, oc, rfl⟩ := own_form HO.out
        have hxs := HC.out
        by_cases hlt : k < l.length
        · obtain ⟨b1, o1, e1, he1, hc1, hm1', hb1, hx1⟩ := HP.out.rs.pos (by omega)
          simp only [Value.slice.injEq, true_and] at he1
          obtain ⟨rfl, rfl⟩ := he1
          have hlow := HTA.out.low.trans (HB.out.mono HTA.out.low.size)
          obtain ⟨p0, p1, p2, p3, p4, p5, p6, p7, p8⟩ := st_cell (w := wr) (fun j u hu => (hlow.cell (p := ⟨b1, o1 + j, none⟩) hb1).trans (hx1 j u hu)) k hlt
          have hbr : b1 < wr.heap.size := Nat.lt_of_lt_of_le hb1 hlow.size
          have HF := Lib.hid (flat_snocF viaS hlt)
          clear hx1 hlow
          generalize l[k] = x at *
          obtain ⟨xk, ⟨x1, x2⟩, xw, ⟨x3, x4⟩, ⟨x5, x6⟩, xv⟩ := x
          by_cases hkk : xk = 3
          · have d1 : (xk == 3) = true := by simp [hkk]
            have HK := Lib.hid (show viaS ⟨xk, ⟨x1, x2⟩, xw, ⟨x3, x4⟩, ⟨x5, x6⟩, xv⟩ = [xv] from if_pos hkk)
            clear hkk
            have hown := HO.out
            go_wp2_with (at_builtin; refine halt_ ?_)
            unfold Halt_
            refine app_own Tryz.underlying38 str_info rfl (by decide) (by decide) rfl _ _ rfl wA.heap.size rfl ((hown.alloc _).alloc _) [.string xv] rfl (heap_new2 _ _ _) rfl (str1 _) ?_ ?_ ?_
            · omega
            · have := HB.out.size; simp; omega
            intro a' cap' w3 hown' hgrow
            obtain ⟨q1, q2⟩ := own_push (x := xv) (HB.out.alloc HB.out.size _) (hown.alloc _) hown' hgrow
            have HO1 := Lib.hid q1
            have HB1 := Lib.hid q2
            clear hown hown' hgrow q1 q2
            go_wp2_with fail
            exact ⟨⟨k + 1, xs ++ [xv], by omega, by go_num, Lib.hid (by rw [List.length_append]; exact Nat.succ_le_succ hxs), HB1, HO1, Lib.hid (by rw [HF.out, HK.out, HE.out, List.append_assoc])⟩, by simp [intOf]; omega⟩
          · have d1 : (xk == 3) = false := by simp [hkk]
            have HK := Lib.hid (show viaS ⟨xk, ⟨x1, x2⟩, xw, ⟨x3, x4⟩, ⟨x5, x6⟩, xv⟩ = [] from if_neg hkk)
            clear hkk
            have HO1 := Lib.hid (HO.out.alloc (.cells #[.int .i64 xk, .string x1, .string x2, .string xw, .string x3, .string x4, .string x5, .string x6, .string xv] 35))
            have HB1 := Lib.hid (HB.out.alloc HB.out.size (.cells #[.int .i64 xk, .string x1, .string x2, .string xw, .string x3, .string x4, .string x5, .string x6, .string xv] 35))
            go_wp2_with fail
            exact ⟨⟨k + 1, xs, by omega, by go_num, Lib.hid (by omega), HB1, HO1, Lib.hid (by rw [HF.out, HK.out, HE.out, List.append_nil])⟩, by simp [intOf]; omega⟩
        · have HXS := Lib.hid (show xs = rs.map Rl.n ++ l.flatMap viaS by rw [HE.out, List.take_of_length_le (show l.length ≤ k by omega)])
          have hxl : xs.length ≤ 6000 := by omega
          have NN := Lib.hid (names_New _ xs wr (Sl.of_own HO.out).a (by omega))
          rw [← HXS.out] at RES
          have hnl := new_len xs
          have HLW := Lib.hid (HTA.out.low.trans (HB.out.mono HTA.out.low.size))
          clear HC hk HE HO HXS
          go_wp2_with fail
          refine NN.out.mono ?_
          rintro e w4 ⟨b, rfl, ht, _, hb⟩
          have AL := Lib.hid (tab_All b (newB xs) w4 ht (by omega))
          have HLW := Lib.hid (HLW.out.trans (hb.mono HLW.out.size))
          clear ht hb NN
          go_wp2_with fail
          refine AL.out.mono ?_
          rintro e w5 ⟨v5, rfl, ho, hb⟩
          have HO5 := Lib.hid (own_base ho HLW.out.size)
          have HLW := Lib.hid (HLW.out.trans (hb.mono HLW.out.size))
          clear ho hb AL
          go_wp2
          go_ret
          exact ⟨_, rfl, by rw [← RES.out]; exact HO5.out, by rw [← RES.out]; omega, HLW.out⟩
end Go.Proofs.YtcmdhfccdkjenaaGreatDoor
