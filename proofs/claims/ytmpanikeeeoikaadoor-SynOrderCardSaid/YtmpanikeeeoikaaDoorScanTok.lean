/- scan.Tokens returns the tokens of a line, or what is wrong first, and where. -/
import Derived.Test.YtmpanikeeeoikaaDoorScan
import Derived.Maps.AppendAt
namespace Go.Proofs.YtmpanikeeeoikaaDoor
open Go.RowKit Go.Shelf

theorem tok_info : (Tryd.prog.info? 61).map (fun i => (i.zero, i.size, i.bytes)) = some (some (.agg #[.int .i64 0, .string ByteArray.empty, .int .i64 0]), 3, 32) := by kernel_rfl

abbrev tokCells (kd : Int) (X : ByteArray) (co : Int) : List Value := [.int .i64 kd, .string X, .int .i64 co]
theorem tok_one (kd : Int) (X : ByteArray) (co : Int) : ∀ u ∈ tokCells kd X co, u.oneCell' = true := by
  intro u hu; simp at hu; rcases hu with rfl | rfl | rfl <;> rfl

/-- What a call that tells tokens hands back. -/
def TokPost (r : List Tok × Int × Int) (w : World) (e : Ending) (w' : World) : Prop :=
  ∃ v, e = .returned (.tuple #[v, .int .i64 r.2.1, .int .i64 r.2.2]) ∧ w'.ownsRow w.heap.size 61 3 v r.1.length (r.1.flatMap Tok.cells) ∧ Below w.heap.size w w'

def TokRel (B : Nat) (w : World) (l : List UInt8) (v i : Value) (wr : World) : Prop :=
  ∃ (k f : Nat) (acc : List Tok), k ≤ l.length ∧ i = .int .i64 k ∧ l.length - k ≤ f ∧ acc.length ≤ k ∧ wr.ownsRow B 61 3 v acc.length (acc.flatMap Tok.cells) ∧
    toks l.length l 0 [] = toks f (l.drop k) k acc ∧ Below B w wr

set_option maxHeartbeats 1000000 in
theorem scan_Tokens (s : ByteArray) (w : World) (hs : s.size ≤ 200) (hg : Gl w) :
    Calls Tryd.prog 25 #[.string s] w (TokPost (tokens (bl s)) w) := by
  have ht : tokens (bl s) = toks (bare (bl s)).length (bare (bl s)) 0 [] := by unfold tokens; rw [if_neg (by rw [bl_len]; omega)]
  have HT := Lib.hid ht
  have HB := Lib.hid (scan_bare s w (by omega) hg)
  have hle := bare_le (bl s)
  rw [bl_len] at hle
  generalize hr : (⟨(bare (bl s)).toArray⟩ : ByteArray) = r at HB
  have hbr : bl r = bare (bl s) := by rw [← hr]
  have hrs : r.size ≤ 200 := by rw [← bl_len, hbr]; omega
  have HR := Lib.hid hbr
  clear hr hbr hle ht hg
  have h200 : decide (200 < (s.size : Int)) = false := by simp; omega
  go_enter Tryd.func25, Tryd.ntmps25
  go_wp2_with (go_at_call 40; refine HB.out.mono ?_; rintro e w' ⟨rfl, n, rfl⟩)
  go_loopw [2, 6] (TokRel w.heap.size w (bl r)) (fun _ i _ => r.size - (intOf i).toNat)
  case atStart => exact ⟨0, (bl r).length, [], by omega, rfl, by omega, by simp, World.ownsRow_nil _ _ _ _, rfl, below_of_drewN n⟩
  case round =>
    obtain ⟨k, f, acc, hk, rfl, hf, hacc, hown, htk, hb⟩ := hrel
    rw [bl_len] at hk hf
    have HK := Lib.hid htk
    clear htk
    by_cases hlt : k < r.size
    · obtain ⟨f, rfl⟩ : ∃ f', f = f' + 1 := ⟨f - 1, by omega⟩
      by_cases h32 : r[k].toNat = 32
      · have b32 : ((r[k].toNat : Int) == 32) = true := by rw [beq_iff_eq]; omega
        have HN := Lib.hid (HK.out.trans (toks_at_space r k f acc hlt h32))
        clear h32
        go_wp2
        exact ⟨⟨k + 1, f, acc, by rw [bl_len]; omega, by go_num, by rw [bl_len]; omega, by omega, hown, HN.out, hb⟩, by simp [intOf]; omega⟩
      · have b32 : ((r[k].toNat : Int) == 32) = false := by rw [beq_eq_false_iff_ne]; omega
        have HO := Lib.hid (fun W => scan_one r k W (by omega) hlt)
        have hroom := oneTok_room ((bl r).drop k) k
        rw [List.length_drop, bl_len] at hroom
        have hbad := toks_at_bad r k f acc hlt h32
        have hlong := toks_at_long r k f acc hlt h32
        have hgo := toks_at_go r k f acc hlt h32
        generalize oneTok ((bl r).drop k) k = t at HO hroom hbad hlong hgo
        obtain ⟨kd, tx, co⟩ := t
        dsimp only at hroom hbad hlong hgo
        simp only [Tok.cells] at HO
        have hX : (⟨tx.toArray⟩ : ByteArray).size = tx.length := by simp [ByteArray.size]
        rw [← hX] at hroom hlong hgo
        generalize hXe : (⟨tx.toArray⟩ : ByteArray) = X at HO hroom hlong hgo
        have HX := Lib.hid hXe
        clear hXe h32 hX
        by_cases hkd : kd = 0
        · have bk : (kd == 0) = true := by rw [beq_iff_eq]; exact hkd
          have HN := Lib.hid (HK.out.trans (hbad hkd))
          clear hbad hlong hgo hroom hkd
          go_wp2_with (go_at_call 41; refine (HO.out _).mono ?_; rintro e w1 ⟨rfl, hb1⟩)
          go_quiet (fail)
          go_wp2
          go_ret3
          rw [HT.out, ← HR.out, HN.out]
          exact ⟨_, rfl, World.ownsRow_nil _ _ _ _, below_drewN ((hb.trans (hb1.mono hb.size)).alloc (Nat.le_trans hb.size hb1.size) _) _⟩
        · have bk : (kd == 0) = false := by rw [beq_eq_false_iff_ne]; exact hkd
          obtain ⟨hr1, hr2⟩ := hroom hkd
          by_cases hl : 8 < X.size
          · have bl8 : decide (8 < (X.size : Int)) = true := by simp; omega
            have HN := Lib.hid (HK.out.trans (hlong hkd hl))
            clear hbad hlong hgo hroom hkd hl
            go_wp2_with (go_at_call 41; refine (HO.out _).mono ?_; rintro e w1 ⟨rfl, hb1⟩)
            go_quiet (fail)
            go_wp2
            go_ret3
            rw [HT.out, ← HR.out, HN.out]
            exact ⟨_, rfl, World.ownsRow_nil _ _ _ _, below_drewN ((hb.trans (hb1.mono hb.size)).alloc (Nat.le_trans hb.size hb1.size) _) _⟩
          · have bl8 : decide (8 < (X.size : Int)) = false := by simp; omega
            have HN := Lib.hid (HK.out.trans (hgo hkd hl))
            clear hbad hlong hgo hroom hkd
            go_wp2_with (first | (go_at_call 41; refine (HO.out _).mono ?_; rintro e w1 ⟨rfl, hb1⟩) | (at_builtin; refine app_own Tryd.underlying47 tok_info rfl (by decide) (by decide) rfl _ _ rfl w.heap.size rfl (((own_below hown hb1).alloc _).alloc _) (tokCells kd X co) rfl (heap_new2 _ _ _) rfl (tok_one _ _ _) ?_ ?_ ?_; omega; (have := hb1.size; have := hb.size; simp; omega); intro a' cap' w2 hown' hgrow; have hcx := grown_cell hown (u := .string X) (g := w1.heap.size) (o := 1) hgrow hb1.size (by simp [go_sem])))
            have hsz := hb1.size
            have hsz0 := hb.size
            refine ⟨⟨k + X.size, f, acc ++ [⟨kd, tx, co⟩], by rw [bl_len]; omega, by go_num, by rw [bl_len]; omega, by simp; omega, ?_, HN.out, ?_⟩, by simp [intOf]; omega⟩
            · rw [List.length_append, List.flatMap_append]
              simp only [List.flatMap_cons, List.flatMap_nil, List.append_nil, Tok.cells, HX.out]
              exact hown'
            · exact (((hb.trans (hb1.mono hsz0)).alloc (by omega) _).alloc (by simp; omega) _).grown hgrow (by simp; omega) (fun g hg => (hown.lt g hg).1)
    · have HN := Lib.hid (HK.out.trans (toks_at_end r k f acc hlt))
      go_wp2
      go_ret3
      rw [HT.out, ← HR.out, HN.out]
      exact ⟨u2, rfl, hown, hb⟩
theorem tokens_long (s : ByteArray) (h : ¬ s.size ≤ 200) : tokens (bl s) = ([], 201, 4) := by unfold tokens; rw [if_pos (by rw [bl_len]; omega)]
theorem scan_Tokens_any (s : ByteArray) (w : World) (hg : Gl w) (hs : s.size ≤ 9223372036854775807) : Calls Tryd.prog 25 #[.string s] w (TokPost (tokens (bl s)) w) := by
  by_cases h : s.size ≤ 200
  · exact scan_Tokens s w h hg
  · have HT := Lib.hid (tokens_long s h)
    have h200 : decide (200 < (s.size : Int)) = true := by simp; omega
    clear h
    go_enter Tryd.func25, Tryd.ntmps25
    go_wp2
    go_ret3
    rw [HT.out]
    exact ⟨_, rfl, World.ownsRow_nil _ _ _ _, Below.refl _ _⟩
end Go.Proofs.YtmpanikeeeoikaaDoor
