/- The reference of layer 3: shapes, fits, End. -/
import Derived.Test.YtakpahlgbcgnmaaDoorRead
import Derived.Test.YtakpahlgbcgnmaaDoorRef02
import Derived.Lib.TrimByte
namespace Go.Proofs.YtakpahlgbcgnmaaDoor
open Go.RowKit Go.Shelf

def fitsS : List Tok → List Int → Nat
  | t :: l, k :: s => if t.kind = k then fitsS l s + 1 else 0
  | _, _ => 0
def sh1 : List Int := [1, 3, 2, 4, 1]
def sh2 : List Int := [1, 3, 2, 4, 1, 3, 2]
def sh3 : List Int := [1, 3, 2, 4, 1, 3, 2, 3, 2]
def sh4 : List Int := [1, 3, 2, 4, 1, 3, 2, 5, 1, 3, 2]
theorem fits_end (l : List Tok) : fitsS l [] = 0 := by cases l <;> rfl
theorem fits_none (s : List Int) : fitsS [] s = 0 := by cases s <;> rfl
theorem fits_cons (t : Tok) (l : List Tok) (k : Int) (s : List Int) : fitsS (t :: l) (k :: s) = if t.kind = k then fitsS l s + 1 else 0 := rfl
def ints (s : List Int) : List Value := s.map (Value.int IntKind.i64)

theorem drop_at {α : Type} (l : List α) (k : Nat) (h : k < l.length) : l.drop k = l[k] :: l.drop (k + 1) := List.drop_eq_getElem_cons h
theorem fits_stop1 (l : List Tok) (s : List Int) (k : Nat) (h : ¬ k < l.length) : fitsS (l.drop k) (s.drop k) = 0 := by rw [List.drop_eq_nil_of_le (by omega)]; exact fits_none _
theorem fits_stop2 (l : List Tok) (s : List Int) (k : Nat) (h : ¬ k < s.length) : fitsS (l.drop k) (s.drop k) = 0 := by
  have h2 : s.drop k = [] := List.drop_eq_nil_of_le (by omega)
  rw [h2]; exact fits_end _
theorem fits_no (l : List Tok) (s : List Int) (k : Nat) (h : k < l.length) (h' : k < s.length) (hk : ¬ l[k].kind = s[k]) : fitsS (l.drop k) (s.drop k) = 0 := by
  rw [drop_at l k h, drop_at s k h', fits_cons, if_neg hk]
theorem fits_go (l : List Tok) (s : List Int) (k : Nat) (h : k < l.length) (h' : k < s.length) (hk : l[k].kind = s[k]) : fitsS (l.drop k) (s.drop k) = fitsS (l.drop (k + 1)) (s.drop (k + 1)) + 1 := by
  rw [drop_at l k h, drop_at s k h', fits_cons, if_pos hk]
theorem ints_cell {w : World} {b off : Nat} {s : List Int} (h : ∀ j u, (ints s)[j]? = some u → w.cell? ⟨b, off + j, none⟩ = some u) (k : Nat) (hk : k < s.length) :
    w.cell? ⟨b, off + k, none⟩ = some (.int .i64 s[k]) := h k _ (by simp [ints, hk])
theorem tok_kind {w : World} {b off : Nat} {l : List Tok} (h : ∀ j u, (l.flatMap Tok.cells)[j]? = some u → w.cell? ⟨b, off + j, none⟩ = some u) (k : Nat) (hk : k < l.length) :
    w.cell? ⟨b, off + k * 3, none⟩ = some (.int .i64 l[k].kind) ∧ w.cell? ⟨b, off + k * 3 + 1, none⟩ = some (.string ⟨l[k].text.toArray⟩) ∧ w.cell? ⟨b, off + k * 3 + 2, none⟩ = some (.int .i64 l[k].col) := by
  have hx : l[k]? = some l[k] := List.getElem?_eq_getElem hk
  have h0 := h _ _ ((flat_get Tok.cells 3 Tok.cells_len l k 0 (by omega) _ hx).trans rfl)
  have h1 := h _ _ ((flat_get Tok.cells 3 Tok.cells_len l k 1 (by omega) _ hx).trans rfl)
  have h2 := h _ _ ((flat_get Tok.cells 3 Tok.cells_len l k 2 (by omega) _ hx).trans rfl)
  exact ⟨h0, h1, h2⟩

set_option maxRecDepth 100000 in
set_option maxHeartbeats 1000000 in
theorem ref3_fits (va vb : Value) (l : List Tok) (s : List Int) (w : World) (ha : Sl w 3 va l.length (l.flatMap Tok.cells)) (hb : Sl w 1 vb s.length (ints s)) (hs : 0 < s.length) :
    Calls Tryd.prog 74 #[va, vb] w fun e w' => e = .returned (.int .i64 (fitsS l s)) ∧ ∃ n, w' = w.drewN n := by
  have hmax := ha.max
  have hmax2 := hb.max
  obtain ⟨b2, o2, c2, rfl, hc2, hm2, _, hx2⟩ := hb.pos hs
  have HX2 := Lib.hid hx2
  by_cases h0 : 0 < l.length
  · obtain ⟨b1, o1, c1, rfl, hc1, hm1, _, hx1⟩ := ha.pos h0
    have HX1 := Lib.hid hx1
    clear ha hb hx1 hx2
    go_enter Tryd.func74, Tryd.ntmps74
    go_wp2
    go_loopw [5] (fun i wr => ∃ k n : Nat, k ≤ l.length ∧ k ≤ s.length ∧ i = .int .i64 k ∧ wr = w.drewN n ∧ Hid (fitsS l s = k + fitsS (l.drop k) (s.drop k))) (fun i _ => l.length - (intOf i).toNat)
    case atStart => exact ⟨0, 0, by omega, by omega, rfl, rfl, Lib.hid (by simp)⟩
    case round =>
      obtain ⟨k, n, hk, hk2, rfl, rfl, HF⟩ := hrel
      by_cases hlt : k < l.length
      · have d1 : decide ((k : Int) < (l.length : Int)) = true := by (rw [decide_eq_true_iff]; omega)
        by_cases hlt2 : k < s.length
        · have d2 : decide ((k : Int) < (s.length : Int)) = true := by (rw [decide_eq_true_iff]; omega)
          obtain ⟨p0, p1, p2⟩ := tok_kind HX1.out k hlt
          have q0 := ints_cell HX2.out k hlt2
          by_cases he : l[k].kind = s[k]
          · have HN := Lib.hid (HF.out.trans (by rw [fits_go l s k hlt hlt2 he]; omega) : fitsS l s = (k + 1 : Nat) + fitsS (l.drop (k + 1)) (s.drop (k + 1)))
            have d3 : (l[k].kind == s[k]) = true := by simp [he]
            clear he
            go_wp2_with fail
            go_quiet (fail)
            go_wp2
            exact ⟨⟨k + 1, n + nq, by omega, by omega, by go_num, rfl, HN⟩, by simp [intOf]; omega⟩
          · have HN := Lib.hid (HF.out.trans (by rw [fits_no l s k hlt hlt2 he]; omega) : fitsS l s = k)
            have d3 : (l[k].kind == s[k]) = false := by simp [he]
            clear he
            go_wp2_with fail
            go_quiet (fail)
            go_wp2
            go_ret
            exact ⟨by rw [HN.out]; rfl, n + nq, by simp [World.drewN, Nat.add_assoc]⟩
        · have d2 : decide ((k : Int) < (s.length : Int)) = false := by (rw [decide_eq_false_iff_not]; omega)
          have HN := Lib.hid (HF.out.trans (by rw [fits_stop2 l s k hlt2]; omega) : fitsS l s = k)
          go_wp2_with fail
          go_quiet (fail)
          go_wp2
          go_ret
          exact ⟨by rw [HN.out]; rfl, n + nq, by simp [World.drewN, Nat.add_assoc]⟩
      · have d1 : decide ((k : Int) < (l.length : Int)) = false := by (rw [decide_eq_false_iff_not]; omega)
        have HN := Lib.hid (HF.out.trans (by rw [fits_stop1 l s k hlt]; omega) : fitsS l s = k)
        go_wp2_with fail
        go_quiet (fail)
        go_wp2
        go_ret
        exact ⟨by rw [HN.out]; rfl, n + nq, by simp [World.drewN, Nat.add_assoc]⟩
  · obtain ⟨a1, c1, rfl⟩ := ha.form
    obtain rfl : l = [] := List.eq_nil_of_length_eq_zero (by omega)
    clear ha hb h0 hmax hx2
    have HN := Lib.hid (fits_none s)
    go_enter Tryd.func74, Tryd.ntmps74
    go_wp2
    go_loopw [5] (fun i wr => i = .int .i64 0 ∧ wr = w) (fun _ _ => 0)
    case atStart => exact ⟨rfl, rfl⟩
    case round =>
      obtain ⟨rfl, rfl⟩ := hrel
      go_wp2_with fail
      go_quiet (fail)
      go_wp2
      go_ret
      exact ⟨by rw [HN.out]; rfl, nq, rfl⟩

theorem ints_len (s : List Int) : (ints s).length = s.length * 1 := by simp [ints]
theorem Sl.new1 (w : World) (cs : List Value) (t : TypeId) (g n : Nat) (hg : g = w.heap.size) (hl : cs.length = n) (hm : n ≤ maxLen) :
    Sl (w.alloc (.cells cs.toArray t)) 1 (.slice (some ⟨g, 0, none⟩) n n) n cs := by
  subst hg
  refine ⟨by omega, hm, .inr ⟨w.heap.size, 0, n, rfl, Nat.le_refl _, hm, by simp, fun j u hu => ?_⟩⟩
  rw [(Blk.new w cs.toArray t).1]
  simpa using hu
set_option maxRecDepth 100000 in
set_option maxHeartbeats 1000000 in
theorem ref3_shapes (w : World) :
    Calls Tryd.prog 73 #[] w fun e w' => ∃ v r1 r2 r3 r4, e = .returned v ∧ Sl w' 1 v 4 [r1, r2, r3, r4] ∧ Sl w' 1 r1 5 (ints sh1) ∧ Sl w' 1 r2 7 (ints sh2) ∧ Sl w' 1 r3 9 (ints sh3) ∧ Sl w' 1 r4 11 (ints sh4) ∧ Below w.heap.size w w' := by
  go_enter Tryd.func73, Tryd.ntmps73
  go_wp2
  go_ret
  let W1 := w.alloc (.cells (ints sh1).toArray 3)
  let W2 := W1.alloc (.cells (ints sh2).toArray 3)
  let W3 := W2.alloc (.cells (ints sh3).toArray 3)
  let W4 := W3.alloc (.cells (ints sh4).toArray 3)
  have b1 : Below W1.heap.size W1 W2 := (Below.refl _ _).alloc (Nat.le_refl _) _
  have b2 : Below W2.heap.size W2 W3 := (Below.refl _ _).alloc (Nat.le_refl _) _
  have b3 : Below W3.heap.size W3 W4 := (Below.refl _ _).alloc (Nat.le_refl _) _
  have b0 : Below w.heap.size w W1 := (Below.refl _ _).alloc (Nat.le_refl _) _
  have s1 : Sl W1 1 (.slice (some ⟨w.heap.size, 0, none⟩) 5 5) 5 (ints sh1) := Sl.new1 _ _ _ _ _ rfl rfl (by simp [maxLen])
  have s2 : Sl W2 1 (.slice (some ⟨w.heap.size + 1, 0, none⟩) 7 7) 7 (ints sh2) := Sl.new1 _ _ _ _ _ (by simp [W1]) rfl (by simp [maxLen])
  have s3 : Sl W3 1 (.slice (some ⟨w.heap.size + 1 + 1, 0, none⟩) 9 9) 9 (ints sh3) := Sl.new1 _ _ _ _ _ (by simp [W1, W2]) rfl (by simp [maxLen])
  have s4 : Sl W4 1 (.slice (some ⟨w.heap.size + 1 + 1 + 1, 0, none⟩) 11 11) 11 (ints sh4) := Sl.new1 _ _ _ _ _ (by simp [W1, W2, W3]) rfl (by simp [maxLen])
  have t1 := ((s1.below b1).below b2).below b3
  have t2 := (s2.below b2).below b3
  have t3 := s3.below b3
  have b4 : ∀ o, Below W4.heap.size W4 (W4.alloc o) := fun o => (Below.refl _ _).alloc (Nat.le_refl _) o
  have bb : Below w.heap.size w W4 := ((b0.trans (b1.mono b0.size)).trans (b2.mono (Nat.le_trans b0.size b1.size))).trans (b3.mono (Nat.le_trans b0.size (Nat.le_trans b1.size b2.size)))
  exact ⟨_, _, _, _, _, rfl, Sl.new1 W4 _ _ _ _ (by simp [W1, W2, W3, W4]) rfl (by simp [maxLen]), t1.below (b4 _), t2.below (b4 _), t3.below (b4 _), s4.below (b4 _), bb.alloc bb.size _⟩

theorem trimRight_step (l : List UInt8) (c : UInt8) (k : Nat) (h : 0 < k) (hk : k ≤ l.length) (hc : l[k - 1]? = some c) : Lib.trimRightB (l.take k) c = Lib.trimRightB (l.take (k - 1)) c := by
  obtain ⟨k, rfl⟩ : ∃ j, k = j + 1 := ⟨k - 1, by omega⟩
  simp only [Nat.add_sub_cancel] at hc ⊢
  have hlt : k < l.length := by omega
  have he : l[k] = c := by rw [List.getElem?_eq_getElem hlt] at hc; exact Option.some.inj hc
  unfold Lib.trimRightB
  rw [List.take_succ_eq_append_getElem hlt, List.reverse_append, he]
  simp
theorem trimRight_stop (l : List UInt8) (c : UInt8) (k : Nat) (h : 0 < k) (hk : k ≤ l.length) (hc : ∀ x, l[k - 1]? = some x → ¬ x = c) : Lib.trimRightB (l.take k) c = l.take k := by
  obtain ⟨k, rfl⟩ : ∃ j, k = j + 1 := ⟨k - 1, by omega⟩
  simp only [Nat.add_sub_cancel] at hc
  have hlt : k < l.length := by omega
  have he : ¬ l[k] = c := hc _ (List.getElem?_eq_getElem hlt)
  unfold Lib.trimRightB
  rw [List.take_succ_eq_append_getElem hlt, List.reverse_append]
  simp [he]
theorem trimRight_nil (c : UInt8) : Lib.trimRightB [] c = [] := rfl
def strLen : Value → Nat
  | .string s => s.size
  | _ => 0
theorem trim_go (t : ByteArray) (j : Nat) (hj : t.size = j + 1) (h : t[j].toNat = 32) : Lib.trimRightB (bl (t.extract 0 j)) 32 = Lib.trimRightB (bl t) 32 := by
  have hx : bl (t.extract 0 j) = (bl t).take j := by rw [bl_extract]; simp
  have hat := bl_at t 0 j (by omega)
  simp only [List.drop_zero, Nat.zero_add] at hat
  have e : t[j] = 32 := UInt8.toNat_inj.1 h
  have := trimRight_step (bl t) 32 (j + 1) (by omega) (by rw [bl_len]; omega) (by simpa [e] using hat)
  rw [List.take_of_length_le (by rw [bl_len]; omega)] at this
  rw [hx, this]; simp
theorem trim_stop (t : ByteArray) (j : Nat) (hj : t.size = j + 1) (h : ¬ t[j].toNat = 32) : Lib.trimRightB (bl t) 32 = bl t := by
  have hat := bl_at t 0 j (by omega)
  simp only [List.drop_zero, Nat.zero_add] at hat
  have := trimRight_stop (bl t) 32 (j + 1) (by omega) (by rw [bl_len]; omega) (by
    intro x hx e
    simp only [Nat.add_sub_cancel] at hx
    rw [hat] at hx
    cases hx
    exact h (by rw [e]; rfl))
  rwa [List.take_of_length_le (by rw [bl_len]; omega)] at this
theorem trim_zero (t : ByteArray) (h : t.size = 0) : Lib.trimRightB (bl t) 32 = bl t := by
  have : bl t = [] := List.eq_nil_of_length_eq_zero (by rw [bl_len]; exact h)
  rw [this]; rfl
def endOf' (s : ByteArray) : Int := ((Lib.trimRightB (bare (bl s)) 32).length : Int) + 1
set_option maxRecDepth 100000 in
set_option maxHeartbeats 1000000 in
theorem ref3_End (s : ByteArray) (w : World) (hs : s.size ≤ 9223372036854775806) :
    Calls Tryd.prog 75 #[.string s] w fun e w' => e = .returned (.int .i64 (endOf' s)) ∧ w = w' := by
  have HB := Lib.hid (ref2_Bare s w (by omega))
  have hle := bare_le (bl s)
  rw [bl_len] at hle
  have hsz : (⟨(bare (bl s)).toArray⟩ : ByteArray).size ≤ 9223372036854775806 := by simp [ByteArray.size]; omega
  have HE := Lib.hid (show endOf' s = ((Lib.trimRightB (bl (⟨(bare (bl s)).toArray⟩ : ByteArray)) 32).length : Int) + 1 from rfl)
  generalize (⟨(bare (bl s)).toArray⟩ : ByteArray) = r at HB HE hsz
  clear hle
  go_enter Tryd.func75, Tryd.ntmps75
  go_wp2_with (go_at_call 63; refine HB.out.mono ?_; rintro e w' ⟨rfl, rfl⟩)
  go_loop [3] (fun i => ∃ t : ByteArray, t.size ≤ 9223372036854775806 ∧ i = .string t ∧ Hid (Lib.trimRightB (bl r) 32 = Lib.trimRightB (bl t) 32)) (fun i => strLen i)
  case atStart => exact ⟨r, hsz, rfl, Lib.hid rfl⟩
  case round =>
    obtain ⟨t, ht, rfl, HT⟩ := hrel
    by_cases h0 : t.size = 0
    · have HX := Lib.hid (HT.out.trans (trim_zero t h0))
      have e2 := Lib.hid (show endOf' s = 1 by rw [HE.out, HX.out, bl_len, h0]; rfl)
      have d : decide ((0 : Int) < (t.size : Int)) = false := by simp [h0]
      go_wp2
      go_ret
      refine ⟨?_, rfl⟩
      rw [e2.out]
      rfl
    · obtain ⟨j, hj⟩ : ∃ j, t.size = j + 1 := ⟨t.size - 1, by omega⟩
      have hjlt : j < t.size := by omega
      clear h0
      by_cases h32 : t[j].toNat = 32
      · have HX := Lib.hid (HT.out.trans (trim_go t j hj h32).symm)
        have b32 : ((t[j].toNat : Int) == 32) = true := by rw [beq_iff_eq]; omega
        clear h32
        go_wp2
        exact ⟨⟨t.extract 0 j, by simp; omega, by simp, HX.out⟩, by simp [strLen]; omega⟩
      · have HX := Lib.hid (HT.out.trans (trim_stop t j hj h32))
        have b32 : ((t[j].toNat : Int) == 32) = false := by rw [beq_eq_false_iff_ne]; omega
        clear h32
        have hsz2 := Lib.hid hj
        go_wp2
        go_ret
        refine ⟨?_, rfl⟩
        have e2 : endOf' s = (j : Int) + 1 + 1 := by rw [HE.out, HX.out, bl_len, hsz2.out]; rfl
        rw [e2]
        rfl
end Go.Proofs.YtakpahlgbcgnmaaDoor
