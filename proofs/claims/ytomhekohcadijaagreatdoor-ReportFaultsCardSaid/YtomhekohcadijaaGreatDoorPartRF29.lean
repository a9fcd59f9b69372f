/- report: words, kinds, decimal digits. Light of texts, told whole. Light of queries and policies, with the lengths of the queries' roles (turned by gen_lights.py). policy.Fits and crupperref05.Fits of a policy of any size. Light of queries and policies, with the lengths of the queries' roles and principals (turned from LightS by gen_lightu.py). A policy that lies in a world, as what it is. slices.Index and slices.Contains at texts (out of SimSat). The reader of package query: fail, want, kind, word. query.Words, and the reader's ask. strings.Join of any row of texts. -/
import Derived.Test.YtomhekohcadijaaGreatDoorPartRF28
import Derived.Test.YtomhekohcadijaaGreatDoorPartRF16
import Derived.Test.YtomhekohcadijaaGreatDoorPartRF15
import Derived.Test.YtomhekohcadijaaGreatDoorPartRF27
import Derived.Test.YtomhekohcadijaaGreatDoorPartRF17
import Derived.Test.YtomhekohcadijaaGreatDoorPartRF19
import Derived.Test.YtomhekohcadijaaGreatDoorPartRF21
namespace Go.Proofs.YtomhekohcadijaaGreatDoor
open Go.RowKit Go.Shelf

theorem rep_words (w : World) : Calls Tryz.prog 74 #[] w fun e w' => e = .returned (.slice (some ⟨w.heap.size, 0, none⟩) 6 6) ∧ w' = w.alloc (.cells #[.string ⟨#[]⟩, .string ⟨#[104, 111, 108, 100, 115]⟩, .string ⟨#[102, 97, 105, 108, 115]⟩, .string ⟨#[121, 101, 115]⟩, .string ⟨#[110, 111]⟩, .string ⟨#[101, 120, 104, 97, 117, 115, 116, 101, 100]⟩] 9) := by
  go_enter Tryz.func74, Tryz.ntmps74
  go_wp2
  go_ret
  exact ⟨rfl, rfl⟩
set_option maxHeartbeats 1000000 in
theorem rep_Word (k : Int) (w : World) : Calls Tryz.prog 30 #[.int .i64 k] w fun e w' => e = .returned (.string (wordB k)) ∧ Below w.heap.size w w' := by
  by_cases h0 : k < 0
  · have d : decide (k < 0) = true := decide_eq_true h0
    have R := Lib.hid (show wordB k = ⟨#[]⟩ by unfold wordB; rw [if_neg (by omega), if_neg (by omega), if_neg (by omega), if_neg (by omega), if_neg (by omega)])
    go_enter Tryz.func30, Tryz.ntmps30
    go_wp2
    go_ret
    exact ⟨ret_s R.out.symm, Below.refl _ _⟩
  by_cases h5 : 5 < k
  · have d : decide (k < 0) = false := decide_eq_false h0
    have d1 : decide (5 < k) = true := decide_eq_true h5
    have R := Lib.hid (show wordB k = ⟨#[]⟩ by unfold wordB; rw [if_neg (by omega), if_neg (by omega), if_neg (by omega), if_neg (by omega), if_neg (by omega)])
    go_enter Tryz.func30, Tryz.ntmps30
    go_wp2
    go_ret
    exact ⟨ret_s R.out.symm, Below.refl _ _⟩
  rcases (by omega : k = 0 ∨ k = 1 ∨ k = 2 ∨ k = 3 ∨ k = 4 ∨ k = 5) with e | e | e | e | e | e <;> subst e <;> clear h0 h5
  all_goals
    go_enter Tryz.func30, Tryz.ntmps30
    go_wp2_with fail
    refine (rep_words _).mono ?_
    rintro e w1 ⟨rfl, rfl⟩
    go_wp2
    go_ret
    exact ⟨rfl, (Below.refl _ _).alloc (Nat.le_refl _) _⟩
theorem rep_stated (k : Int) (w : World) : Calls Tryz.prog 76 #[.int .i64 k] w fun e w' => e = .returned (.bool (statedV k)) ∧ w' = w := by
  by_cases h2 : k = 2
  · subst h2
    go_enter Tryz.func76, Tryz.ntmps76
    go_wp2
    go_ret
    exact ⟨rfl, rfl⟩
  have d2 : (k == 2) = false := by rw [beq_eq_false_iff_ne]; exact h2
  by_cases h3 : k = 3
  · subst h3
    go_enter Tryz.func76, Tryz.ntmps76
    go_wp2
    go_ret
    exact ⟨rfl, rfl⟩
  have d3 : (k == 3) = false := by rw [beq_eq_false_iff_ne]; exact h3
  have R := Lib.hid (show statedV k = false by unfold statedV; rw [decide_eq_false h2, decide_eq_false h3]; rfl)
  go_enter Tryz.func76, Tryz.ntmps76
  go_wp2
  go_ret
  exact ⟨ret_b R.out.symm, rfl⟩

def IdxB (l : List ByteArray) (s : ByteArray) (i : Int) : Prop :=
  (∃ k : Nat, i = k ∧ ∃ h : k < l.length, l[k] = s ∧ ∀ j (hj : j < l.length), j < k → ¬ l[j] = s) ∨ (i = -1 ∧ ∀ j (hj : j < l.length), ¬ l[j] = s)
def IdxR (l : List ByteArray) (s : ByteArray) (e : Ending) : Prop := ∃ i : Int, e = .returned (.int .i64 i) ∧ IdxB l s i
set_option maxRecDepth 100000 in
set_option maxHeartbeats 2000000 in
theorem str_IndexE (va : Value) (l : List ByteArray) (s : ByteArray) (w : World) (ha : SlA w 1 va l.length (strs l)) :
    Calls Tryz.prog 75 #[va, .string s] w fun e w' => IdxR l s e ∧ w' = w := by
  have HA := Lib.hid ha
  have hmax := ha.max
  obtain ⟨ao, cap, hva⟩ := ha.form
  subst hva
  clear ha
  go_enter Tryz.func75, Tryz.ntmps75
  go_wp2
  go_loopw [8] (fun i wr => ∃ k : Nat, k ≤ l.length ∧ i = .int .i64 k ∧ Hid (∀ j (hj : j < l.length), j < k → ¬ l[j] = s) ∧ wr = w) (fun i _ => l.length - (intOf i).toNat)
  case atStart => exact ⟨0, by omega, rfl, Lib.hid (fun _ _ h => absurd h (by omega)), rfl⟩
  case round =>
    obtain ⟨k, hk, rfl, HJ, rfl⟩ := hrel
    by_cases hlt : k < l.length
    · obtain ⟨b1, o1, c1, he1, hc1, hm1, hb1, hx1⟩ := HA.out.pos (by omega)
      simp only [Value.slice.injEq, true_and] at he1
      obtain ⟨rfl, rfl⟩ := he1
      have p0 := hx1 k _ (strs_get hlt)
      have YES := Lib.hid (fun (e : l[k] = s) => show IdxB l s (k : Int) from .inl ⟨k, rfl, hlt, e, HJ.out⟩)
      have HJ2 : Hid (¬ l[k] = s → ∀ j (hj : j < l.length), j < k + 1 → ¬ l[j] = s) := Lib.hid (fun hpk j hj hjk => by
        by_cases h : j < k
        · exact HJ.out j hj h
        · obtain rfl : j = k := by omega
          exact hpk)
      clear hx1
      generalize l[k] = x at *
      by_cases e : x = s
      · have d : (s.toList == x.toList) = true := by rw [beq_str, e]; exact decide_eq_true rfl
        have d' : (x.toList == s.toList) = true := by rw [beq_str, e]; exact decide_eq_true rfl
        have R := Lib.hid (YES.out e)
        clear e
        go_wp2
        go_ret
        exact ⟨⟨(k : Int), rfl, R.out⟩, rfl⟩
      · have d : (s.toList == x.toList) = false := by rw [beq_str]; exact decide_eq_false (fun h => e h.symm)
        have d' : (x.toList == s.toList) = false := by rw [beq_str]; exact decide_eq_false e
        have HJ3 := Lib.hid (HJ2.out e)
        clear e
        go_wp2
        exact ⟨⟨k + 1, by omega, by go_num, HJ3, by first | rfl | trivial⟩, by simp [intOf]; omega⟩
    · have R := Lib.hid (show IdxB l s (-1) from .inr ⟨rfl, fun j hj => HJ.out j hj (by omega)⟩)
      go_wp2
      go_ret
      exact ⟨⟨-1, rfl, R.out⟩, rfl⟩
def wordsL6 : List ByteArray := [⟨#[]⟩, ⟨#[104, 111, 108, 100, 115]⟩, ⟨#[102, 97, 105, 108, 115]⟩, ⟨#[121, 101, 115]⟩, ⟨#[110, 111]⟩, ⟨#[101, 120, 104, 97, 117, 115, 116, 101, 100]⟩]
theorem idx_kind {s : ByteArray} {i : Int} (h : IdxB wordsL6 s i) : (if i < 0 then 0 else i) = kindVB s := by
  rcases h with ⟨k, rfl, hk, he, _⟩ | ⟨rfl, hn⟩
  · have hk6 : k < 6 := hk
    rw [if_neg (by omega), ← he]
    clear he
    rcases (by omega : k = 0 ∨ k = 1 ∨ k = 2 ∨ k = 3 ∨ k = 4 ∨ k = 5) with e | e | e | e | e | e <;> subst e
    · exact (by decide : ((0 : Nat) : Int) = kindVB ⟨#[]⟩)
    · exact (by decide : ((1 : Nat) : Int) = kindVB ⟨#[104, 111, 108, 100, 115]⟩)
    · exact (by decide : ((2 : Nat) : Int) = kindVB ⟨#[102, 97, 105, 108, 115]⟩)
    · exact (by decide : ((3 : Nat) : Int) = kindVB ⟨#[121, 101, 115]⟩)
    · exact (by decide : ((4 : Nat) : Int) = kindVB ⟨#[110, 111]⟩)
    · exact (by decide : ((5 : Nat) : Int) = kindVB ⟨#[101, 120, 104, 97, 117, 115, 116, 101, 100]⟩)
  · rw [if_pos (by decide)]
    have h1 := hn 1 (by decide)
    have h2 := hn 2 (by decide)
    have h3 := hn 3 (by decide)
    have h4 := hn 4 (by decide)
    have h5 := hn 5 (by decide)
    unfold kindVB
    rw [if_neg (fun e => h1 e.symm), if_neg (fun e => h2 e.symm), if_neg (fun e => h3 e.symm), if_neg (fun e => h4 e.symm), if_neg (fun e => h5 e.symm)]
set_option maxHeartbeats 1000000 in
theorem rep_Kind (s : ByteArray) (w : World) : Calls Tryz.prog 31 #[.string s] w fun e w' => e = .returned (.int .i64 (kindVB s)) ∧ Below w.heap.size w w' := by
  have KK := Lib.hid (fun i (h : IdxB wordsL6 s i) => idx_kind h)
  generalize kindVB s = kk at *
  go_enter Tryz.func31, Tryz.ntmps31
  go_wp2_with fail
  refine (rep_words _).mono ?_
  rintro e w1 ⟨rfl, rfl⟩
  have SL := Lib.hid (show SlA (w.alloc (.cells #[.string ⟨#[]⟩, .string ⟨#[104, 111, 108, 100, 115]⟩, .string ⟨#[102, 97, 105, 108, 115]⟩, .string ⟨#[121, 101, 115]⟩, .string ⟨#[110, 111]⟩, .string ⟨#[101, 120, 104, 97, 117, 115, 116, 101, 100]⟩] 9)) 1 (.slice (some ⟨w.heap.size, 0, none⟩) 6 6) wordsL6.length (strs wordsL6) from (Sl.new w (strs wordsL6) 9 1 6 w.heap.size rfl rfl (by simp [maxLen])).a)
  have HB := Lib.hid ((Below.refl w.heap.size w).alloc (Nat.le_refl _) (.cells #[.string ⟨#[]⟩, .string ⟨#[104, 111, 108, 100, 115]⟩, .string ⟨#[102, 97, 105, 108, 115]⟩, .string ⟨#[121, 101, 115]⟩, .string ⟨#[110, 111]⟩, .string ⟨#[101, 120, 104, 97, 117, 115, 116, 101, 100]⟩] 9))
  have IX := Lib.hid (str_IndexE _ wordsL6 s _ SL.out)
  obtain ⟨w1, hw1⟩ : ∃ W, W = w.alloc (.cells #[.string ⟨#[]⟩, .string ⟨#[104, 111, 108, 100, 115]⟩, .string ⟨#[102, 97, 105, 108, 115]⟩, .string ⟨#[121, 101, 115]⟩, .string ⟨#[110, 111]⟩, .string ⟨#[101, 120, 104, 97, 117, 115, 116, 101, 100]⟩] 9) := ⟨_, rfl⟩
  rw [← hw1] at IX HB ⊢
  clear hw1 SL
  go_wp2_with fail
  refine IX.out.mono ?_
  rintro e w2 ⟨⟨i, rfl, hi⟩, rfl⟩
  have HK := Lib.hid (KK.out i hi)
  clear hi IX KK
  by_cases h : i < 0
  · have d : decide (i < 0) = true := decide_eq_true h
    have E := Lib.hid (show 0 = kk by rw [← HK.out, if_pos h])
    go_wp2
    go_ret
    exact ⟨ret_int (by have := E.out; omega), HB.out⟩
  · have d : decide (i < 0) = false := decide_eq_false h
    have E := Lib.hid (show i = kk by rw [← HK.out, if_neg h])
    go_wp2
    go_ret
    exact ⟨ret_int (by have := E.out; omega), HB.out⟩

theorem toBA_cat (a b : List UInt8) : toBA (a ++ b) = toBA a ++ toBA b := bl_inj.1 (by rw [bl_append]; rfl)
theorem toBA_small {s : List UInt8} (h : s.length ≤ 4294967) : (toBA s).size ≤ 4294967 := by unfold toBA; simpa [ByteArray.size] using h
theorem dec_short {n : Nat} (h : n ≤ 9223372036854775807) : (decL n).length ≤ 19 := dec_fewD 19 n (Nat.lt_of_le_of_lt h (by decide)) (by decide)
theorem digit_at (n : Nat) (h : n < 10) : (⟨#[48, 49, 50, 51, 52, 53, 54, 55, 56, 57]⟩ : ByteArray).extract n (n + 1) = toBA (decL n) := by
  rw [decL_small h]
  rcases (by omega : n = 0 ∨ n = 1 ∨ n = 2 ∨ n = 3 ∨ n = 4 ∨ n = 5 ∨ n = 6 ∨ n = 7 ∨ n = 8 ∨ n = 9) with e | e | e | e | e | e | e | e | e | e <;> subst e <;> decide
set_option maxRecDepth 100000 in
set_option maxHeartbeats 2000000 in
theorem rep_dec (n : Nat) : n ≤ 9223372036854775807 → ∀ w, Calls Tryz.prog 95 #[.int .i64 n] w fun e w' => e = .returned (.string (toBA (decL n))) ∧ Below w.heap.size w w' := by
  induction n using Nat.strongRecOn with
  | ind n ih =>
    intro hn w
    by_cases h : n < 10
    · have d : decide ((n : Int) < 10) = true := by rw [decide_eq_true_iff]; omega
      have R := Lib.hid (digit_at n h)
      clear ih
      go_enter Tryz.func95, Tryz.ntmps95
      go_wp2
      go_ret
      exact ⟨ret_s R.out, Below.refl _ _⟩
    · have d : decide ((n : Int) < 10) = false := by rw [decide_eq_false_iff_not]; omega
      have e1 : ((n / 10 : Nat) : Int) = (n : Int) / 10 := by omega
      have e2 : ((n % 10 : Nat) : Int) = (n : Int) % 10 := by omega
      have C1 := Lib.hid (ih (n / 10) (by omega) (by omega))
      have C2 := Lib.hid (ih (n % 10) (by omega) (by omega))
      rw [e1] at C1
      rw [e2] at C2
      have z1 : (toBA (decL (n / 10))).size ≤ 4294967 := toBA_small (Nat.le_trans (dec_short (show n / 10 ≤ 9223372036854775807 by omega)) (by decide))
      have z2 : (toBA (decL (n % 10))).size ≤ 4294967 := toBA_small (Nat.le_trans (dec_short (show n % 10 ≤ 9223372036854775807 by omega)) (by decide))
      have R := Lib.hid (show toBA (decL (n / 10)) ++ toBA (decL (n % 10)) = toBA (decL n) by rw [decL_big h, toBA_cat])
      clear ih e1 e2
      generalize toBA (decL n) = y0 at *
      generalize toBA (decL (n / 10)) = y1 at *
      generalize toBA (decL (n % 10)) = y2 at *
      go_enter Tryz.func95, Tryz.ntmps95
      go_wp2_with fail
      refine (C1.out _).mono ?_
      rintro e w1 ⟨rfl, hb1⟩
      have HB1 := Lib.hid hb1
      clear hb1
      go_wp2_with fail
      refine (C2.out _).mono ?_
      rintro e w2 ⟨rfl, hb2⟩
      have HB2 := Lib.hid (HB1.out.trans (hb2.mono HB1.out.size))
      clear hb2
      go_wp2
      go_ret
      exact ⟨ret_s R.out, HB2.out⟩
end Go.Proofs.YtomhekohcadijaaGreatDoor
namespace Go.Proofs.YtomhekohcadijaaGreatDoor
open Go.RowKit Go.Shelf

end Go.Proofs.YtomhekohcadijaaGreatDoor
namespace Go.Proofs.YtomhekohcadijaaGreatDoor
open Go.RowKit Go.Shelf

end Go.Proofs.YtomhekohcadijaaGreatDoor
namespace Go.Proofs.YtomhekohcadijaaGreatDoor
open Go.RowKit Go.Shelf

noncomputable def whoAt (W : World) (v : Value) : List ByteArray := open Classical in if h : ∃ us : List ByteArray, SlA W 1 v us.length (strs us) then h.choose else []
theorem SlA.same {W : World} {v : Value} {a b : List ByteArray} (h : SlA W 1 v a.length (strs a)) (k : SlA W 1 v b.length (strs b)) : a = b := by
  have hl : a.length = b.length := by
    obtain ⟨x, c, e⟩ := h.form
    obtain ⟨y, d, e'⟩ := k.form
    rw [e] at e'
    simp only [Value.slice.injEq] at e'
    omega
  by_cases h0 : 0 < a.length
  · obtain ⟨b1, o1, c1, e1, _, _, _, hx1⟩ := h.pos h0
    obtain ⟨b2, o2, c2, e2, _, _, _, hx2⟩ := k.pos (by omega)
    rw [e1] at e2
    simp only [Value.slice.injEq, Option.some.injEq, Addr.mk.injEq] at e2
    obtain ⟨⟨rfl, rfl, _⟩, _⟩ := e2
    refine List.ext_getElem hl fun i h1 h2 => ?_
    have p1 := hx1 i _ (strs_get h1)
    have p2 := hx2 i _ (strs_get h2)
    rw [p1] at p2
    simpa using p2
  · rw [List.eq_nil_of_length_eq_zero (show a.length = 0 by omega), List.eq_nil_of_length_eq_zero (show b.length = 0 by omega)]
theorem whoAt_eq {W : World} {v : Value} {us : List ByteArray} (h : SlA W 1 v us.length (strs us)) : whoAt W v = us := by
  have hx : ∃ us : List ByteArray, SlA W 1 v us.length (strs us) := ⟨us, h⟩
  unfold whoAt
  rw [dif_pos hx]
  exact SlA.same hx.choose_spec h

structure PolD (w : World) (v0 v1 v2 v3 : Value) (p : Pd) (zs : List (Qd × Value)) : Prop where
  z : zs.map (·.1) = p.q
  rs : SlA w 9 v0 p.l.length (p.l.flatMap St.cells)
  rg : SlA w 2 v1 p.g.length (p.g.flatMap Rl.cells)
  rh : SlA w 2 v2 p.h.length (p.h.flatMap Rl.cells)
  rq : SlA w 6 v3 zs.length ((zs.map qz).flatMap Qv.cells)
  rw : ∀ z ∈ zs, SlA w 1 z.2 z.1.us.length (strs z.1.us)
theorem PolD.below {w w' : World} {v0 v1 v2 v3 : Value} {p : Pd} {zs : List (Qd × Value)} (h : PolD w v0 v1 v2 v3 p zs) (hb : Below w.heap.size w w') : PolD w' v0 v1 v2 v3 p zs :=
  ⟨h.z, h.rs.below hb, h.rg.below hb, h.rh.below hb, h.rq.below hb, fun z hz => (h.rw z hz).below hb⟩
structure LeP (p : Pd) (m n : Nat) : Prop where
  l : allLe p.l m
  g : ∀ x ∈ p.g, x.le m
  h : ∀ x ∈ p.h, x.le m
  qa : ∀ x ∈ p.q, x.a.le m
  qb : ∀ x ∈ p.q, x.b.le m
  qs : ∀ x ∈ p.q, ∀ s ∈ x.us, s.size ≤ m
  qn : ∀ x ∈ p.q, x.us.length ≤ n
theorem rl_le_mono {x : Rl} {m n : Nat} (h : x.le m) (hmn : m ≤ n) : x.le n := ⟨Nat.le_trans h.1 hmn, Nat.le_trans h.2 hmn⟩
theorem st_le_mono {x : St} {m n : Nat} (h : x.le m) (hmn : m ≤ n) : x.le n :=
  ⟨rl_le_mono h.1 hmn, Nat.le_trans h.2.1 hmn, rl_le_mono h.2.2.1 hmn, rl_le_mono h.2.2.2.1 hmn, Nat.le_trans h.2.2.2.2 hmn⟩
theorem LeP.mono {p : Pd} {m n k j : Nat} (h : LeP p m n) (hm : m ≤ k) (hn : n ≤ j) : LeP p k j :=
  ⟨fun x hx => st_le_mono (h.l x hx) hm, fun x hx => rl_le_mono (h.g x hx) hm, fun x hx => rl_le_mono (h.h x hx) hm, fun x hx => rl_le_mono (h.qa x hx) hm, fun x hx => rl_le_mono (h.qb x hx) hm, fun x hx s hs => Nat.le_trans (h.qs x hx s hs) hm, fun x hx => Nat.le_trans (h.qn x hx) hn⟩
theorem PolD.at {w : World} {v0 v1 v2 v3 : Value} {p : Pd} {zs : List (Qd × Value)} (h : PolD w v0 v1 v2 v3 p zs) {n : Nat} (hl : LeP p 9223372036854775807 n) : PolAt w v0 v1 v2 v3 p.l p.g p.h (zs.map qz) := by
  have hm : ∀ z ∈ zs, z.1 ∈ p.q := fun z hz => by rw [← h.z]; exact List.mem_map_of_mem hz
  refine ⟨h.rs, h.rg, h.rh, by rw [List.length_map]; exact h.rq, hl.l, hl.g, hl.h, fun x hx => ?_⟩
  obtain ⟨z, hz, rfl⟩ := List.mem_map.1 hx
  exact ⟨hl.qa _ (hm z hz), hl.qb _ (hm z hz), z.1.us, h.rw z hz, hl.qs _ (hm z hz)⟩
noncomputable def FAt (W : World) (q : Qv) : List ByteArray := whoAt W q.w
theorem PolD.F {w : World} {v0 v1 v2 v3 : Value} {p : Pd} {zs : List (Qd × Value)} (h : PolD w v0 v1 v2 v3 p zs) : ∀ z ∈ zs, FAt w (qz z) = z.1.us := fun z hz => whoAt_eq (h.rw z hz)
theorem PolD.who {w : World} {v0 v1 v2 v3 : Value} {p : Pd} {zs : List (Qd × Value)} (h : PolD w v0 v1 v2 v3 p zs) {m n : Nat} (hl : LeP p m n) (hn : n ≤ 40) : WhoF w (zs.map qz) (FAt w) := fun x hx => by
  obtain ⟨z, hz, rfl⟩ := List.mem_map.1 hx
  have hm : z.1 ∈ p.q := by rw [← h.z]; exact List.mem_map_of_mem hz
  rw [h.F z hz]
  exact ⟨h.rw z hz, Nat.le_trans (hl.qn _ hm) hn⟩
theorem PolD.qlen {w : World} {v0 v1 v2 v3 : Value} {p : Pd} {zs : List (Qd × Value)} (h : PolD w v0 v1 v2 v3 p zs) : (zs.map qz).length = p.q.length := by rw [List.length_map, ← h.z, List.length_map]
theorem okP_le {p : Pd} (h : OkP p) : LeP p 8 12 :=
  ⟨fun x hx => rightS_le (h.l x hx), fun x hx => isRole_le (h.g x hx), fun x hx => isRole_le (h.h x hx), fun x hx => good_a (h.q x hx), fun x hx => good_b (h.q x hx), fun x hx => good_us (h.q x hx), fun x hx => (h.q x hx).few⟩
end Go.Proofs.YtomhekohcadijaaGreatDoor
namespace Go.Proofs.YtomhekohcadijaaGreatDoor
open Go.RowKit Go.Shelf

end Go.Proofs.YtomhekohcadijaaGreatDoor
namespace Go.Proofs.YtomhekohcadijaaGreatDoor
open Go.RowKit Go.Shelf

end Go.Proofs.YtomhekohcadijaaGreatDoor
namespace Go.Proofs.YtomhekohcadijaaGreatDoor
open Go.RowKit Go.Shelf

end Go.Proofs.YtomhekohcadijaaGreatDoor
namespace Go.Proofs.YtomhekohcadijaaGreatDoor
open Go.RowKit Go.Shelf

end Go.Proofs.YtomhekohcadijaaGreatDoor
namespace Go.Proofs.YtomhekohcadijaaGreatDoor
open Go.RowKit Go.Shelf

theorem six_of_int {k : Int} (h1 : 1 ≤ k) (h6 : k ≤ 6) : k = 1 ∨ k = 2 ∨ k = 3 ∨ k = 4 ∨ k = 5 ∨ k = 6 := by omega
def WordsR (k : Int) (w : World) (e : Ending) (w' : World) : Prop := ∃ b : Nat, w.heap.size ≤ b ∧ e = .returned (.slice (some ⟨b, 0, none⟩) (wordsL k).length (wordsL k).length) ∧ w'.heap[b]? = some (.cells (strs (wordsL k)).toArray 9 (0, 0)) ∧ Below w.heap.size w w'
set_option maxRecDepth 100000 in
set_option maxHeartbeats 2000000 in
theorem query_Words (q : Qv) (h1 : 1 ≤ q.k) (h6 : q.k ≤ 6) (w : World) : Calls Tryz.prog 175 #[qv q] w fun e w' => WordsR q.k w e w' := by
  obtain ⟨k, ⟨a1, a2⟩, ⟨b1, b2⟩, v⟩ := q
  dsimp only at h1 h6
  have fin : ∀ (cs : Array Value), Below w.heap.size w ((w.alloc (.cells #[.int .i64 k, .string a1, .string a2, .string b1, .string b2, v] 83)).alloc (.cells cs 9)) := fun cs => ((Below.refl _ _).alloc (Nat.le_refl _) _).alloc (by simp) _
  have new : ∀ (cs : Array Value), ((w.alloc (.cells #[.int .i64 k, .string a1, .string a2, .string b1, .string b2, v] 83)).alloc (.cells cs 9)).heap[w.heap.size + 1]? = some (.cells cs 9 (0, 0)) := fun cs => by
    have := heap_alloc_new (w.alloc (.cells #[.int .i64 k, .string a1, .string a2, .string b1, .string b2, v] 83)) (.cells cs 9)
    simpa using this
  have FIN := Lib.hid fin
  have NEW := Lib.hid new
  clear fin new
  rcases six_of_int h1 h6 with rfl | rfl | rfl | rfl | rfl | rfl
  all_goals (
    go_enter Tryz.func175, Tryz.ntmps175
    go_wp2
    go_ret
    exact ⟨w.heap.size + 1, by omega, rfl, NEW.out _, FIN.out _⟩)
end Go.Proofs.YtomhekohcadijaaGreatDoor
namespace Go.Proofs.YtomhekohcadijaaGreatDoor
open Go.RowKit Go.Shelf

theorem str_Join (v : Value) (xs : List ByteArray) (sep : ByteArray) (w : World) (h : SlA w 1 v xs.length (strs xs)) (hN : xs.length ≤ 1000000) (hlen : (joinB xs sep).size ≤ 140737488355328) :
    Calls Tryz.prog 120 #[v, .string sep] w fun e w' => e = .returned (.string (joinB xs sep)) ∧ Below w.heap.size w w' := by
  obtain ⟨ao, c, rfl⟩ := h.form
  by_cases h0 : xs.length = 0
  · have hx : xs = [] := List.eq_nil_of_length_eq_zero h0
    subst hx
    refine (str_Join_none ao c sep w).mono ?_
    rintro e w' ⟨rfl, rfl⟩
    exact ⟨rfl, Below.refl _ _⟩
  · obtain ⟨b1, o1, c1, he1, hc1, hm1, hb1, hx1⟩ := h.pos (by omega)
    simp only [Value.slice.injEq, true_and] at he1
    obtain ⟨rfl, rfl⟩ := he1
    have hcl : ∀ (j : Nat) x, xs[j]? = some x → w.cell? ⟨b1, o1 + j, none⟩ = some (.string x) := fun j x hj => hx1 j _ (by unfold strs; rw [List.getElem?_map, hj]; rfl)
    by_cases h1 : xs.length = 1
    · obtain ⟨x, hx⟩ := List.length_eq_one_iff.1 h1
      subst hx
      refine (str_Join_one b1 o1 c x sep w (by have := hcl 0 x rfl; simpa using this)).mono ?_
      rintro e w' ⟨rfl, rfl⟩
      exact ⟨by rw [joinB_one], Below.refl _ _⟩
    · refine (str_Join_many b1 o1 c xs sep w hcl hb1 (by omega) (by omega) hc1 ?_).mono ?_
      · have : (joinB xs sep).size = (Lib.join (xs.map (·.data.toList)) sep.data.toList).length := by unfold joinB; simp [ByteArray.size, bl]
        omega
      · rintro e w' ⟨rfl, hb⟩
        exact ⟨rfl, hb⟩
end Go.Proofs.YtomhekohcadijaaGreatDoor
