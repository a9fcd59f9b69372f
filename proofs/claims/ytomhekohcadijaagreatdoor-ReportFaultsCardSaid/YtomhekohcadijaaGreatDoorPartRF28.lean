/- How two policies differ, in plain Lean. Decimal digits: plain laws. Verdicts and their text, in plain Lean: what is printed is read as it was. Verdicts in memory, and which of them may be: plain laws. -/
import Derived.Test.YtomhekohcadijaaGreatDoorPartRF27
import Derived.Lib.IndexMore
import Derived.Lib.Strings
import Derived.Test.YtomhekohcadijaaGreatDoorPartRF1
namespace Go.Proofs.YtomhekohcadijaaGreatDoor
open Go.RowKit Go.Shelf

structure Dl where
  more : List St
  gone : List St
  grow : List Rl
  ungrow : List Rl
  shrink : List Rl
  unshrink : List Rl
def outR (a b : List Rl) : List Rl := (ordR a).filter fun x => !hasR b x
def Dl.of (l1 : List St) (g1 h1 : List Rl) (l2 : List St) (g2 h2 : List Rl) : Dl := ⟨minusS l2 l1, minusS l1 l2, outR g2 g1, outR g1 g2, outR h2 h1, outR h1 h2⟩
theorem minus_union (a b : List St) : unionS (minusS a (minusS a b)) (minusS b a) = ord b := by
  refine asc_unique _ _ (union_asc _ _) (ord_asc _) fun x => ?_
  rw [union_mem, minus_mem, minus_mem, minus_mem, ord_mem]
  by_cases h1 : x ∈ a <;> by_cases h2 : x ∈ b <;> simp [h1, h2]
def mk0 : ByteArray := ⟨#[45, 32]⟩
def mk1 : ByteArray := ⟨#[43, 32]⟩
def lnS (m : ByteArray) (l : List St) : List ByteArray := l.map fun s => m ++ printS s
end Go.Proofs.YtomhekohcadijaaGreatDoor
namespace Go.Proofs.YtomhekohcadijaaGreatDoor
open Go.RowKit Go.Shelf

def decL (n : Nat) : List UInt8 := if n < 10 then [UInt8.ofNat (48 + n)] else decL (n / 10) ++ [UInt8.ofNat (48 + n % 10)]
termination_by n
decreasing_by omega
theorem decL_small {n : Nat} (h : n < 10) : decL n = [UInt8.ofNat (48 + n)] := by rw [decL, if_pos h]
theorem decL_big {n : Nat} (h : ¬ n < 10) : decL n = decL (n / 10) ++ decL (n % 10) := by
  rw [decL, if_neg h, decL_small (n := n % 10) (by omega)]
def valL (l : List UInt8) : Nat := l.foldl (fun a c => a * 10 + (c.toNat - 48)) 0
theorem val_dec (n : Nat) : valL (decL n) = n := by
  induction n using Nat.strongRecOn with
  | ind n ih =>
    have hc : ∀ d, d < 10 → (UInt8.ofNat (48 + d)).toNat - 48 = d := fun d hd => by rw [UInt8.toNat_ofNat']; omega
    by_cases h : n < 10
    · rw [decL_small h]; simp only [valL, List.foldl_cons, List.foldl_nil]; rw [hc n h]; omega
    · rw [decL, if_neg h]
      unfold valL
      rw [List.foldl_append]
      have := ih (n / 10) (by omega)
      unfold valL at this
      rw [this]
      simp only [List.foldl_cons, List.foldl_nil]
      rw [hc _ (by omega)]
      omega
def isDig (c : UInt8) : Bool := decide (48 ≤ c.toNat) && decide (c.toNat ≤ 57)
theorem dec_digs (n : Nat) : ∀ c ∈ decL n, isDig c = true := by
  induction n using Nat.strongRecOn with
  | ind n ih =>
    have hc : ∀ d, d < 10 → isDig (UInt8.ofNat (48 + d)) = true := fun d hd => by
      unfold isDig
      have : (UInt8.ofNat (48 + d)).toNat = 48 + d := by rw [UInt8.toNat_ofNat']; omega
      rw [this]
      simp
      omega
    intro c hm
    by_cases h : n < 10
    · rw [decL_small h, List.mem_singleton] at hm
      rw [hm]
      exact hc n h
    · rw [decL, if_neg h] at hm
      rcases List.mem_append.1 hm with hm | hm
      · exact ih (n / 10) (by omega) c hm
      · rw [List.mem_singleton.1 hm]
        exact hc _ (by omega)
theorem dec_fewD (k : Nat) : ∀ n : Nat, n < 10 ^ k → 1 ≤ k → (decL n).length ≤ k := by
  induction k with
  | zero => intro n _ h; omega
  | succ k ih =>
    intro n hn _
    by_cases h : n < 10
    · rw [decL_small h]; simp
    · rw [decL, if_neg h, List.length_append]
      have hk : 1 ≤ k := by
        rcases Nat.eq_zero_or_pos k with e | e
        · subst e
          rw [Nat.pow_succ, Nat.pow_zero] at hn
          omega
        · exact e
      have := ih (n / 10) (by rw [Nat.pow_succ] at hn; omega) hk
      simp only [List.length_cons, List.length_nil]
      omega
theorem dec_ne (n : Nat) : decL n ≠ [] := by
  by_cases h : n < 10
  · rw [decL_small h]; simp
  · rw [decL, if_neg h]; simp
def numL (s : List UInt8) : Nat := if (s.take 18).all isDig = true then valL (s.take 18) else 0
theorem num_dec {n : Nat} (h : n < 1000000000000000000) : numL (decL n) = n := by
  have h18 : (10 : Nat) ^ 18 = 1000000000000000000 := by decide
  have hl := dec_fewD 18 n (by rw [h18]; exact h) (by omega)
  unfold numL
  rw [List.take_of_length_le hl, if_pos (List.all_eq_true.2 (dec_digs n)), val_dec]
theorem index_at (c : UInt8) (s : List UInt8) : ∀ (a b : List UInt8), (∀ x ∈ a, ¬ x = c) → Lib.index (a ++ (c :: s) ++ b) (c :: s) = (a.length : Int)
  | [], b, _ => by
    have h1 : (c :: s).isPrefixOf (c :: (s ++ b)) = true := by rw [List.isPrefixOf_iff_prefix]; exact ⟨b, by simp⟩
    simp only [List.nil_append, List.cons_append, Lib.index, h1]
    rfl
  | x :: a, b, h => by
    have hx : ¬ x = c := h x (by simp)
    have h1 : ((c :: s).isPrefixOf (x :: (a ++ (c :: s) ++ b))) = false := by simp [List.isPrefixOf, Ne.symm hx]
    have ih := index_at c s a b (fun d hd => h d (by simp [hd]))
    rw [List.cons_append, List.cons_append]
    simp only [Lib.index, h1, ih]
    have h3 : ((a.length : Int) == -1) = false := by rw [beq_eq_false_iff_ne]; omega
    rw [h3]
    simp
theorem cut_at (c : UInt8) (s a b : List UInt8) (h : ∀ x ∈ a, ¬ x = c) : Lib.cut (a ++ (c :: s) ++ b) (c :: s) = (a, b, true) := by
  unfold Lib.cut
  rw [index_at c s a b h, if_pos (by omega)]
  simp
def faultT (y l c : Nat) : List UInt8 := [101, 114, 114, 111, 114, 32] ++ decL y ++ [32, 97, 116, 32] ++ (decL l ++ [58] ++ decL c)
def readF (s : List UInt8) : Nat × Nat × Nat :=
  let h := Lib.cut (Lib.trimPrefix s [101, 114, 114, 111, 114, 32]) [32, 97, 116, 32]
  let p := Lib.cut h.2.1 [58]
  (numL h.1, numL p.1, numL p.2.1)
theorem dig_not {c d : UInt8} (h : isDig c = true) (hd : isDig d = false) : ¬ c = d := fun e => by rw [e, hd] at h; cases h
theorem read_fault {y l c : Nat} (hy : y < 1000000000000000000) (hl : l < 1000000000000000000) (hc : c < 1000000000000000000) : readF (faultT y l c) = (y, l, c) := by
  unfold readF faultT
  have e1 : Lib.trimPrefix ([101, 114, 114, 111, 114, 32] ++ decL y ++ [32, 97, 116, 32] ++ (decL l ++ [58] ++ decL c)) [101, 114, 114, 111, 114, 32] = decL y ++ [32, 97, 116, 32] ++ (decL l ++ [58] ++ decL c) := by
    unfold Lib.trimPrefix Lib.hasPrefix
    rw [if_pos (by rw [List.isPrefixOf_iff_prefix]; exact ⟨decL y ++ [32, 97, 116, 32] ++ (decL l ++ [58] ++ decL c), by simp⟩)]
    simp
  rw [e1]
  have e2 := cut_at 32 [97, 116, 32] (decL y) (decL l ++ [58] ++ decL c) (fun x hx => dig_not (dec_digs y x hx) (by decide))
  rw [e2]
  dsimp only
  have e3 := cut_at 58 [] (decL l) (decL c) (fun x hx => dig_not (dec_digs l x hx) (by decide))
  rw [e3]
  dsimp only
  rw [num_dec hy, num_dec hl, num_dec hc]
end Go.Proofs.YtomhekohcadijaaGreatDoor
namespace Go.Proofs.YtomhekohcadijaaGreatDoor
open Go.RowKit Go.Shelf

theorem index_mid (c : UInt8) (p s : List UInt8) (hp : ∀ x ∈ p, ¬ x = c) : ∀ (a b : List UInt8), (∀ x ∈ a, ¬ x = c) → Lib.index (a ++ (p ++ c :: s) ++ b) (p ++ c :: s) = (a.length : Int)
  | [], b, _ => by
    have h1 : (p ++ c :: s).isPrefixOf (p ++ c :: s ++ b) = true := by rw [List.isPrefixOf_iff_prefix]; exact ⟨b, rfl⟩
    rw [List.nil_append]
    cases h : (p ++ c :: s ++ b) with
    | nil => simp at h
    | cons x r =>
      rw [h] at h1
      simp only [Lib.index, h1]
      rfl
  | x :: a, b, h => by
    have h1 : ((p ++ c :: s).isPrefixOf (x :: (a ++ (p ++ c :: s) ++ b))) = false := by
      rw [← Bool.not_eq_true, List.isPrefixOf_iff_prefix]
      rintro ⟨t, e⟩
      have f : ∀ (u v : List UInt8), (∀ y ∈ u, ¬ y = c) → (u ++ c :: v).takeWhile (fun d => decide (¬ d = c)) = u := fun u v hu => by
        rw [List.takeWhile_append_of_pos (fun y hy => by simpa using hu y hy)]
        simp
      have e1 : p ++ c :: s ++ t = p ++ c :: (s ++ t) := by simp
      have e2 : x :: (a ++ (p ++ c :: s) ++ b) = (x :: a ++ p) ++ c :: (s ++ b) := by simp
      rw [e1, e2] at e
      have e3 := congrArg (List.takeWhile (fun d => decide (¬ d = c))) e
      rw [f p _ hp, f (x :: a ++ p) _ (fun y hy => by
        rcases List.mem_append.1 hy with hy | hy
        · exact h y hy
        · exact hp y hy)] at e3
      have e4 := congrArg List.length e3
      simp only [List.cons_append, List.length_cons, List.length_append] at e4
      omega
    have ih := index_mid c p s hp a b (fun d hd => h d (by simp [hd]))
    rw [List.cons_append, List.cons_append]
    simp only [Lib.index, h1, ih]
    have h3 : ((a.length : Int) == -1) = false := by rw [beq_eq_false_iff_ne]; omega
    rw [h3]
    simp
theorem cut_mid (c : UInt8) (p s a b : List UInt8) (hp : ∀ x ∈ p, ¬ x = c) (h : ∀ x ∈ a, ¬ x = c) : Lib.cut (a ++ (p ++ c :: s) ++ b) (p ++ c :: s) = (a, b, true) := by
  unfold Lib.cut
  rw [index_mid c p s hp a b h, if_pos (by omega)]
  simp

theorem isP_col {lo hi : Int} {w : List UInt8} (h : isP lo hi w = true) : ∀ c ∈ w, ¬ c = 58 := by
  match w, h with
  | c :: w, h =>
    simp only [isP, Bool.and_eq_true, decide_eq_true_iff] at h
    intro x hx e
    have := List.all_eq_true.1 h.2 x hx
    rw [e] at this
    exact absurd this (by decide)
theorem role_col {x : Rl} (h : isRole x = true) : ∀ c ∈ bl (roleT x), ¬ c = 58 := by
  simp only [isRole, Bool.and_eq_true] at h
  have e : bl (roleT x) = bl x.o ++ 46 :: bl x.n := by simp [roleT, bl]
  intro c hc
  rw [e] at hc
  rcases List.mem_append.1 hc with hc | hc
  · exact isP_col h.1 c hc
  rcases List.mem_cons.1 hc with rfl | hc
  · decide
  · exact isP_col h.2 c hc
theorem tailL_col : ∀ (xs : List ByteArray), (∀ x ∈ xs, ∀ c ∈ bl x, ¬ c = 58) → ∀ c ∈ tailL xs, ¬ c = 58
  | [], _ => fun c hc => by cases hc
  | x :: r, h => fun c hc => by
    rw [tailL_cons] at hc
    rcases List.mem_cons.1 hc with rfl | hc
    · decide
    rcases List.mem_append.1 hc with hc | hc
    · exact h x (by simp) c hc
    · exact tailL_col r (fun y hy => h y (by simp [hy])) c hc
theorem words_col (k : Int) : ∀ c ∈ tailL (wordsL k), ¬ c = 58 := by
  unfold wordsL
  split
  · decide
  split
  · decide
  split
  · decide
  split
  · decide
  split
  · decide
  split <;> decide
theorem textQ_col (q : Qd) (h : GoodQ q) : ∀ c ∈ bl (textQ q), ¬ c = 58 := by
  unfold textQ
  rw [parts_line, lineQ_app]
  intro c hc
  rcases List.mem_append.1 hc with hc | hc
  · unfold headW at hc
    split at hc
    · exact isP_col (word_isP' _ (by simp)) c hc
    · exact isP_col (word_isP' _ (by simp)) c hc
  rcases List.mem_cons.1 hc with rfl | hc
  · decide
  rcases List.mem_append.1 hc with hc | hc
  · exact role_col h.a c hc
  rcases List.mem_append.1 hc with hc | hc
  · exact words_col _ c hc
  rcases List.mem_append.1 hc with hc | hc
  · refine tailL_col _ (fun x hx => ?_) c hc
    split at hx
    · rename_i hs
      rw [List.mem_singleton.1 hx]
      refine role_col (h.two ?_)
      unfold secB at hs
      simp only [Bool.or_eq_true, decide_eq_true_iff] at hs
      omega
    · cases hx
  · exact tailL_col _ (fun x hx => isP_col (h.p x hx)) c hc

structure Vd where
  k : Int
  st : List St
def wordB (k : Int) : ByteArray :=
  if k = 1 then ⟨#[104, 111, 108, 100, 115]⟩ else if k = 2 then ⟨#[102, 97, 105, 108, 115]⟩ else if k = 3 then ⟨#[121, 101, 115]⟩
  else if k = 4 then ⟨#[110, 111]⟩ else if k = 5 then ⟨#[101, 120, 104, 97, 117, 115, 116, 101, 100]⟩ else ⟨#[]⟩
def kindVB (s : ByteArray) : Int :=
  if s = wordB 1 then 1 else if s = wordB 2 then 2 else if s = wordB 3 then 3 else if s = wordB 4 then 4 else if s = wordB 5 then 5 else 0
def statedV (k : Int) : Bool := decide (k = 2) || decide (k = 3)
theorem kind_word {k : Int} (h1 : 1 ≤ k) (h5 : k ≤ 5) : kindVB (wordB k) = k := by
  rcases (by omega : k = 1 ∨ k = 2 ∨ k = 3 ∨ k = 4 ∨ k = 5) with e | e | e | e | e <;> subst e <;> decide
theorem kind_rng (s : ByteArray) : 0 ≤ kindVB s ∧ kindVB s ≤ 5 := by
  unfold kindVB
  repeat' split
  all_goals omega
theorem word_ten (k : Int) : ∀ c ∈ bl (wordB k), ¬ c = 10 := by
  unfold wordB
  repeat' split
  all_goals decide

structure OkV (v : Vd) : Prop where
  lo : 1 ≤ v.k
  hi : v.k ≤ 5
  no : statedV v.k = false → v.st = []
  ok : ∀ x ∈ v.st, rightS x = true
  or : v.st = ord v.st
def headV (i : Nat) (q : Qd) (k : Int) : ByteArray := ⟨(decL (i + 1)).toArray⟩ ++ ⟨#[32]⟩ ++ textQ q ++ ⟨#[32, 58, 32]⟩ ++ wordB k
def linesV (l : List St) (i : Nat) (q : Qd) (v : Vd) : List ByteArray :=
  headV i q v.k :: (if statedV v.k = true then lnS mk1 (minusS v.st l) ++ lnS mk0 (minusS l v.st) else [])
def linesR (l : List St) : Nat → List Qd → List Vd → List ByteArray
  | i, q :: qs, v :: vs => linesV l i q v ++ linesR l (i + 1) qs vs
  | _, _, _ => []
def takeM (m : ByteArray) : List ByteArray → List St × List ByteArray
  | [] => ([], [])
  | s :: r => if (bl m).isPrefixOf (bl s) = true then ((parseS ⟨((bl s).drop (bl m).length).toArray⟩).1 :: (takeM m r).1, (takeM m r).2) else ([], s :: r)
def behW (s : ByteArray) : ByteArray := ⟨(Lib.cut (bl s) [32, 58, 32]).2.1.toArray⟩
def readR (l : List St) : List Qd → List ByteArray → List Vd × List ByteArray
  | [], L => ([], L)
  | _ :: qs, L =>
    if statedV (kindVB (behW (L.headD ⟨#[]⟩))) = true then
      (⟨kindVB (behW (L.headD ⟨#[]⟩)), unionS (minusS l (takeM mk0 (takeM mk1 L.tail).2).1) (takeM mk1 L.tail).1⟩ :: (readR l qs (takeM mk0 (takeM mk1 L.tail).2).2).1, (readR l qs (takeM mk0 (takeM mk1 L.tail).2).2).2)
    else (⟨kindVB (behW (L.headD ⟨#[]⟩)), []⟩ :: (readR l qs L.tail).1, (readR l qs L.tail).2)

theorem dec_col (n : Nat) : ∀ c ∈ decL n, ¬ c = 58 := fun c hc => dig_not (dec_digs n c hc) (by decide)
theorem dec_ten (n : Nat) : ∀ c ∈ decL n, ¬ c = 10 := fun c hc => dig_not (dec_digs n c hc) (by decide)
theorem headV_bl (i : Nat) (q : Qd) (k : Int) : bl (headV i q k) = (decL (i + 1) ++ [32] ++ bl (textQ q)) ++ ([32] ++ 58 :: [32]) ++ bl (wordB k) := by
  unfold headV
  rw [bl_app, bl_app, bl_app, bl_app, bl_mk]
  rfl
theorem behW_head (i : Nat) (q : Qd) (k : Int) (h : GoodQ q) : behW (headV i q k) = wordB k := by
  unfold behW
  rw [headV_bl]
  have e := cut_mid 58 [32] [32] (decL (i + 1) ++ [32] ++ bl (textQ q)) (bl (wordB k)) (by decide) (fun x hx => by
    rcases List.mem_append.1 hx with hx | hx
    · rcases List.mem_append.1 hx with hx | hx
      · exact dec_col _ x hx
      · rw [List.mem_singleton.1 hx]; decide
    · exact textQ_col q h x hx)
  rw [show ([32, 58, 32] : List UInt8) = [32] ++ 58 :: [32] from rfl, e]
def NoMk (m : ByteArray) (L : List ByteArray) : Prop := ∀ s r, L = s :: r → (bl m).isPrefixOf (bl s) = false
theorem takeM_ln (m : ByteArray) (L : List ByteArray) (hL : NoMk m L) : ∀ (l : List St), (∀ x ∈ l, rightS x = true) → takeM m (lnS m l ++ L) = (l, L)
  | [], _ => by
    cases L with
    | nil => rfl
    | cons s r =>
      show takeM m (s :: r) = _
      unfold takeM
      rw [hL s r rfl]
      rfl
  | x :: l, h => by
    have ih := takeM_ln m L hL l (fun y hy => h y (by simp [hy]))
    have e : lnS m (x :: l) ++ L = (m ++ printS x) :: (lnS m l ++ L) := rfl
    have h1 : (bl m).isPrefixOf (bl (m ++ printS x)) = true := by rw [List.isPrefixOf_iff_prefix, bl_app]; exact ⟨_, rfl⟩
    rw [e]
    unfold takeM
    rw [if_pos h1, ih, bl_app, List.drop_left, ba_bl, parse_print x (h x (by simp))]
theorem noMk_head (m : ByteArray) (hm : ∃ c r, bl m = c :: r ∧ isDig c = false) (i : Nat) (q : Qd) (k : Int) (L : List ByteArray) : NoMk m (headV i q k :: L) := by
  intro s r e
  obtain ⟨rfl, rfl⟩ := List.cons.inj e
  obtain ⟨c, t, hc, hd⟩ := hm
  rw [hc, headV_bl]
  cases h : decL (i + 1) with
  | nil => exact absurd h (dec_ne _)
  | cons d u =>
    have := dig_not (dec_digs (i + 1) d (by rw [h]; simp)) hd
    simp only [List.cons_append, List.isPrefixOf]
    rw [show (c == d) = false from by rw [beq_eq_false_iff_ne]; exact Ne.symm this]
    rfl
theorem noMk_nil (m : ByteArray) : NoMk m [] := fun _ _ e => by cases e
theorem mk0_dig : ∃ c r, bl mk0 = c :: r ∧ isDig c = false := ⟨45, [32], rfl, by decide⟩
theorem mk1_dig : ∃ c r, bl mk1 = c :: r ∧ isDig c = false := ⟨43, [32], rfl, by decide⟩
theorem noMk_lines (m : ByteArray) (hm : ∃ c r, bl m = c :: r ∧ isDig c = false) (l : List St) : ∀ (i : Nat) (qs : List Qd) (vs : List Vd), NoMk m (linesR l i qs vs)
  | _, [], _ => noMk_nil m
  | _, _ :: _, [] => noMk_nil m
  | i, q :: qs, v :: vs => by
    unfold linesR linesV
    rw [List.cons_append]
    exact noMk_head m hm i q v.k _
theorem noMk_plus (l : List St) (L : List ByteArray) (hL : NoMk mk1 L) : NoMk mk1 (lnS mk0 l ++ L) := by
  cases l with
  | nil => exact hL
  | cons x l =>
    intro s r e
    obtain ⟨rfl, _⟩ := List.cons.inj e
    rw [bl_app]
    rfl
theorem read_lines (l : List St) (hl : ∀ x ∈ l, rightS x = true) : ∀ (i : Nat) (qs : List Qd) (vs : List Vd), (∀ q ∈ qs, GoodQ q) → (∀ v ∈ vs, OkV v) → qs.length = vs.length → readR l qs (linesR l i qs vs) = (vs, [])
  | _, [], [], _, _, _ => rfl
  | i, q :: qs, v :: vs, hq, hv, hn => by
    have ih := read_lines l hl (i + 1) qs vs (fun x hx => hq x (by simp [hx])) (fun x hx => hv x (by simp [hx])) (by simpa using hn)
    have V := hv v (by simp)
    have hw : kindVB (behW (headV i q v.k)) = v.k := by rw [behW_head i q v.k (hq q (by simp)), kind_word V.lo V.hi]
    unfold linesR linesV
    rw [List.cons_append]
    unfold readR
    rw [List.headD_cons, List.tail_cons, hw]
    by_cases hs : statedV v.k = true
    · rw [if_pos hs, if_pos hs, List.append_assoc,
        takeM_ln mk1 _ (noMk_plus _ _ (noMk_lines mk1 mk1_dig l _ _ _)) _ (fun x hx => V.ok x ((minus_mem _ _ x).1 hx).1),
        takeM_ln mk0 _ (noMk_lines mk0 mk0_dig l _ _ _) _ (fun x hx => hl x ((minus_mem _ _ x).1 hx).1), ih, minus_union, ← V.or]
    · have hs' : statedV v.k = false := by simpa using hs
      rw [if_neg hs, if_neg hs, List.nil_append, ih, ← V.no hs']
  | _, [], _ :: _, _, _, h => by simp at h
  | _, _ :: _, [], _, _, h => by simp at h
theorem headV_ten (i : Nat) (q : Qd) (k : Int) (h : GoodQ q) : ∀ c ∈ bl (headV i q k), ¬ c = 10 := by
  intro c hc
  rw [headV_bl] at hc
  simp only [List.mem_append] at hc
  rcases hc with (((hc | hc) | hc) | hc) | hc
  · exact dec_ten _ c hc
  · rw [List.mem_singleton.1 hc]; decide
  · exact textQ_ten q h c hc
  · exact (by decide : ∀ c ∈ ([32] ++ 58 :: [32] : List UInt8), ¬ c = 10) c (by simpa using hc)
  · exact word_ten k c hc
theorem lnS_ten (m : ByteArray) (hm : ∀ c ∈ bl m, ¬ c = 10) (l : List St) (h : ∀ x ∈ l, rightS x = true) : ∀ s ∈ lnS m l, ∀ c ∈ bl s, ¬ c = 10 := by
  intro s hs c hc
  obtain ⟨x, hx, rfl⟩ := List.mem_map.1 hs
  rw [bl_app] at hc
  rcases List.mem_append.1 hc with hc | hc
  · exact hm c hc
  · exact printS_ten x (h x hx) c hc
theorem linesR_ten (l : List St) (hl : ∀ x ∈ l, rightS x = true) : ∀ (i : Nat) (qs : List Qd) (vs : List Vd), (∀ q ∈ qs, GoodQ q) → (∀ v ∈ vs, OkV v) → ∀ s ∈ linesR l i qs vs, ∀ c ∈ bl s, ¬ c = 10
  | _, [], _, _, _ => fun s hs => by simp [linesR] at hs
  | _, _ :: _, [], _, _ => fun s hs => by simp [linesR] at hs
  | i, q :: qs, v :: vs, hq, hv => fun s hs => by
    unfold linesR linesV at hs
    rw [List.cons_append] at hs
    rcases List.mem_cons.1 hs with rfl | hs
    · exact headV_ten i q v.k (hq q (by simp))
    rcases List.mem_append.1 hs with hs | hs
    · split at hs
      · rcases List.mem_append.1 hs with hs | hs
        · exact lnS_ten mk1 (by decide) _ (fun x hx => (hv v (by simp)).ok x ((minus_mem _ _ x).1 hx).1) s hs
        · exact lnS_ten mk0 (by decide) _ (fun x hx => hl x ((minus_mem _ _ x).1 hx).1) s hs
      · cases hs
    · exact linesR_ten l hl (i + 1) qs vs (fun x hx => hq x (by simp [hx])) (fun x hx => hv x (by simp [hx])) s hs
def textR (l : List St) (qs : List Qd) (vs : List Vd) : ByteArray := ⟨(joinN (linesR l 0 qs vs)).toArray⟩
theorem read_text (l : List St) (qs : List Qd) (vs : List Vd) (hl : ∀ x ∈ l, rightS x = true) (hq : ∀ q ∈ qs, GoodQ q) (hv : ∀ v ∈ vs, OkV v) (hn : qs.length = vs.length) :
    readR l qs (linesB (textR l qs vs)) = (vs, []) := by
  unfold textR
  rw [linesB_join (linesR_ten l hl 0 qs vs hq hv), read_lines l hl 0 qs vs hq hv hn]
end Go.Proofs.YtomhekohcadijaaGreatDoor
namespace Go.Proofs.YtomhekohcadijaaGreatDoor
open Go.RowKit Go.Shelf

structure VZ where
  d : Vd
  v : Value
  s : Int
  n : Int
instance : Inhabited VZ := ⟨⟨⟨0, []⟩, .slice none 0 0, 0, 0⟩⟩
def VZ.cells (z : VZ) : List Value := [.int .i64 z.d.k, z.v, .int .i64 z.s, .int .i64 z.n]
theorem VZ.cells_len (z : VZ) : z.cells.length = 4 := rfl
abbrev vzv (z : VZ) : Value := .agg #[.int .i64 z.d.k, z.v, .int .i64 z.s, .int .i64 z.n]
structure VsAt (w : World) (v : Value) (zs : List VZ) : Prop where
  r : SlA w 4 v zs.length (zs.flatMap VZ.cells)
  s : ∀ z ∈ zs, SlA w 9 z.v z.d.st.length (z.d.st.flatMap St.cells)
theorem VsAt.below {w w' : World} {v : Value} {zs : List VZ} (h : VsAt w v zs) (hb : Below w.heap.size w w') : VsAt w' v zs :=
  ⟨h.r.below hb, fun z hz => (h.s z hz).below hb⟩
theorem vz_cell {w : World} {b off : Nat} {l : List VZ} (h : ∀ j u, (l.flatMap VZ.cells)[j]? = some u → w.cell? ⟨b, off + j, none⟩ = some u) (k : Nat) (hk : k < l.length) :
    w.cell? ⟨b, off + k * 4, none⟩ = some (.int .i64 l[k].d.k) ∧ w.cell? ⟨b, off + k * 4 + 1, none⟩ = some l[k].v ∧ w.cell? ⟨b, off + k * 4 + 2, none⟩ = some (.int .i64 l[k].s) ∧ w.cell? ⟨b, off + k * 4 + 3, none⟩ = some (.int .i64 l[k].n) := by
  have hx : l[k]? = some l[k] := List.getElem?_eq_getElem hk
  have h0 := h _ _ ((flat_get VZ.cells 4 VZ.cells_len l k 0 (by omega) _ hx).trans rfl)
  have h1 := h _ _ ((flat_get VZ.cells 4 VZ.cells_len l k 1 (by omega) _ hx).trans rfl)
  have h2 := h _ _ ((flat_get VZ.cells 4 VZ.cells_len l k 2 (by omega) _ hx).trans rfl)
  have h3 := h _ _ ((flat_get VZ.cells 4 VZ.cells_len l k 3 (by omega) _ hx).trans rfl)
  exact ⟨h0, h1, h2, h3⟩

def okV (v : Vd) : Bool := (decide (1 ≤ v.k) && decide (v.k ≤ 5)) && ((statedV v.k || v.st.isEmpty) && isS v.st)
theorem okV_iff (v : Vd) : okV v = true ↔ OkV v := by
  unfold okV
  simp only [Bool.and_eq_true, decide_eq_true_iff, Bool.or_eq_true, List.isEmpty_iff]
  rw [isS_iff]
  constructor
  · rintro ⟨⟨h1, h2⟩, h3, h4, h5⟩
    exact ⟨h1, h2, fun h => by rcases h3 with h3 | h3; rw [h] at h3; cases h3; exact h3, h4, (asc_ord h5).symm⟩
  · rintro ⟨h1, h2, h3, h4, h5⟩
    refine ⟨⟨h1, h2⟩, ?_, h4, by rw [h5]; exact ord_asc _⟩
    cases h : statedV v.k with
    | true => exact .inl rfl
    | false => exact .inr (h3 h)
def okVs (zs : List VZ) : Bool := zs.all fun z => okV z.d
theorem okVs_iff (zs : List VZ) : okVs zs = true ↔ ∀ z ∈ zs, OkV z.d := by
  unfold okVs
  rw [List.all_eq_true]
  exact ⟨fun h z hz => (okV_iff _).1 (h z hz), fun h z hz => (okV_iff _).2 (h z hz)⟩
theorem okVs_no {zs : List VZ} {k : Nat} (hk : k < zs.length) (h : okV zs[k].d = false) : okVs zs = false := by
  cases e : okVs zs with
  | false => rfl
  | true => have := List.all_eq_true.1 e zs[k] (List.getElem_mem hk); rw [h] at this; cases this
theorem okVs_end {zs : List VZ} (h : ∀ j (hj : j < zs.length), okV zs[j].d = true) : okVs zs = true := by
  refine List.all_eq_true.2 fun z hz => ?_
  obtain ⟨j, hj, rfl⟩ := List.getElem_of_mem hz
  exact h j hj
theorem wordB_rng (k : Int) : ((wordB k).toList.isEmpty) = !(decide (1 ≤ k) && decide (k ≤ 5)) := by
  by_cases h : 1 ≤ k ∧ k ≤ 5
  · obtain ⟨h1, h2⟩ := h
    rcases (by omega : k = 1 ∨ k = 2 ∨ k = 3 ∨ k = 4 ∨ k = 5) with e | e | e | e | e <;> subst e <;> kernel_rfl
  · have e : wordB k = ⟨#[]⟩ := by
      unfold wordB
      rw [if_neg (by omega), if_neg (by omega), if_neg (by omega), if_neg (by omega), if_neg (by omega)]
    have h2 : (decide (1 ≤ k) && decide (k ≤ 5)) = false := by
      rw [← Bool.not_eq_true, Bool.and_eq_true, decide_eq_true_iff, decide_eq_true_iff]
      exact h
    rw [e, h2]
    exact (show (ByteArray.toList ⟨#[]⟩).isEmpty = !false by kernel_rfl)
end Go.Proofs.YtomhekohcadijaaGreatDoor
