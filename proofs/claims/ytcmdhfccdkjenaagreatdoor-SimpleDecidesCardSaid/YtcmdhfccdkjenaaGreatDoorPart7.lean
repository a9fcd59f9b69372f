/- Plain laws: which rules may be; the statement of a rule; rules and statements undo each other. Plain laws: the least model of rules, and of statements; worklists; rows of pairs. The reference's rows of texts, and numbers: crupperref01.Has, Put, New; crupperref06.Place, Role (printed by gen_reftab.py). crupperref05.Roles: some row of roles comes back (printed by gen_roles.py). crupperref05.Prins, Names, to the letter (printed by gen_prinsl.py). -/
import Derived.Test.YtcmdhfccdkjenaaGreatDoorPart6
import Derived.Test.YtcmdhfccdkjenaaGreatDoorPart3
import Derived.Test.YtcmdhfccdkjenaaGreatDoorPart5
namespace Go.Proofs.YtcmdhfccdkjenaaGreatDoor
open Go.RowKit Go.Shelf

def inR (n : Nat) (i : Int) : Bool := decide (0 ≤ i ∧ i < n)
def okRu (p l : Nat) (r : Ru) : Bool :=
 decide (p ≤ 1000) && decide (l ≤ 1000) && inR (p * l) r.h &&
 (if r.k = 1 then decide (r.a = 0 ∧ r.b = 0 ∧ r.via = 0) && inR p r.who
 else if r.k = 2 then decide (r.who = 0 ∧ r.b = 0 ∧ r.via = 0) && inR (p * l) r.a
 else if r.k = 3 then decide (r.who = 0 ∧ r.b = 0) && inR (p * l) r.a && inR l r.via
 else if r.k = 4 then decide (r.who = 0 ∧ r.via = 0) && inR (p * l) r.a && inR (p * l) r.b
 else false)
def stmtR (a b : List ByteArray) (r : Ru) : St := ⟨r.k, roleAt a b r.h, if r.k = 1 then atB a r.who else emp, if r.k = 1 then noR else roleAt a b r.a, if r.k = 4 then roleAt a b r.b else noR, if r.k = 3 then atB b r.via else emp⟩
def stmtN (a b : List ByteArray) (r : Ru) : St × Bool := if okRu a.length b.length r = true then (normalS (stmtR a b r), true) else (noS, false)
theorem stmtN_ok {a b : List ByteArray} {r : Ru} (h : okRu a.length b.length r = true) : stmtN a b r = (normalS (stmtR a b r), true) := if_pos h
theorem stmtN_no {a b : List ByteArray} {r : Ru} (h : okRu a.length b.length r = false) : stmtN a b r = (noS, false) := if_neg (by rw [h]; exact Bool.false_ne_true)
theorem inR_iff {n : Nat} {i : Int} : inR n i = true ↔ ∃ k : Nat, i = k ∧ k < n := by
 unfold inR
 rw [decide_eq_true_iff]
 constructor
 ·rintro ⟨h1, h2⟩
  obtain ⟨k, rfl⟩ := Int.eq_ofNat_of_zero_le h1
  exact ⟨k, rfl, by omega⟩
 ·rintro ⟨k, rfl, h⟩
  exact ⟨by omega, by omega⟩
theorem place_yes {l : List ByteArray} {s : ByteArray} (h : 0 ≤ placeB l s) : ∃ k : Nat, placeB l s = k ∧ ∃ hk : k < l.length, l[k] = s := by
 unfold placeB at h ⊢
 by_cases hs : hasB l s = true
 ·rw [if_pos hs]
  exact ⟨idxB l s, rfl, idxB_lt l s ((hasB_mem l s).1 hs), idxB_get l s ((hasB_mem l s).1 hs)⟩
 ·rw [if_neg hs] at h; omega
theorem roleN_yes {a b : List ByteArray} {r : Rl} (h : 0 ≤ roleN a b r) : ∃ i j : Nat, ∃ (hi : i < a.length) (hj : j < b.length), a[i] = r.o ∧ b[j] = r.n ∧ roleN a b r = (i : Int) * (b.length : Int) + (j : Int) := by
 unfold roleN at h ⊢
 by_cases hc : placeB a r.o < 0 ∨ placeB b r.n < 0
 ·rw [if_pos hc] at h; omega
 ·rw [if_neg hc]
  obtain ⟨i, e1, hi, g1⟩ := place_yes (l := a) (s := r.o) (by omega)
  obtain ⟨j, e2, hj, g2⟩ := place_yes (l := b) (s := r.n) (by omega)
  exact ⟨i, j, hi, hj, g1, g2, by rw [e1, e2]⟩
theorem roleN_at {a b : List ByteArray} {r : Rl} (h : 0 ≤ roleN a b r) : roleAt a b (roleN a b r) = r ∧ inR (a.length * b.length) (roleN a b r) = true := by
 obtain ⟨i, j, hi, hj, g1, g2, e⟩ := roleN_yes h
 refine ⟨by rw [e, roleAt_ij hi hj, g1, g2], ?_⟩
 rw [e, inR_iff]
 have : i * b.length + b.length ≤ a.length * b.length := by rw [← Nat.succ_mul]; exact Nat.mul_le_mul_right _ hi
 exact ⟨i * b.length + j, by rw [Int.natCast_add, Int.natCast_mul], by omega⟩
theorem roleN_of {a b : List ByteArray} (ha : AscB a) (hb : AscB b) {i j : Nat} (hi : i < a.length) (hj : j < b.length) : roleN a b ⟨a[i], b[j]⟩ = (i : Int) * (b.length : Int) + (j : Int) := by
 unfold roleN
 rw [place_asc ha hi rfl, place_asc hb hj rfl, if_neg (by omega)]
theorem stmt_rule {a b : List ByteArray} {s : St} (na : a.length ≤ 1000) (nb : b.length ≤ 1000) (h : (ruleN a b s).2 = true) : stmtN a b (ruleN a b s).1 = (s, true) := by
 unfold ruleN at h ⊢
 by_cases hc : rightS s = true ∧ ruleOk (ruleR a b s) = true
 ·rw [if_pos hc] at h ⊢
  clear h
  obtain ⟨hr, hok⟩ := hc
  unfold ruleOk at hok
  rw [decide_eq_true_iff] at hok
  obtain ⟨o1, o2, o3, o4, o5⟩ := hok
  have ok0 : okRu a.length b.length (ruleR a b s) = true ∧ normalS (stmtR a b (ruleR a b s)) = s := by
   obtain ⟨k, h, who, x, y, via⟩ := s
   simp only [ruleR] at o1 o2 o3 o4 o5
   obtain ⟨g1, g2⟩ := roleN_at o1
   unfold okRu
   rw [decide_eq_true na, decide_eq_true nb]
   simp only [ruleR, g2, Bool.true_and, stmtR, g1]
   by_cases k1 : k = 1
   ·subst k1
    simp only [if_pos] at o2
    rw [rightS1] at hr
    simp only [Bool.and_eq_true, eqSt, decide_eq_true_iff, St.mk.injEq] at hr
    obtain ⟨⟨r1, r2⟩, _, _, _, rfl, rfl, rfl⟩ := hr
    obtain ⟨i, e1, hi, g⟩ := place_yes o2
    refine ⟨by simp; rw [e1, inR_iff]; exact ⟨i, rfl, hi⟩, ?_⟩
    simp [normalS, e1, atB_get hi, g]
   ·by_cases k2 : k = 2
    ·subst k2
     simp at o3
     obtain ⟨g3, g4⟩ := roleN_at o3
     rw [rightS2] at hr
     simp only [Bool.and_eq_true, eqSt, decide_eq_true_iff, St.mk.injEq] at hr
     obtain ⟨_, _, _, rfl, _, rfl, rfl⟩ := hr
     refine ⟨by simp [g4], ?_⟩
     simp [normalS, g3]
    ·by_cases k3 : k = 3
     ·subst k3
      simp at o3 o5
      obtain ⟨g3, g4⟩ := roleN_at o3
      rw [rightS3] at hr
      simp only [Bool.and_eq_true, eqSt, decide_eq_true_iff, St.mk.injEq] at hr
      obtain ⟨_, _, _, rfl, _, rfl, _⟩ := hr
      obtain ⟨i, e1, hi, g⟩ := place_yes o5
      refine ⟨by simp [g4]; rw [e1, inR_iff]; exact ⟨i, rfl, hi⟩, ?_⟩
      simp [normalS, g3, e1, atB_get hi, g]
     ·by_cases k4 : k = 4
      ·subst k4
       simp at o3 o4
       obtain ⟨g3, g4⟩ := roleN_at o3
       obtain ⟨g5, g6⟩ := roleN_at o4
       rw [rightS4] at hr
       simp only [Bool.and_eq_true, eqSt, decide_eq_true_iff, St.mk.injEq, Bool.not_eq_true'] at hr
       obtain ⟨⟨_, hl⟩, _, _, rfl, _, _, rfl⟩ := hr
       refine ⟨by simp [g4, g6], ?_⟩
       simp [normalS, g3, g5, hl]
      ·rw [rightS0 k _ _ _ _ _ k1 k2 k3 k4] at hr
       cases hr
  rw [stmtN_ok ok0.1, ok0.2]
 ·rw [if_neg hc] at h; cases h
def turned (y r : Ru) : Prop := y = r ∨ (r.k = 4 ∧ y.a = r.b ∧ y.b = r.a ∧ y.h = r.h)
end Go.Proofs.YtcmdhfccdkjenaaGreatDoor
namespace Go.Proofs.YtcmdhfccdkjenaaGreatDoor
open Go.RowKit Go.Shelf

theorem nodup_le {α : Type} [DecidableEq α] : ∀ (l m : List α), l.Nodup → (∀ x ∈ l, x ∈ m) → l.length ≤ m.length
 | [], _, _, _ => by simp
 | a :: l, m, hn, hs => by
  have ha : a ∈ m := hs a (List.mem_cons_self ..)
  rw [List.nodup_cons] at hn
  have h1 := nodup_le l (m.erase a) hn.2 (fun x hx => by
   have hxa : x ≠ a := fun e => hn.1 (e ▸ hx)
   exact (List.mem_erase_of_ne hxa).2 (hs x (List.mem_cons_of_mem _ hx)))
  have h2 := List.length_erase_of_mem ha
  have h3 : 0 < m.length := List.length_pos_of_mem ha
  simp only [List.length_cons]
  omega
theorem nodup_snoc {α : Type} {l : List α} {x : α} (h : l.Nodup) (hx : x ∉ l) : (l ++ [x]).Nodup := by
 rw [List.nodup_append]
 exact ⟨h, by simp, fun a ha b hb => by rw [List.mem_singleton.1 hb]; exact fun e => hx (e ▸ ha)⟩

structure CloN (lk : Nat) (rs : List Ru) (D : Nat → Nat → Prop) : Prop where
 mem : ∀ r ∈ rs, r.k = 1 → D r.h.toNat r.who.toNat
 incl : ∀ r ∈ rs, r.k = 2 → ∀ x, D r.a.toNat x → D r.h.toNat x
 link : ∀ r ∈ rs, r.k = 3 → ∀ x y, D r.a.toNat x → D (x * lk + r.via.toNat) y → D r.h.toNat y
 both : ∀ r ∈ rs, r.k = 4 → ∀ x, D r.a.toNat x → D r.b.toNat x → D r.h.toNat x
structure LeastN (lk : Nat) (rs : List Ru) (D : Nat → Nat → Prop) : Prop where
 clo : CloN lk rs D
 min : ∀ E : Nat → Nat → Prop, CloN lk rs E → ∀ r x, D r x → E r x

structure SemInv (pr lk : Nat) (rs : List Ru) (fs : List (Nat × Nat)) (k : Nat) : Prop where
 nodup : fs.Nodup
 rng : ∀ f ∈ fs, f.1 < pr * lk ∧ f.2 < pr
 sound : ∀ E : Nat → Nat → Prop, CloN lk rs E → ∀ f ∈ fs, E f.1 f.2
 mem : ∀ r ∈ rs, r.k = 1 → (r.h.toNat, r.who.toNat) ∈ fs
 incl : ∀ r ∈ rs, r.k = 2 → ∀ x, (r.a.toNat, x) ∈ fs.take k → (r.h.toNat, x) ∈ fs
 link : ∀ r ∈ rs, r.k = 3 → ∀ x y, (r.a.toNat, x) ∈ fs.take k → (x * lk + r.via.toNat, y) ∈ fs.take k → (r.h.toNat, y) ∈ fs
 both : ∀ r ∈ rs, r.k = 4 → ∀ x, (r.a.toNat, x) ∈ fs.take k → (r.b.toNat, x) ∈ fs.take k → (r.h.toNat, x) ∈ fs
theorem SemInv.least {pr lk : Nat} {rs : List Ru} {fs : List (Nat × Nat)} (h : SemInv pr lk rs fs fs.length) : LeastN lk rs (fun r x => (r, x) ∈ fs) := by
 have e : fs.take fs.length = fs := List.take_length
 refine ⟨⟨h.mem, ?_, ?_, ?_⟩, fun E hE r x hx => h.sound E hE (r, x) hx⟩
 ·intro r hr hk x hx; exact h.incl r hr hk x (by rw [e]; exact hx)
 ·intro r hr hk x y hx hy; exact h.link r hr hk x y (by rw [e]; exact hx) (by rw [e]; exact hy)
 ·intro r hr hk x hx hy; exact h.both r hr hk x (by rw [e]; exact hx) (by rw [e]; exact hy)
structure Looked (lk : Nat) (rs : List Ru) (f : Nat × Nat) (fs fs' : List (Nat × Nat)) : Prop where
 incl : ∀ r ∈ rs, r.k = 2 → r.a.toNat = f.1 → (r.h.toNat, f.2) ∈ fs'
 both : ∀ r ∈ rs, r.k = 4 → r.a.toNat = f.1 ∨ r.b.toNat = f.1 → (r.a.toNat, f.2) ∈ fs → (r.b.toNat, f.2) ∈ fs → (r.h.toNat, f.2) ∈ fs'
 linkA : ∀ r ∈ rs, r.k = 3 → r.a.toNat = f.1 → ∀ y, (f.2 * lk + r.via.toNat, y) ∈ fs → (r.h.toNat, y) ∈ fs'
 linkV : ∀ r ∈ rs, r.k = 3 → r.via.toNat = f.1 % lk → (r.a.toNat, f.1 / lk) ∈ fs → (r.h.toNat, f.2) ∈ fs'
theorem SemInv.step {pr lk : Nat} {rs : List Ru} {fs fs' : List (Nat × Nat)} {k : Nat} (h : SemInv pr lk rs fs k) (hk : k < fs.length) (hv : ∀ r ∈ rs, r.k = 3 → r.via.toNat < lk)
  (hp : ∃ news, fs' = fs ++ news) (nodup : fs'.Nodup) (rng : ∀ f ∈ fs', f.1 < pr * lk ∧ f.2 < pr) (sound : ∀ E : Nat → Nat → Prop, CloN lk rs E → ∀ f ∈ fs', E f.1 f.2)
  (hl : Looked lk rs fs[k] fs fs') : SemInv pr lk rs fs' (k + 1) := by
 obtain ⟨news, rfl⟩ := hp
 have e : (fs ++ news).take (k + 1) = fs.take k ++ [fs[k]] := by
  rw [List.take_append_of_le_length (by omega), List.take_succ_eq_append_getElem hk]
 have up : ∀ {f}, f ∈ fs → f ∈ fs ++ news := fun hf => List.mem_append.2 (.inl hf)
 have tk : ∀ {f}, f ∈ fs.take k → f ∈ fs := fun hf => List.mem_of_mem_take hf
 have hfk : fs[k] ∈ fs := List.getElem_mem hk
 refine ⟨nodup, rng, sound, fun r hr h1 => up (h.mem r hr h1), ?_, ?_, ?_⟩
 ·intro r hr h2 x hx
  rw [e, List.mem_append, List.mem_singleton] at hx
  rcases hx with hx | hx
  ·exact up (h.incl r hr h2 x hx)
  ·have := hl.incl r hr h2 (by rw [← hx]); rwa [← hx] at this
 ·intro r hr h3 x y hx hy
  rw [e, List.mem_append, List.mem_singleton] at hx hy
  have inF : ∀ {f}, f ∈ fs.take k ∨ f = fs[k] → f ∈ fs := fun hf => hf.elim tk (fun e => e ▸ hfk)
  rcases hy with hy | hy
  ·rcases hx with hx | hx
   ·exact up (h.link r hr h3 x y hx hy)
   ·exact hl.linkA r hr h3 (by rw [← hx]) y (by rw [← hx]; exact tk hy)
  ·have hvl := hv r hr h3
   have hd : (x * lk + r.via.toNat) / lk = x := by rw [Nat.mul_comm, Nat.mul_add_div (by omega), Nat.div_eq_of_lt hvl, Nat.add_zero]
   have hm : (x * lk + r.via.toNat) % lk = r.via.toNat := by rw [Nat.mul_comm, Nat.mul_add_mod, Nat.mod_eq_of_lt hvl]
   have := hl.linkV r hr h3 (by rw [← hy]; exact hm.symm) (by rw [← hy]; dsimp only; rw [hd]; exact inF hx)
   rwa [← hy] at this
 ·intro r hr h4 x hx hy
  rw [e, List.mem_append, List.mem_singleton] at hx hy
  have inF : ∀ {f}, f ∈ fs.take k ∨ f = fs[k] → f ∈ fs := fun hf => hf.elim tk (fun e => e ▸ hfk)
  by_cases ha : (r.a.toNat, x) = fs[k]
  ·have := hl.both r hr h4 (.inl (by rw [← ha])) (by rw [← ha]; exact inF hx) (by rw [← ha]; exact inF hy)
   rwa [← ha] at this
  ·by_cases hb : (r.b.toNat, x) = fs[k]
   ·have := hl.both r hr h4 (.inr (by rw [← hb])) (by rw [← hb]; exact inF hx) (by rw [← hb]; exact inF hy)
    rwa [← hb] at this
   ·exact up (h.both r hr h4 x (hx.resolve_right ha) (hy.resolve_right hb))
def byR (rs : List Ru) (i : Nat) : List Ru := rs.filter (fun r => decide (r.k ≠ 1) && (decide (r.a = (i : Int)) || (decide (r.k = 4) && decide (r.b = (i : Int)))))
def viaR (rs : List Ru) (j : Nat) : List Ru := rs.filter (fun r => decide (r.k = 3) && decide (r.via = (j : Int)))
theorem byR_len (rs : List Ru) (i : Nat) : (byR rs i).length ≤ rs.length := List.length_filter_le _ _
theorem viaR_len (rs : List Ru) (i : Nat) : (viaR rs i).length ≤ rs.length := List.length_filter_le _ _
theorem byR_mem {rs : List Ru} {i : Nat} {r : Ru} : r ∈ byR rs i ↔ r ∈ rs ∧ r.k ≠ 1 ∧ (r.a = (i : Int) ∨ r.k = 4 ∧ r.b = (i : Int)) := by
 unfold byR; rw [List.mem_filter]; simp
theorem viaR_mem {rs : List Ru} {j : Nat} {r : Ru} : r ∈ viaR rs j ↔ r ∈ rs ∧ r.k = 3 ∧ r.via = (j : Int) := by
 unfold viaR; rw [List.mem_filter]; simp

structure CloS (l : List St) (D : Rl → ByteArray → Prop) : Prop where
 mem : ∀ s ∈ l, s.k = 1 → D s.h s.who
 incl : ∀ s ∈ l, s.k = 2 → ∀ x, D s.a x → D s.h x
 link : ∀ s ∈ l, s.k = 3 → ∀ x y, D s.a x → D ⟨x, s.via⟩ y → D s.h y
 both : ∀ s ∈ l, s.k = 4 → ∀ x, D s.a x → D s.b x → D s.h x
structure LeastS (l : List St) (D : Rl → ByteArray → Prop) : Prop where
 clo : CloS l D
 min : ∀ E : Rl → ByteArray → Prop, CloS l E → ∀ r x, D r x → E r x
theorem CloS.sub {l m : List St} {D : Rl → ByteArray → Prop} (h : CloS m D) (hs : ∀ s ∈ l, s ∈ m) : CloS l D :=
 ⟨fun s hm => h.mem s (hs s hm), fun s hm => h.incl s (hs s hm), fun s hm => h.link s (hs s hm), fun s hm => h.both s (hs s hm)⟩
theorem LeastS.mono {l m : List St} {D E : Rl → ByteArray → Prop} (h : LeastS l D) (g : LeastS m E) (hs : ∀ s ∈ l, s ∈ m) (r : Rl) (x : ByteArray) (hd : D r x) : E r x := h.min E (g.clo.sub hs) r x hd

theorem num_inj {n i j i' j' : Nat} (hj : j < n) (hj' : j' < n) (e : i * n + j = i' * n + j') : i = i' ∧ j = j' := by
 have h1 : (i * n + j) / n = i := by rw [Nat.mul_comm, Nat.mul_add_div (by omega), Nat.div_eq_of_lt hj, Nat.add_zero]
 have h2 : (i' * n + j') / n = i' := by rw [Nat.mul_comm, Nat.mul_add_div (by omega), Nat.div_eq_of_lt hj', Nat.add_zero]
 have h3 : i = i' := by rw [← h1, ← h2, e]
 subst h3
 exact ⟨rfl, by omega⟩
theorem rule_parts {a b : List ByteArray} {s : St} (h : (ruleN a b s).2 = true) :
  rightS s = true ∧ (ruleN a b s).1 = ruleR a b s ∧ 0 ≤ roleN a b s.h ∧ (s.k = 1 → 0 ≤ placeB a s.who) ∧ (s.k ≠ 1 → 0 ≤ roleN a b s.a) ∧ (s.k = 4 → 0 ≤ roleN a b s.b) ∧ (s.k = 3 → 0 ≤ placeB b s.via) := by
 unfold ruleN at h ⊢
 by_cases hc : rightS s = true ∧ ruleOk (ruleR a b s) = true
 ·rw [if_pos hc]
  obtain ⟨hr, hok⟩ := hc
  unfold ruleOk at hok
  rw [decide_eq_true_iff] at hok
  obtain ⟨o1, o2, o3, o4, o5⟩ := hok
  simp only [ruleR] at o1 o2 o3 o4 o5
  refine ⟨hr, rfl, o1, fun e => ?_, fun e => ?_, fun e => ?_, fun e => ?_⟩
  ·rw [if_pos e] at o2; exact o2
  ·rw [if_neg e] at o3; exact o3
  ·rw [if_pos e] at o4; exact o4
  ·rw [if_pos e] at o5; exact o5
 ·rw [if_neg hc] at h; cases h
theorem role_at {a b : List ByteArray} {r : Rl} (h : 0 ≤ roleN a b r) : ∃ i j, ∃ (hi : i < a.length) (hj : j < b.length), r = ⟨a[i], b[j]⟩ ∧ (roleN a b r).toNat = i * b.length + j := by
 obtain ⟨i, j, hi, hj, g1, g2, e⟩ := roleN_yes h
 refine ⟨i, j, hi, hj, ?_, ?_⟩
 ·obtain ⟨x, y⟩ := r; simp only at g1 g2; rw [g1, g2]
 ·rw [e, ← Int.natCast_mul]; omega
theorem role_num {a b : List ByteArray} (ha : AscB a) (hb : AscB b) {i j : Nat} (hi : i < a.length) (hj : j < b.length) : (roleN a b ⟨a[i], b[j]⟩).toNat = i * b.length + j := by
 rw [roleN_of ha hb hi hj, ← Int.natCast_mul]; omega
theorem place_at {a : List ByteArray} {s : ByteArray} (h : 0 ≤ placeB a s) : ∃ k, ∃ hk : k < a.length, s = a[k] ∧ (placeB a s).toNat = k := by
 obtain ⟨k, e, hk, g⟩ := place_yes h
 exact ⟨k, hk, g.symm, by rw [e]; rfl⟩
theorem get_inj {a : List ByteArray} (ha : AscB a) {i j : Nat} (hi : i < a.length) (hj : j < a.length) (e : a[i] = a[j]) : i = j := by
 have h1 := place_asc ha hi rfl
 have h2 := place_asc ha hj e.symm
 omega
theorem least_same {a b : List ByteArray} {l : List St} (ha : AscB a) (hb : AscB b) (hok : ∀ s ∈ l, (ruleN a b s).2 = true)
  {D : Rl → ByteArray → Prop} (hD : LeastS l D) {E : Nat → Nat → Prop} (hE : LeastN b.length (l.map fun s => (ruleN a b s).1) E) :
  (∀ r x, D r x → ∃ i j k, ∃ (hi : i < a.length) (hj : j < b.length) (hk : k < a.length), r = ⟨a[i], b[j]⟩ ∧ x = a[k] ∧ E (i * b.length + j) k) ∧
  (∀ i j k, ∀ (hi : i < a.length) (hj : j < b.length) (hk : k < a.length), E (i * b.length + j) k → D ⟨a[i], b[j]⟩ a[k]) := by
 have hmem : ∀ s ∈ l, (ruleN a b s).1 ∈ l.map fun s => (ruleN a b s).1 := fun s hs => List.mem_map.2 ⟨s, hs, rfl⟩
 constructor
 ·refine hD.min (fun r x => ∃ i j k, ∃ (hi : i < a.length) (hj : j < b.length) (hk : k < a.length), r = ⟨a[i], b[j]⟩ ∧ x = a[k] ∧ E (i * b.length + j) k) ⟨?_, ?_, ?_, ?_⟩
  ·intro s hs hk
   obtain ⟨_, e, o1, o2, o3, o4, o5⟩ := rule_parts (hok s hs)
   obtain ⟨i, j, hi, hj, g1, g2⟩ := role_at o1
   obtain ⟨k, hk', g3, g4⟩ := place_at (o2 hk)
   have h := hE.clo.mem _ (hmem s hs) (by rw [e]; exact hk)
   rw [e] at h
   simp only [ruleR, if_pos hk] at h
   rw [g2, g4] at h
   exact ⟨i, j, k, hi, hj, hk', g1, g3, h⟩
  ·rintro s hs hk x ⟨i, j, k, hi, hj, hk', g1, g2, g3⟩
   obtain ⟨_, e, o1, o2, o3, o4, o5⟩ := rule_parts (hok s hs)
   obtain ⟨i', j', hi', hj', g1', g2'⟩ := role_at o1
   have hk1 : s.k ≠ 1 := by omega
   have h := hE.clo.incl _ (hmem s hs) (by rw [e]; exact hk) k (by rw [e]; simp only [ruleR, if_neg hk1]; rw [g1, role_num ha hb hi hj]; exact g3)
   rw [e] at h
   simp only [ruleR] at h
   rw [g2'] at h
   exact ⟨i', j', k, hi', hj', hk', g1', g2, h⟩
  ·rintro s hs hk x y ⟨i, j, k, hi, hj, hk', g1, g2, g3⟩ ⟨i2, j2, k2, hi2, hj2, hk2, q1, q2, q3⟩
   obtain ⟨_, e, o1, o2, o3, o4, o5⟩ := rule_parts (hok s hs)
   obtain ⟨i', j', hi', hj', g1', g2'⟩ := role_at o1
   have hk1 : s.k ≠ 1 := by omega
   simp only [Rl.mk.injEq] at q1
   have eik : k = i2 := get_inj ha hk' hi2 (by rw [← g2]; exact q1.1)
   subst eik
   have h := hE.clo.link _ (hmem s hs) (by rw [e]; exact hk) k k2 (by rw [e]; simp only [ruleR, if_neg hk1]; rw [g1, role_num ha hb hi hj]; exact g3)
    (by rw [e]; simp only [ruleR, if_pos hk]; rw [q1.2, place_asc hb hj2 rfl]; exact q3)
   rw [e] at h
   simp only [ruleR] at h
   rw [g2'] at h
   exact ⟨i', j', k2, hi', hj', hk2, g1', q2, h⟩
  ·rintro s hs hk x ⟨i, j, k, hi, hj, hk', g1, g2, g3⟩ ⟨i2, j2, k2, hi2, hj2, hk2, q1, q2, q3⟩
   obtain ⟨_, e, o1, o2, o3, o4, o5⟩ := rule_parts (hok s hs)
   obtain ⟨i', j', hi', hj', g1', g2'⟩ := role_at o1
   have hk1 : s.k ≠ 1 := by omega
   have eik : k = k2 := get_inj ha hk' hk2 (by rw [← g2, q2])
   subst eik
   have h := hE.clo.both _ (hmem s hs) (by rw [e]; exact hk) k (by rw [e]; simp only [ruleR, if_neg hk1]; rw [g1, role_num ha hb hi hj]; exact g3)
    (by rw [e]; simp only [ruleR, if_pos hk]; rw [q1, role_num ha hb hi2 hj2]; exact q3)
   rw [e] at h
   simp only [ruleR] at h
   rw [g2'] at h
   exact ⟨i', j', k, hi', hj', hk', g1', g2, h⟩
 ·intro i j k hi hj hk hx
  have key := hE.min (fun n x => ∃ i j, ∃ (hi : i < a.length) (hj : j < b.length) (hx : x < a.length), n = i * b.length + j ∧ D ⟨a[i], b[j]⟩ a[x]) ⟨?_, ?_, ?_, ?_⟩ _ _ hx
  ·obtain ⟨i', j', hi', hj', hk', e, h⟩ := key
   obtain ⟨rfl, rfl⟩ := num_inj hj hj' e
   exact h
  ·intro r hr hk
   obtain ⟨s, hs, rfl⟩ := List.mem_map.1 hr
   obtain ⟨_, e, o1, o2, o3, o4, o5⟩ := rule_parts (hok s hs)
   rw [e] at hk ⊢
   have hk : s.k = 1 := hk
   obtain ⟨i, j, hi, hj, g1, g2⟩ := role_at o1
   obtain ⟨k, hk', g3, g4⟩ := place_at (o2 hk)
   have h := hD.clo.mem s hs hk
   simp only [ruleR, if_pos hk]
   subst g4
   refine ⟨i, j, hi, hj, hk', g2, ?_⟩
   rw [← g1, show a[(placeB a s.who).toNat] = s.who from g3.symm]; exact h
  ·rintro r hr hk x ⟨i, j, hi, hj, hx, q1, q2⟩
   obtain ⟨s, hs, rfl⟩ := List.mem_map.1 hr
   obtain ⟨_, e, o1, o2, o3, o4, o5⟩ := rule_parts (hok s hs)
   rw [e] at hk q1 ⊢
   have hk : s.k = 2 := hk
   have hk1 : s.k ≠ 1 := by omega
   obtain ⟨i', j', hi', hj', g1, g2⟩ := role_at o1
   obtain ⟨i3, j3, hi3, hj3, g3, g4⟩ := role_at (o3 hk1)
   simp only [ruleR, if_neg hk1] at q1 ⊢
   rw [g4] at q1
   obtain ⟨rfl, rfl⟩ := num_inj hj3 hj q1
   refine ⟨i', j', hi', hj', hx, g2, ?_⟩
   rw [← g1]
   exact hD.clo.incl s hs hk _ (by rw [g3]; exact q2)
  ·rintro r hr hk x y ⟨i, j, hi, hj, hx, q1, q2⟩ ⟨i2, j2, hi2, hj2, hy, p1, p2⟩
   obtain ⟨s, hs, rfl⟩ := List.mem_map.1 hr
   obtain ⟨_, e, o1, o2, o3, o4, o5⟩ := rule_parts (hok s hs)
   rw [e] at hk q1 p1 ⊢
   have hk : s.k = 3 := hk
   have hk1 : s.k ≠ 1 := by omega
   obtain ⟨i', j', hi', hj', g1, g2⟩ := role_at o1
   obtain ⟨i3, j3, hi3, hj3, g3, g4⟩ := role_at (o3 hk1)
   obtain ⟨v, hv, g5, g6⟩ := place_at (o5 hk)
   simp only [ruleR, if_neg hk1, if_pos hk] at q1 p1 ⊢
   rw [g4] at q1
   rw [g6] at p1
   obtain ⟨rfl, rfl⟩ := num_inj hj3 hj q1
   obtain ⟨rfl, rfl⟩ := num_inj hv hj2 p1
   refine ⟨i', j', hi', hj', hy, g2, ?_⟩
   rw [← g1]
   exact hD.clo.link s hs hk _ _ (by rw [g3]; exact q2) (by rw [g5]; exact p2)
  ·rintro r hr hk x ⟨i, j, hi, hj, hx, q1, q2⟩ ⟨i2, j2, hi2, hj2, hy, p1, p2⟩
   obtain ⟨s, hs, rfl⟩ := List.mem_map.1 hr
   obtain ⟨_, e, o1, o2, o3, o4, o5⟩ := rule_parts (hok s hs)
   rw [e] at hk q1 p1 ⊢
   have hk : s.k = 4 := hk
   have hk1 : s.k ≠ 1 := by omega
   obtain ⟨i', j', hi', hj', g1, g2⟩ := role_at o1
   obtain ⟨i3, j3, hi3, hj3, g3, g4⟩ := role_at (o3 hk1)
   obtain ⟨i4, j4, hi4, hj4, g5, g6⟩ := role_at (o4 hk)
   simp only [ruleR, if_neg hk1, if_pos hk] at q1 p1 ⊢
   rw [g4] at q1
   rw [g6] at p1
   obtain ⟨rfl, rfl⟩ := num_inj hj3 hj q1
   obtain ⟨rfl, rfl⟩ := num_inj hj4 hj2 p1
   refine ⟨i', j', hi', hj', hx, g2, ?_⟩
   rw [← g1]
   exact hD.clo.both s hs hk _ (by rw [g3]; exact q2) (by rw [g5]; exact p2)

def hasP (ps : List (Rl × ByteArray)) (r : Rl) (x : ByteArray) : Bool := ps.any (fun p => decide (p.1 = r ∧ p.2 = x))
theorem hasP_iff {ps : List (Rl × ByteArray)} {r : Rl} {x : ByteArray} : hasP ps r x = true ↔ (r, x) ∈ ps := by
 unfold hasP
 rw [List.any_eq_true]
 constructor
 ·rintro ⟨⟨a, b⟩, hp, h⟩
  obtain ⟨rfl, rfl⟩ := of_decide_eq_true h
  exact hp
 ·intro h
  exact ⟨_, h, decide_eq_true ⟨rfl, rfl⟩⟩
def followsR (ps : List (Rl × ByteArray)) (s : St) : List ByteArray :=
 if s.k = 1 then [s.who] else
 ps.flatMap (fun (p : Rl × ByteArray) => if p.1 = s.a then (if s.k = 2 ∨ s.k = 4 ∧ hasP ps s.b p.2 = true then [p.2] else []) ++ (if s.k = 3 then ps.flatMap (fun (q : Rl × ByteArray) => if q.1 = ⟨p.2, s.via⟩ then [q.2] else []) else []) else [])
theorem follows_mem {ps : List (Rl × ByteArray)} {s : St} (hk : s.k ≠ 1) {y : ByteArray} : y ∈ followsR ps s ↔ ∃ x, (s.a, x) ∈ ps ∧ ((s.k = 2 ∨ s.k = 4 ∧ (s.b, x) ∈ ps) ∧ y = x ∨ s.k = 3 ∧ (⟨x, s.via⟩, y) ∈ ps) := by
 unfold followsR
 rw [if_neg hk, List.mem_flatMap]
 constructor
 ·rintro ⟨⟨r, x⟩, hp, hy⟩
  by_cases hr : r = s.a
  ·subst hr
   rw [if_pos rfl, List.mem_append] at hy
   refine ⟨x, hp, ?_⟩
   rcases hy with hy | hy
   ·by_cases hc : s.k = 2 ∨ s.k = 4 ∧ hasP ps s.b x = true
    ·rw [if_pos hc] at hy; exact .inl ⟨by rw [hasP_iff] at hc; exact hc, List.mem_singleton.1 hy⟩
    ·rw [if_neg hc] at hy; cases hy
   ·by_cases hc : s.k = 3
    ·rw [if_pos hc, List.mem_flatMap] at hy
     obtain ⟨⟨r2, y2⟩, hq, hy2⟩ := hy
     by_cases h2 : r2 = ⟨x, s.via⟩
     ·subst h2
      rw [if_pos rfl] at hy2
      rw [List.mem_singleton.1 hy2]
      exact .inr ⟨hc, hq⟩
     ·rw [if_neg h2] at hy2; cases hy2
    ·rw [if_neg hc] at hy; cases hy
  ·rw [if_neg hr] at hy; cases hy
 ·rintro ⟨x, hp, h⟩
  refine ⟨(s.a, x), hp, ?_⟩
  rw [if_pos rfl, List.mem_append]
  rcases h with ⟨hc, rfl⟩ | ⟨hc, hq⟩
  ·left; rw [if_pos (by rw [hasP_iff]; exact hc)]; exact List.mem_singleton.2 rfl
  ·right; rw [if_pos hc, List.mem_flatMap]
   exact ⟨_, hq, by rw [if_pos rfl]; exact List.mem_singleton.2 rfl⟩
theorem follows_clo {ps : List (Rl × ByteArray)} {l : List St} (h : ∀ s ∈ l, ∀ x ∈ followsR ps s, (s.h, x) ∈ ps) : CloS l (fun r x => (r, x) ∈ ps) := by
 refine ⟨?_, ?_, ?_, ?_⟩
 ·intro s hs hk
  exact h s hs _ (by unfold followsR; rw [if_pos hk]; exact List.mem_singleton.2 rfl)
 ·intro s hs hk x hx
  exact h s hs _ ((follows_mem (by omega)).2 ⟨x, hx, .inl ⟨.inl hk, rfl⟩⟩)
 ·intro s hs hk x y hx hy
  exact h s hs _ ((follows_mem (by omega)).2 ⟨x, hx, .inr ⟨hk, hy⟩⟩)
 ·intro s hs hk x hx hy
  exact h s hs _ ((follows_mem (by omega)).2 ⟨x, hx, .inl ⟨.inr ⟨hk, hy⟩, rfl⟩⟩)
def SoundS (l : List St) (ps : List (Rl × ByteArray)) : Prop := ∀ E : Rl → ByteArray → Prop, CloS l E → ∀ p ∈ ps, E p.1 p.2
theorem SoundS.step {l : List St} {ps : List (Rl × ByteArray)} (h : SoundS l ps) {s : St} (hs : s ∈ l) {x : ByteArray} {qs : List (Rl × ByteArray)} (hq : SoundS l qs) (hx : x ∈ followsR qs s) : SoundS l (ps ++ [(s.h, x)]) := by
 intro E hE p hp
 rcases List.mem_append.1 hp with hp | hp
 ·exact h E hE p hp
 ·rw [List.mem_singleton.1 hp]
  by_cases hk : s.k = 1
  ·unfold followsR at hx
   rw [if_pos hk] at hx
   rw [List.mem_singleton.1 hx]
   exact hE.mem s hs hk
  ·obtain ⟨z, hz, ⟨h2, rfl⟩ | ⟨h3, h4⟩⟩ := (follows_mem hk).1 hx
   ·rcases h2 with h2 | ⟨h2, h5⟩
    ·exact hE.incl s hs h2 _ (hq E hE _ hz)
    ·exact hE.both s hs h2 _ (hq E hE _ hz) (hq E hE _ h5)
   ·exact hE.link s hs h3 _ _ (hq E hE _ hz) (hq E hE _ h4)
theorem SoundS.bound {l : List St} {ps : List (Rl × ByteArray)} (h : SoundS l ps) (hn : ps.Nodup) : ps.length ≤ l.length * l.length := by
 have h1 : ∀ p ∈ ps, p ∈ l.flatMap (fun s => l.map (fun t => (s.h, t.who))) := by
  intro p hp
  have := h (fun r x => (∃ s ∈ l, r = s.h) ∧ ∃ t ∈ l, x = t.who) ⟨fun s hs _ => ⟨⟨s, hs, rfl⟩, ⟨s, hs, rfl⟩⟩, fun s hs _ x hx => ⟨⟨s, hs, rfl⟩, hx.2⟩, fun s hs _ x y _ hy => ⟨⟨s, hs, rfl⟩, hy.2⟩, fun s hs _ x hx _ => ⟨⟨s, hs, rfl⟩, hx.2⟩⟩ p hp
  obtain ⟨⟨s, hs, e1⟩, t, ht, e2⟩ := this
  rw [List.mem_flatMap]
  exact ⟨s, hs, List.mem_map.2 ⟨t, ht, by rw [← e1, ← e2]⟩⟩
 have h2 := nodup_le ps _ hn h1
 have h3 : ∀ m : List St, (m.flatMap (fun s => l.map (fun t => (s.h, t.who)))).length = m.length * l.length := by
  intro m
  induction m with
  | nil => simp
  | cons a r ih => rw [List.flatMap_cons, List.length_append, ih, List.length_map, List.length_cons, Nat.succ_mul, Nat.add_comm]
 rw [h3] at h2
 exact h2
end Go.Proofs.YtcmdhfccdkjenaaGreatDoor
namespace Go.Proofs.YtcmdhfccdkjenaaGreatDoor
open Go.RowKit Go.Shelf

set_option maxHeartbeats 1000000 in
theorem ref1_HasB (va : Value) (l : List ByteArray) (s : ByteArray) (w : World) (ha : SlA w 1 va l.length (strs l)) :
  Calls Tryz.prog 57 #[va, .string s] w fun e w' => e = .returned (.bool (hasB l s)) ∧ w' = w := by
 have HA := Lib.hid ha
 have hmax := ha.max
 have HY := Lib.hid (fun k (hk : k < l.length) (e : l[k] = s) => hasB_yes hk e)
 have HE := Lib.hid (fun k (hk : ¬ k < l.length) h => hasB_end (l := l) (s := s) (k := k) hk h)
 obtain ⟨ao, cap, hva⟩ := ha.form
 subst hva
 clear ha
 generalize hasB l s = r at HY HE ⊢
 go_enter Tryz.func57, Tryz.ntmps57
 go_wp2
 go_loop [9] (fun i => ∃ k : Nat, k ≤ l.length ∧ i = .int .i64 k ∧ Hid (∀ j (hj : j < l.length), j < k → ¬ l[j] = s)) (fun i => l.length - (intOf i).toNat)
 case atStart => exact ⟨0, by omega, rfl, Lib.hid (fun _ _ h => absurd h (by omega))⟩
 case round =>
  obtain ⟨k, hk, rfl, HT⟩ := hrel
  by_cases hlt : k < l.length
  ·obtain ⟨b1, o1, c1, he1, hc1, hm1, hb1, hx1⟩ := HA.out.pos (by omega)
   simp only [Value.slice.injEq, true_and] at he1
   obtain ⟨rfl, rfl⟩ := he1
   have p0 := hx1 k _ (strs_get hlt)
   clear hx1
   have bs := beq_str l[k] s
   by_cases he : l[k] = s
   ·have R := Lib.hid (HY.out k hlt he)
    rw [decide_eq_true he] at bs
    clear he
    go_wp2
    go_ret
    exact ⟨by rw [R.out]; rfl, rfl⟩
   ·have HT2 : Hid (∀ j (hj : j < l.length), j < k + 1 → ¬ l[j] = s) := Lib.hid (fun j hj hjk => by
     by_cases h : j < k
     ·exact HT.out j hj h
     ·obtain rfl : j = k := by omega
      exact he)
    rw [decide_eq_false he] at bs
    clear he
    go_wp2
    exact ⟨⟨k + 1, by omega, by go_num, HT2⟩, by simp [intOf]; omega⟩
  ·have R := Lib.hid (HE.out k hlt HT.out)
   go_wp2
   go_ret
   exact ⟨by rw [R.out]; rfl, rfl⟩
structure PutI (l : List ByteArray) (s : ByteArray) (k : Nat) (d : Bool) (ss : List ByteArray) : Prop where
 le : k ≤ l.length
 f : d = false → ss = l.take k ∧ ∀ j (hj : j < l.length), j < k → cmpS l[j] s < 0
 t : d = true → posSB l s < k ∧ ss = insAtB (l.take k) s (posSB l s)
theorem PutI.start (l : List ByteArray) (s : ByteArray) : PutI l s 0 false [] := ⟨by omega, fun _ => ⟨rfl, fun _ _ h => absurd h (by omega)⟩, fun h => by cases h⟩
theorem PutI.len {l : List ByteArray} {s : ByteArray} {k : Nat} {d : Bool} {ss : List ByteArray} (h : PutI l s k d ss) : ss.length ≤ l.length + 1 := by
 have hk := h.le
 cases d with
 | false => rw [(h.f rfl).1, List.length_take]; omega
 | true =>
  have h1 := (h.t rfl).1
  rw [(h.t rfl).2, insAt_lenB (by rw [List.length_take]; omega), List.length_take]; omega
theorem insAt_last {l : List ByteArray} {x : ByteArray} : insAtB l x l.length = l ++ [x] := by
 unfold insAtB
 rw [List.take_of_length_le (Nat.le_refl _), List.drop_of_length_le (Nat.le_refl _)]
theorem insAt_snoc {l : List ByteArray} {x y : ByteArray} {p : Nat} (hp : p ≤ l.length) : insAtB l x p ++ [y] = insAtB (l ++ [y]) x p := by
 unfold insAtB
 rw [List.take_append_of_le_length hp, List.drop_append_of_le_length hp, List.append_assoc]; rfl
section
variable {l : List ByteArray} {s : ByteArray} {k : Nat} {ss : List ByteArray}
theorem PutI.yes (h : PutI l s k true ss) (hk : k < l.length) : PutI l s (k + 1) true (ss ++ [l[k]]) := by
 obtain ⟨h1, h2⟩ := h.t rfl
 refine ⟨hk, fun h => (by cases h), fun _ => ⟨by omega, ?_⟩⟩
 rw [h2, insAt_snoc (by rw [List.length_take]; omega), ← List.take_succ_eq_append_getElem hk]
theorem lt_or (x y : ByteArray) (h : ¬ x = y) (h' : Op.bytesLess y.toList x.toList = false) : cmpS x y < 0 := by
 rw [← str_less, decide_eq_false_iff_not] at h'
 have h1 : ¬ cmpS x y = 0 := fun e => h ((cmpS_zero x y).1 e)
 have h2 := cmpS_neg x y
 omega
theorem PutI.no (h : PutI l s k false ss) (hk : k < l.length) (hne : ¬ l[k] = s) (hb : Op.bytesLess s.toList l[k].toList = false) : PutI l s (k + 1) false (ss ++ [l[k]]) := by
 obtain ⟨h1, h2⟩ := h.f rfl
 refine ⟨hk, fun _ => ⟨by rw [h1, ← List.take_succ_eq_append_getElem hk], fun j hj hjk => ?_⟩, fun h => (by cases h)⟩
 by_cases h' : j < k
 ·exact h2 j hj h'
 ·obtain rfl : j = k := by omega
  exact lt_or _ _ hne hb
theorem PutI.put (h : PutI l s k false ss) (hk : k < l.length) (hb : Op.bytesLess s.toList l[k].toList = true) : PutI l s (k + 1) true (ss ++ [s] ++ [l[k]]) := by
 obtain ⟨h1, h2⟩ := h.f rfl
 have hp : posSB l s = k := pos_ofB l s k (by omega) h2 (fun _ => by
  rw [← str_less] at hb
  have := of_decide_eq_true hb
  have h3 := cmpS_neg s l[k]
  omega)
 refine ⟨hk, fun h => (by cases h), fun _ => ⟨by omega, ?_⟩⟩
 have hk' : (l.take k).length = k := by rw [List.length_take]; omega
 have e : insAtB (l.take k) s k = l.take k ++ [s] := by have := insAt_last (l := l.take k) (x := s); rwa [hk'] at this
 rw [hp, h1, List.take_succ_eq_append_getElem hk, ← insAt_snoc (by rw [hk']; exact Nat.le_refl _), e]
theorem PutI.endT (h : PutI l s k true ss) (hk : l.length ≤ k) : ss = insAtB l s (posSB l s) := by
 have := (h.t rfl).2
 rwa [List.take_of_length_le hk] at this
theorem PutI.endF (h : PutI l s k false ss) (hk : l.length ≤ k) : ss ++ [s] = insAtB l s (posSB l s) := by
 obtain ⟨h1, h2⟩ := h.f rfl
 have hp : posSB l s = l.length := pos_ofB l s l.length (Nat.le_refl _) (fun j hj _ => h2 j hj (by omega)) (fun h => absurd h (by omega))
 rw [hp, h1, List.take_of_length_le hk]
 unfold insAtB
 rw [List.take_of_length_le (Nat.le_refl _), List.drop_of_length_le (Nat.le_refl _)]
end
set_option maxRecDepth 100000 in
set_option maxHeartbeats 4000000 in
theorem ref1_PutB (va : Value) (l : List ByteArray) (s : ByteArray) (w : World) (ha : SlA w 1 va l.length (strs l)) (hn : l.length ≤ 100000) :
  Calls Tryz.prog 91 #[va, .string s] w fun e w' => ∃ v, e = .returned v ∧ SlA w' 1 v (insSB l s).length (strs (insSB l s)) ∧ Below w.heap.size w w' := by
 have HA := Lib.hid ha
 have HH := Lib.hid (ref1_HasB va l s w ha)
 have IY := Lib.hid (fun h => insS_hasB (l := l) (x := s) h)
 have IN := Lib.hid (fun h => insS_notB (l := l) (x := s) h)
 have NE := Lib.hid (fun (h : hasB l s = false) k (hk : k < l.length) => show ¬ l[k] = s from fun e => absurd (hasB_yes hk e) (by rw [h]; exact Bool.false_ne_true))
 generalize hasB l s = b at HH IY IN NE
 have hmax := ha.max
 obtain ⟨ao, cap, hva⟩ := ha.form
 subst hva
 clear ha
 go_enter Tryz.func91, Tryz.ntmps91
 go_wp2_with fail
 refine HH.out.mono ?_
 rintro e w1 ⟨rfl, rfl⟩
 cases b with
 | true =>
  go_wp2
  go_ret
  exact ⟨_, rfl, by rw [IY.out (by first | rfl | trivial)]; exact HA.out, Below.refl _ _⟩
 | false =>
  obtain ⟨wA, hwA⟩ : ∃ wA, wA = w1 := ⟨_, rfl⟩
  subst hwA
  have INS := Lib.hid (IN.out rfl)
  have NEQ := Lib.hid (NE.out rfl)
  clear IY IN NE
  go_wp2_with fail
  go_loopw [5, 6, 15] (fun vo dv i wr => ∃ (k : Nat) (d : Bool) (ss : List ByteArray), k ≤ l.length ∧ i = .int .i64 k ∧ dv = .bool d ∧ Hid (PutI l s k d ss) ∧ Hid (Below wA.heap.size wA wr) ∧ Hid (wr.ownsRow wA.heap.size 9 1 vo ss.length (strs ss))) (fun _ _ i _ => l.length - (intOf i).toNat)
  case atStart => exact ⟨0, false, [], by omega, rfl, rfl, Lib.hid (PutI.start l s), Lib.hid (Below.refl _ _), Lib.hid (World.ownsRow_nil _ _ _ _)⟩
  case round =>
   obtain ⟨k, d, ss, hk, rfl, rfl, HC, HB, HO⟩ := hrel
   obtain ⟨oo, oc, rfl⟩ := own_form HO.out
   have hss : ss.length ≤ 100002 := by have := HC.out.len; omega
   by_cases hlt : k < l.length
   ·obtain ⟨b1, o1, c1, he1, hc1, hm1, hb1, hx1⟩ := HA.out.pos (by omega)
    simp only [Value.slice.injEq, true_and] at he1
    obtain ⟨rfl, rfl⟩ := he1
    have p0 := (HB.out.cell (p := ⟨b1, o1 + k, none⟩) hb1).trans (hx1 k _ (strs_get hlt))
    have hbr : b1 < wr.heap.size := Nat.lt_of_lt_of_le hb1 HB.out.size
    have PY := Lib.hid (fun (h : PutI l s k true ss) => h.yes hlt)
    have PN := Lib.hid (fun (h : PutI l s k false ss) e => h.no hlt (NEQ.out k hlt) e)
    have PP := Lib.hid (fun (h : PutI l s k false ss) e => h.put hlt e)
    clear hx1
    generalize l[k] = x at *
    cases d with
    | true =>
     have HC' := HC.out
     have hown := HO.out
     go_wp2_with (at_builtin; refine halt_ ?_)
     unfold Halt_
     refine app_own Tryz.underlying38 str_info rfl (by decide) (by decide) rfl _ _ rfl wA.heap.size rfl (hown.alloc _) [.string x] rfl (heap_new1 _ _) rfl (str1 _) ?_ ?_ ?_
     ·omega
     ·have := HB.out.size; simp; omega
     intro a' cap' w3 hown' hgrow
     obtain ⟨q1, q2⟩ := own_push (x := x) HB.out hown hown' hgrow
     have HO1 := Lib.hid q1
     have HB1 := Lib.hid q2
     clear hown hown' hgrow q1 q2
     go_wp2_with fail
     exact ⟨⟨k + 1, true, ss ++ [x], by omega, by go_num, rfl, Lib.hid (PY.out HC'), HB1, HO1⟩, by simp [intOf]; omega⟩
    | false =>
     have HC' := HC.out
     cases hbl : Op.bytesLess s.toList x.toList with
     | false =>
      have hown := HO.out
      go_wp2_with (at_builtin; refine halt_ ?_)
      unfold Halt_
      refine app_own Tryz.underlying38 str_info rfl (by decide) (by decide) rfl _ _ rfl wA.heap.size rfl (hown.alloc _) [.string x] rfl (heap_new1 _ _) rfl (str1 _) ?_ ?_ ?_
      ·omega
      ·have := HB.out.size; simp; omega
      intro a' cap' w3 hown' hgrow
      obtain ⟨q1, q2⟩ := own_push (x := x) HB.out hown hown' hgrow
      have HO1 := Lib.hid q1
      have HB1 := Lib.hid q2
      clear hown hown' hgrow q1 q2
      go_wp2_with fail
      exact ⟨⟨k + 1, false, ss ++ [x], by omega, by go_num, rfl, Lib.hid (PN.out HC' hbl), HB1, HO1⟩, by simp [intOf]; omega⟩
     | true =>
      have hown := HO.out
      go_wp2_with (at_builtin; refine halt_ ?_)
      unfold Halt_
      refine app_own Tryz.underlying38 str_info rfl (by decide) (by decide) rfl _ _ rfl wA.heap.size rfl (hown.alloc _) [.string s] rfl (heap_new1 _ _) rfl (str1 _) ?_ ?_ ?_
      ·omega
      ·have := HB.out.size; simp; omega
      intro a' cap' w3 hown' hgrow
      obtain ⟨q1, q2⟩ := own_push (x := s) HB.out hown hown' hgrow
      have HO1 := Lib.hid q1
      have HB1 := Lib.hid q2
      clear hown hown' hgrow q1 q2
      have hown := HO1.out
      go_wp2_with (at_builtin; refine halt_ ?_)
      unfold Halt_
      refine app_own Tryz.underlying38 str_info rfl (by decide) (by decide) rfl _ _ rfl wA.heap.size rfl (hown.alloc _) [.string x] rfl (heap_new1 _ _) rfl (str1 _) ?_ ?_ ?_
      ·(simp only [List.length_append, List.length_cons, List.length_nil]; omega)
      ·have := HB1.out.size; simp; omega
      intro a' cap' w3 hown' hgrow
      obtain ⟨q1, q2⟩ := own_push (x := x) HB1.out hown hown' hgrow
      have HO2 := Lib.hid q1
      have HB2 := Lib.hid q2
      clear hown hown' hgrow q1 q2
      go_wp2_with fail
      refine ⟨⟨k + 1, true, ss ++ [s] ++ [x], by omega, by go_num, rfl, Lib.hid (PP.out HC' hbl), HB2, Lib.hid (by have h := HO2.out; rw [show (ss ++ [s]).length + 1 = ss.length + 1 + 1 by simp] at h; exact h)⟩, by simp [intOf]; omega⟩
   ·cases d with
    | true =>
     have HC' := HC.out
     have HSL := Lib.hid (Sl.of_own HO.out).a
     go_wp2
     go_ret
     exact ⟨_, rfl, by rw [INS.out, ← HC'.endT (by omega)]; exact HSL.out, HB.out⟩
    | false =>
     have HC' := HC.out
     have hown := HO.out
     go_wp2_with (at_builtin; refine halt_ ?_)
     unfold Halt_
     refine app_own Tryz.underlying38 str_info rfl (by decide) (by decide) rfl _ _ rfl wA.heap.size rfl (hown.alloc _) [.string s] rfl (heap_new1 _ _) rfl (str1 _) ?_ ?_ ?_
     ·omega
     ·have := HB.out.size; simp; omega
     intro a' cap' w3 hown' hgrow
     obtain ⟨q1, q2⟩ := own_push (x := s) HB.out hown hown' hgrow
     have HO1 := Lib.hid q1
     have HB1 := Lib.hid q2
     clear hown hown' hgrow q1 q2
     have HSL := Lib.hid (Sl.of_own HO1.out).a
     go_wp2
     go_ret
     exact ⟨_, rfl, by rw [INS.out, ← HC'.endF (by omega)]; exact HSL.out, HB1.out⟩
end Go.Proofs.YtcmdhfccdkjenaaGreatDoor
namespace Go.Proofs.YtcmdhfccdkjenaaGreatDoor
open Go.RowKit Go.Shelf

theorem rl1 (x y : ByteArray) : ∀ u ∈ [Value.string x, Value.string y], u.oneCell' = true := by
 intro u hu; simp at hu; rcases hu with rfl | rfl <;> rfl
theorem heap_old {w : World} {g : Nat} {o : Obj} (o' : Obj) (h : w.heap[g]? = some o) : (w.alloc o').heap[g]? = some o :=
 (Below.heap_alloc _ _ _ (Array.getElem?_eq_some_iff.1 h).1).trans h
theorem own_tag {w : World} {base size n g : Nat} {e t : TypeId} {v : Value} {xs : List Value} {cs : Array Value} {fz : Nat × Nat} (h : w.ownsRow base e size v n xs) (hg : w.heap[g]? = some (.cells cs t fz)) (ht : t ≠ e) : some g ≠ v.ownBlock := by
 rcases h.2 with ⟨rfl, rfl⟩ | ⟨g', cap, cur, rfl, _, hg', _⟩
 ·simp [Value.ownBlock]
 ·simp only [Value.ownBlock]
  intro e'
  cases e'
  rw [hg] at hg'
  simp only [Option.some.injEq, Obj.cells.injEq] at hg'
  exact ht hg'.2.1
theorem push_role {w wr w3 : World} {A : Array Value} {vo : Value} {rs : List Rl} {x : Rl} {o : Obj} {a' : Option Addr} {cap' : Nat} (ht : OneAt w A wr) (hown : wr.ownsRow (w.heap.size + 1) 28 2 vo rs.length (rs.flatMap Rl.cells))
  (h : w3.ownsRow (w.heap.size + 1) 28 2 (.slice a' (rs.length + 1) cap') (rs.length + 1) (rs.flatMap Rl.cells ++ [.string x.o, .string x.n])) (hg : (wr.alloc o).grownBy w3 vo.ownBlock) :
  w3.ownsRow (w.heap.size + 1) 28 2 (.slice a' (rs.length + 1) cap') (rs ++ [x]).length ((rs ++ [x]).flatMap Rl.cells) ∧ OneAt w A w3 := by
 refine ⟨by rw [List.length_append, rl_flat]; exact h, (ht.a.alloc o).grown hg (own_gt_ne hown (Nat.lt_succ_self _)), ?_⟩
 exact below_own (ht.low.alloc ht.low.size o) (hown.alloc _) hg (by have := ht.low.size; simp; omega) (Nat.le_succ _)
theorem le_snoc {rs : List Rl} {x : Rl} (h : ∀ y ∈ rs, y.le 9223372036854775807) (hx : x.le 9223372036854775807) : ∀ y ∈ rs ++ [x], y.le 9223372036854775807 := by
 intro y hy
 rcases List.mem_append.1 hy with h' | h'
 ·exact h y h'
 ·rw [List.mem_singleton.1 h']; exact hx
theorem own_len {w : World} {base : Nat} {a : Option Addr} {n n' m cap : Nat} {xs : List Value} (h : w.ownsRow base 28 2 (.slice a n cap) m xs) (e : n = n') : w.ownsRow base 28 2 (.slice a n' cap) m xs := by subst e; exact h

def rolesQ (q : Qv) : List Rl := if q.k = 5 ∨ q.k = 6 then [q.a, q.b] else [q.a]
theorem flat_snocF {α β : Type} {l : List α} {k : Nat} (f : α → List β) (hk : k < l.length) : (l.take (k + 1)).flatMap f = (l.take k).flatMap f ++ f l[k] := by
 rw [List.take_succ_eq_append_getElem hk, List.flatMap_append]; simp
theorem take_snoc {α : Type} {l : List α} {k : Nat} (hk : k < l.length) : l.take (k + 1) = l.take k ++ [l[k]] := List.take_succ_eq_append_getElem hk
def allRoles (l : List St) (g h : List Rl) (qs : List Qv) : List Rl := l.flatMap rolesS ++ g ++ h ++ qs.flatMap rolesQ
set_option maxRecDepth 100000 in
set_option maxHeartbeats 8000000 in
theorem ref5_RolesL (v0 v1 v2 v3 : Value) (l : List St) (g h : List Rl) (qs : List Qv) (w : World) (hp : PolAt w v0 v1 v2 v3 l g h qs) (hl : l.length ≤ 100) (hg : g.length ≤ 100) (hh : h.length ≤ 100) (hq : qs.length ≤ 100) :
  Calls Tryz.prog 112 #[pv v0 v1 v2 v3] w fun e w' => ∃ v, e = .returned v ∧ SlA w' 2 v (allRoles l g h qs).length ((allRoles l g h qs).flatMap Rl.cells) ∧ (allRoles l g h qs).length ≤ 1000 ∧ (∀ x ∈ allRoles l g h qs, x.le 9223372036854775807) ∧ Below w.heap.size w w' := by
 have HP := Lib.hid hp
 obtain ⟨a0, c0, rfl⟩ := hp.rs.form
 obtain ⟨a1, c1, rfl⟩ := hp.rg.form
 obtain ⟨a2, c2, rfl⟩ := hp.rh.form
 obtain ⟨a3, c3, rfl⟩ := hp.rq.form
 have HT := Lib.hid (show OneAt w #[.slice a0 l.length c0, .slice a1 g.length c1, .slice a2 h.length c2, .slice a3 qs.length c3] (w.alloc (.cells #[.slice a0 l.length c0, .slice a1 g.length c1, .slice a2 h.length c2, .slice a3 qs.length c3] 26)) from ⟨Blk.new w _ _, (Below.refl _ _).alloc (Nat.le_refl _) _⟩)
 clear hp
 go_enter Tryz.func112, Tryz.ntmps112
 go_wp2_with fail
 go_loopw [3, 15] (fun vo i wr => ∃ (k : Nat) (rs : List Rl), k ≤ l.length ∧ i = .int .i64 k ∧ Hid (rs.length ≤ 3 * k) ∧ Hid (∀ x ∈ rs, x.le 9223372036854775807) ∧ Hid (OneAt w #[.slice a0 l.length c0, .slice a1 g.length c1, .slice a2 h.length c2, .slice a3 qs.length c3] wr) ∧ Hid (wr.ownsRow (w.heap.size + 1) 28 2 vo rs.length (rs.flatMap Rl.cells)) ∧ Hid (rs = (l.take k).flatMap rolesS)) (fun _ i _ => l.length - (intOf i).toNat)
 case atStart => exact ⟨0, [], by omega, rfl, Lib.hid (by simp), Lib.hid (fun x hx => by cases hx), HT, Lib.hid (World.ownsRow_nil _ _ _ _), Lib.hid (by simp)⟩
 case round =>
  clear HT
  obtain ⟨k, rs, hk, rfl, HC, HZ, HT, HO, HE⟩ := hrel
  obtain ⟨oo, oc, rfl⟩ := own_form HO.out
  have hrs := HC.out
  by_cases hlt : k < l.length
  ·obtain ⟨b1, o1, e1, he1, hc1, hm1', hb1, hx1⟩ := HP.out.rs.pos (by omega)
   simp only [Value.slice.injEq, true_and] at he1
   obtain ⟨rfl, rfl⟩ := he1
   obtain ⟨p0, p1, p2, p3, p4, p5, p6, p7, p8⟩ := st_cell (w := wr) (fun j u hu => (HT.out.low.cell (p := ⟨b1, o1 + j, none⟩) hb1).trans (hx1 j u hu)) k hlt
   have hbr : b1 < wr.heap.size := Nat.lt_of_lt_of_le hb1 HT.out.low.size
   have hxl := HP.out.ls _ (List.getElem_mem hlt)
   have HF := Lib.hid (flat_snocF rolesS hlt)
   clear hx1
   generalize l[k] = x at *
   obtain ⟨xk, ⟨x1, x2⟩, xw, ⟨x3, x4⟩, ⟨x5, x6⟩, xv⟩ := x
   have l1 : (⟨x1, x2⟩ : Rl).le 9223372036854775807 := hxl.1
   have l2 : (⟨x3, x4⟩ : Rl).le 9223372036854775807 := hxl.2.2.1
   have l3 : (⟨x5, x6⟩ : Rl).le 9223372036854775807 := hxl.2.2.2.1
   clear hxl
   have hown := HO.out
   go_wp2_with (at_builtin; refine halt_ ?_)
   unfold Halt_
   refine app_own Tryz.underlying23 rl_info' rfl (by decide) (by decide) rfl _ _ rfl (w.heap.size + 1) rfl ((hown.alloc _).alloc _) [.string x1, .string x2] rfl (heap_new2 _ _ _) rfl (rl1 _ _) ?_ ?_ ?_
   ·first | omega | (simp only [List.length_append, List.length_cons, List.length_nil]; omega)
   ·have := HT.out.a.2.2; simp; omega
   intro a' cap' w3 hown' hgrow
   have HTb := HT.out.alloc (.cells #[.int .i64 xk, .string x1, .string x2, .string xw, .string x3, .string x4, .string x5, .string x6, .string xv] 35)
   obtain ⟨q1, q2⟩ := push_role (x := ⟨x1, x2⟩) HTb (hown.alloc _) hown' hgrow
   have hbx : w3.heap[wr.heap.size]? = some (.cells #[.int .i64 xk, .string x1, .string x2, .string xw, .string x3, .string x4, .string x5, .string x6, .string xv] 35 (0, 0)) := (hgrow.block _ (by simp; omega) (own_ne hown (Nat.le_refl _))).trans (heap_old _ (heap_new1 wr _))
   have HO1 := Lib.hid (own_len (n' := rs.length + 1) q1 (by simp))
   have HT1 := Lib.hid q2
   have HBX1 := Lib.hid hbx
   obtain ⟨cx, fx, zx⟩ := blk_of hbx
   clear hown hown' hgrow q1 q2 hbx HTb
   by_cases k2 : 2 ≤ xk
   case neg =>
    have d2 : decide (2 ≤ xk) = false := decide_eq_false k2
    have d4 : (xk == 4) = false := by (rw [beq_eq_false_iff_ne]; omega)
    have HR := Lib.hid (show rolesS ⟨xk, ⟨x1, x2⟩, xw, ⟨x3, x4⟩, ⟨x5, x6⟩, xv⟩ = [⟨x1, x2⟩] by simp only [rolesS]; rw [if_neg (show ¬ (xk = 2 ∨ xk = 3) by omega), if_neg (show ¬ xk = 4 by omega)])
    clear k2
    go_wp2_with fail
    exact ⟨⟨k + 1, rs ++ [⟨x1, x2⟩], by omega, by go_num, Lib.hid (by simp only [List.length_append, List.length_cons, List.length_nil]; omega), Lib.hid (le_snoc HZ.out (x := ⟨x1, x2⟩) l1), HT1, HO1, Lib.hid (by rw [HF.out, HR.out, HE.out] <;> simp)⟩, by simp [intOf]; omega⟩
   have d2 : decide (2 ≤ xk) = true := decide_eq_true k2
   by_cases k4 : xk ≤ 4
   case neg =>
    have d3 : decide (xk ≤ 4) = false := decide_eq_false k4
    have d4 : (xk == 4) = false := by (rw [beq_eq_false_iff_ne]; omega)
    have HR := Lib.hid (show rolesS ⟨xk, ⟨x1, x2⟩, xw, ⟨x3, x4⟩, ⟨x5, x6⟩, xv⟩ = [⟨x1, x2⟩] by simp only [rolesS]; rw [if_neg (show ¬ (xk = 2 ∨ xk = 3) by omega), if_neg (show ¬ xk = 4 by omega)])
    clear k2 k4
    go_wp2_with fail
    exact ⟨⟨k + 1, rs ++ [⟨x1, x2⟩], by omega, by go_num, Lib.hid (by simp only [List.length_append, List.length_cons, List.length_nil]; omega), Lib.hid (le_snoc HZ.out (x := ⟨x1, x2⟩) l1), HT1, HO1, Lib.hid (by rw [HF.out, HR.out, HE.out] <;> simp)⟩, by simp [intOf]; omega⟩
   have d3 : decide (xk ≤ 4) = true := decide_eq_true k4
   have hown := HO1.out
   go_wp2_with (at_builtin; refine halt_ ?_)
   unfold Halt_
   refine app_own Tryz.underlying23 rl_info' rfl (by decide) (by decide) rfl _ _ rfl (w.heap.size + 1) rfl (hown.alloc _) [.string x3, .string x4] rfl (heap_new1 _ _) rfl (rl1 _ _) ?_ ?_ ?_
   ·first | omega | (simp only [List.length_append, List.length_cons, List.length_nil]; omega)
   ·have := HT1.out.a.2.2; simp; omega
   intro a' cap' w3 hown' hgrow
   obtain ⟨q1, q2⟩ := push_role (x := ⟨x3, x4⟩) HT1.out hown hown' hgrow
   have hbx : w3.heap[wr.heap.size]? = some (.cells #[.int .i64 xk, .string x1, .string x2, .string xw, .string x3, .string x4, .string x5, .string x6, .string xv] 35 (0, 0)) := (hgrow.block _ (Nat.lt_of_lt_of_le (Array.getElem?_eq_some_iff.1 HBX1.out).1 (by simp)) (own_tag hown HBX1.out (by decide))).trans (heap_old _ HBX1.out)
   have HO2 := Lib.hid (own_len (n' := rs.length + 1 + 1) q1 (by simp))
   have HT2 := Lib.hid q2
   have HBX2 := Lib.hid hbx
   obtain ⟨cx, fx, zx⟩ := blk_of hbx
   clear hown hown' hgrow q1 q2 hbx
   by_cases k44 : xk = 4
   case neg =>
    have d4 : (xk == 4) = false := by (rw [beq_eq_false_iff_ne]; omega)
    have HR := Lib.hid (show rolesS ⟨xk, ⟨x1, x2⟩, xw, ⟨x3, x4⟩, ⟨x5, x6⟩, xv⟩ = [⟨x1, x2⟩, ⟨x3, x4⟩] by simp only [rolesS]; rw [if_pos (show xk = 2 ∨ xk = 3 by omega)])
    clear k2 k4 k44
    go_wp2_with fail
    exact ⟨⟨k + 1, rs ++ [⟨x1, x2⟩] ++ [⟨x3, x4⟩], by omega, by go_num, Lib.hid (by simp only [List.length_append, List.length_cons, List.length_nil]; omega), Lib.hid (le_snoc (le_snoc HZ.out (x := ⟨x1, x2⟩) l1) (x := ⟨x3, x4⟩) l2), HT2, HO2, Lib.hid (by rw [HF.out, HR.out, HE.out] <;> simp)⟩, by simp [intOf]; omega⟩
   have d4 : (xk == 4) = true := by simp [k44]
   have HR := Lib.hid (show rolesS ⟨xk, ⟨x1, x2⟩, xw, ⟨x3, x4⟩, ⟨x5, x6⟩, xv⟩ = [⟨x1, x2⟩, ⟨x3, x4⟩, ⟨x5, x6⟩] by simp only [rolesS]; rw [if_neg (show ¬ (xk = 2 ∨ xk = 3) by omega), if_pos k44])
   clear k2 k4 k44
   have hown := HO2.out
   go_wp2_with (at_builtin; refine halt_ ?_)
   unfold Halt_
   refine app_own Tryz.underlying23 rl_info' rfl (by decide) (by decide) rfl _ _ rfl (w.heap.size + 1) rfl (hown.alloc _) [.string x5, .string x6] rfl (heap_new1 _ _) rfl (rl1 _ _) ?_ ?_ ?_
   ·first | omega | (simp only [List.length_append, List.length_cons, List.length_nil]; omega)
   ·have := HT2.out.a.2.2; simp; omega
   intro a' cap' w3 hown' hgrow
   obtain ⟨q1, q2⟩ := push_role (x := ⟨x5, x6⟩) HT2.out hown hown' hgrow
   have HO3 := Lib.hid (own_len (n' := rs.length + 1 + 1 + 1) q1 (by simp))
   have HT3 := Lib.hid q2
   clear hown hown' hgrow q1 q2
   go_wp2_with fail
   exact ⟨⟨k + 1, rs ++ [⟨x1, x2⟩] ++ [⟨x3, x4⟩] ++ [⟨x5, x6⟩], by omega, by go_num, Lib.hid (by simp only [List.length_append, List.length_cons, List.length_nil]; omega), Lib.hid (le_snoc (le_snoc (le_snoc HZ.out (x := ⟨x1, x2⟩) l1) (x := ⟨x3, x4⟩) l2) (x := ⟨x5, x6⟩) l3), HT3, HO3, Lib.hid (by rw [HF.out, HR.out, HE.out] <;> simp)⟩, by simp [intOf]; omega⟩
  ·obtain ⟨ca, fa, za⟩ := HT.out.a
   have hn0 : rs.length ≤ 300 := by omega
   have HE0 := Lib.hid (show rs = l.flatMap rolesS by rw [HE.out, List.take_of_length_le (show l.length ≤ k by omega)])
   clear hrs HC hk HE
   go_wp2_with fail
   clear ca fa za
   go_loopw [3, 49] (fun vo i wr => ∃ (k : Nat) (rs : List Rl), k ≤ g.length ∧ i = .int .i64 k ∧ Hid (rs.length ≤ 300 + k) ∧ Hid (∀ x ∈ rs, x.le 9223372036854775807) ∧ Hid (OneAt w #[.slice a0 l.length c0, .slice a1 g.length c1, .slice a2 h.length c2, .slice a3 qs.length c3] wr) ∧ Hid (wr.ownsRow (w.heap.size + 1) 28 2 vo rs.length (rs.flatMap Rl.cells)) ∧ Hid (rs = l.flatMap rolesS ++ g.take k)) (fun _ i _ => g.length - (intOf i).toNat)
   case atStart => exact ⟨0, rs, by omega, rfl, Lib.hid hn0, HZ, HT, HO, Lib.hid (by rw [HE0.out]; simp)⟩
   case round =>
    clear HT HZ HO hn0 HE0
    obtain ⟨k, rs, hk, rfl, HC, HZ, HT, HO, HE⟩ := hrel
    obtain ⟨oo, oc, rfl⟩ := own_form HO.out
    have hrs := HC.out
    by_cases hlt : k < g.length
    ·obtain ⟨b1, o1, e1, he1, hc1, hm1', hb1, hx1⟩ := HP.out.rg.pos (by omega)
     simp only [Value.slice.injEq, true_and] at he1
     obtain ⟨rfl, rfl⟩ := he1
     obtain ⟨p0, p1⟩ := rl_cell (w := wr) (fun j u hu => (HT.out.low.cell (p := ⟨b1, o1 + j, none⟩) hb1).trans (hx1 j u hu)) k hlt
     have hbr : b1 < wr.heap.size := Nat.lt_of_lt_of_le hb1 HT.out.low.size
     have l1 := HP.out.lg _ (List.getElem_mem hlt)
     have HF := Lib.hid (take_snoc hlt)
     clear hx1
     generalize g[k] = x at *
     obtain ⟨x1, x2⟩ := x
     have hown := HO.out
     go_wp2_with (at_builtin; refine halt_ ?_)
     unfold Halt_
     refine app_own Tryz.underlying23 rl_info' rfl (by decide) (by decide) rfl _ _ rfl (w.heap.size + 1) rfl ((hown.alloc _).alloc _) [.string x1, .string x2] rfl (heap_new2 _ _ _) rfl (rl1 _ _) ?_ ?_ ?_
     ·first | omega | (simp only [List.length_append, List.length_cons, List.length_nil]; omega)
     ·have := HT.out.a.2.2; simp; omega
     intro a' cap' w3 hown' hgrow
     have HTb := HT.out.alloc (.cells #[.string x1, .string x2] 28)
     obtain ⟨q1, q2⟩ := push_role (x := ⟨x1, x2⟩) HTb (hown.alloc _) hown' hgrow
     have HO1 := Lib.hid (own_len (n' := rs.length + 1) q1 (by simp))
     have HT1 := Lib.hid q2
     clear hown hown' hgrow q1 q2 HTb
     go_wp2_with fail
     exact ⟨⟨k + 1, rs ++ [⟨x1, x2⟩], by omega, by go_num, Lib.hid (by simp only [List.length_append, List.length_cons, List.length_nil]; omega), Lib.hid (le_snoc HZ.out (x := ⟨x1, x2⟩) l1), HT1, HO1, Lib.hid (by rw [HF.out, HE.out] <;> simp)⟩, by simp [intOf]; omega⟩
    ·obtain ⟨ca, fa, za⟩ := HT.out.a
     have hn0 : rs.length ≤ 400 := by omega
     have HE0 := Lib.hid (show rs = l.flatMap rolesS ++ g by rw [HE.out, List.take_of_length_le (show g.length ≤ k by omega)])
     clear hrs HC hk HE
     go_wp2_with fail
     clear ca fa za
     go_loopw [3, 61] (fun vo i wr => ∃ (k : Nat) (rs : List Rl), k ≤ h.length ∧ i = .int .i64 k ∧ Hid (rs.length ≤ 400 + k) ∧ Hid (∀ x ∈ rs, x.le 9223372036854775807) ∧ Hid (OneAt w #[.slice a0 l.length c0, .slice a1 g.length c1, .slice a2 h.length c2, .slice a3 qs.length c3] wr) ∧ Hid (wr.ownsRow (w.heap.size + 1) 28 2 vo rs.length (rs.flatMap Rl.cells)) ∧ Hid (rs = l.flatMap rolesS ++ g ++ h.take k)) (fun _ i _ => h.length - (intOf i).toNat)
     case atStart => exact ⟨0, rs, by omega, rfl, Lib.hid hn0, HZ, HT, HO, Lib.hid (by rw [HE0.out]; simp)⟩
     case round =>
      clear HT HZ HO hn0 HE0
      obtain ⟨k, rs, hk, rfl, HC, HZ, HT, HO, HE⟩ := hrel
      obtain ⟨oo, oc, rfl⟩ := own_form HO.out
      have hrs := HC.out
      by_cases hlt : k < h.length
      ·obtain ⟨b1, o1, e1, he1, hc1, hm1', hb1, hx1⟩ := HP.out.rh.pos (by omega)
       simp only [Value.slice.injEq, true_and] at he1
       obtain ⟨rfl, rfl⟩ := he1
       obtain ⟨p0, p1⟩ := rl_cell (w := wr) (fun j u hu => (HT.out.low.cell (p := ⟨b1, o1 + j, none⟩) hb1).trans (hx1 j u hu)) k hlt
       have hbr : b1 < wr.heap.size := Nat.lt_of_lt_of_le hb1 HT.out.low.size
       have l1 := HP.out.lh _ (List.getElem_mem hlt)
       have HF := Lib.hid (take_snoc hlt)
       clear hx1
       generalize h[k] = x at *
       obtain ⟨x1, x2⟩ := x
       have hown := HO.out
       go_wp2_with (at_builtin; refine halt_ ?_)
       unfold Halt_
       refine app_own Tryz.underlying23 rl_info' rfl (by decide) (by decide) rfl _ _ rfl (w.heap.size + 1) rfl ((hown.alloc _).alloc _) [.string x1, .string x2] rfl (heap_new2 _ _ _) rfl (rl1 _ _) ?_ ?_ ?_
       ·first | omega | (simp only [List.length_append, List.length_cons, List.length_nil]; omega)
       ·have := HT.out.a.2.2; simp; omega
       intro a' cap' w3 hown' hgrow
       have HTb := HT.out.alloc (.cells #[.string x1, .string x2] 28)
       obtain ⟨q1, q2⟩ := push_role (x := ⟨x1, x2⟩) HTb (hown.alloc _) hown' hgrow
       have HO1 := Lib.hid (own_len (n' := rs.length + 1) q1 (by simp))
       have HT1 := Lib.hid q2
       clear hown hown' hgrow q1 q2 HTb
       go_wp2_with fail
       exact ⟨⟨k + 1, rs ++ [⟨x1, x2⟩], by omega, by go_num, Lib.hid (by simp only [List.length_append, List.length_cons, List.length_nil]; omega), Lib.hid (le_snoc HZ.out (x := ⟨x1, x2⟩) l1), HT1, HO1, Lib.hid (by rw [HF.out, HE.out] <;> simp)⟩, by simp [intOf]; omega⟩
      ·obtain ⟨ca, fa, za⟩ := HT.out.a
       have hn0 : rs.length ≤ 500 := by omega
       have HE0 := Lib.hid (show rs = l.flatMap rolesS ++ g ++ h by rw [HE.out, List.take_of_length_le (show h.length ≤ k by omega)])
       clear hrs HC hk HE
       go_wp2_with fail
       clear ca fa za
       go_loopw [3, 73] (fun vo i wr => ∃ (k : Nat) (rs : List Rl), k ≤ qs.length ∧ i = .int .i64 k ∧ Hid (rs.length ≤ 500 + 2 * k) ∧ Hid (∀ x ∈ rs, x.le 9223372036854775807) ∧ Hid (OneAt w #[.slice a0 l.length c0, .slice a1 g.length c1, .slice a2 h.length c2, .slice a3 qs.length c3] wr) ∧ Hid (wr.ownsRow (w.heap.size + 1) 28 2 vo rs.length (rs.flatMap Rl.cells)) ∧ Hid (rs = l.flatMap rolesS ++ g ++ h ++ (qs.take k).flatMap rolesQ)) (fun _ i _ => qs.length - (intOf i).toNat)
       case atStart => exact ⟨0, rs, by omega, rfl, Lib.hid hn0, HZ, HT, HO, Lib.hid (by rw [HE0.out]; simp)⟩
       case round =>
        clear HT HZ HO hn0 HE0
        obtain ⟨k, rs, hk, rfl, HC, HZ, HT, HO, HE⟩ := hrel
        obtain ⟨oo, oc, rfl⟩ := own_form HO.out
        have hrs := HC.out
        by_cases hlt : k < qs.length
        ·obtain ⟨b1, o1, e1, he1, hc1, hm1', hb1, hx1⟩ := HP.out.rq.pos (by omega)
         simp only [Value.slice.injEq, true_and] at he1
         obtain ⟨rfl, rfl⟩ := he1
         obtain ⟨p0, p1, p2, p3, p4, p5⟩ := q_cell (w := wr) (fun j u hu => (HT.out.low.cell (p := ⟨b1, o1 + j, none⟩) hb1).trans (hx1 j u hu)) k hlt
         have hbr : b1 < wr.heap.size := Nat.lt_of_lt_of_le hb1 HT.out.low.size
         have hqo := HP.out.lq _ (List.getElem_mem hlt)
         have l1 := hqo.1
         have l2 := hqo.2.1
         obtain ⟨wo, wc, hw5⟩ : ∃ a c, qs[k].w = .slice a ((hqo.2.2).choose).length c := ((hqo.2.2).choose_spec.1).form
         generalize (hqo.2.2).choose.length = nw at hw5
         have HF := Lib.hid (flat_snocF rolesQ hlt)
         clear hx1 hqo
         generalize qs[k] = x at *
         obtain ⟨xk, ⟨x1, x2⟩, ⟨x3, x4⟩, xw⟩ := x
         dsimp only at hw5
         subst hw5
         have hown := HO.out
         go_wp2_with (at_builtin; refine halt_ ?_)
         unfold Halt_
         refine app_own Tryz.underlying23 rl_info' rfl (by decide) (by decide) rfl _ _ rfl (w.heap.size + 1) rfl ((hown.alloc _).alloc _) [.string x1, .string x2] rfl (heap_new2 _ _ _) rfl (rl1 _ _) ?_ ?_ ?_
         ·first | omega | (simp only [List.length_append, List.length_cons, List.length_nil]; omega)
         ·have := HT.out.a.2.2; simp; omega
         intro a' cap' w3 hown' hgrow
         have HTb := HT.out.alloc (.cells #[.int .i64 xk, .string x1, .string x2, .string x3, .string x4, .slice wo nw wc] 45)
         obtain ⟨q1, q2⟩ := push_role (x := ⟨x1, x2⟩) HTb (hown.alloc _) hown' hgrow
         have hbx : w3.heap[wr.heap.size]? = some (.cells #[.int .i64 xk, .string x1, .string x2, .string x3, .string x4, .slice wo nw wc] 45 (0, 0)) := (hgrow.block _ (by simp; omega) (own_ne hown (Nat.le_refl _))).trans (heap_old _ (heap_new1 wr _))
         have HO1 := Lib.hid (own_len (n' := rs.length + 1) q1 (by simp))
         have HT1 := Lib.hid q2
         have HBX1 := Lib.hid hbx
         obtain ⟨cx, fx, zx⟩ := blk_of hbx
         clear hown hown' hgrow q1 q2 hbx HTb
         by_cases k5 : xk = 5 ∨ xk = 6
         case neg =>
          have d5 : (xk == 5) = false := by (rw [beq_eq_false_iff_ne]; omega)
          have d6 : (xk == 6) = false := by (rw [beq_eq_false_iff_ne]; omega)
          have HR := Lib.hid (show rolesQ ⟨xk, ⟨x1, x2⟩, ⟨x3, x4⟩, .slice wo nw wc⟩ = [⟨x1, x2⟩] from if_neg k5)
          clear k5
          go_wp2_with fail
          exact ⟨⟨k + 1, rs ++ [⟨x1, x2⟩], by omega, by go_num, Lib.hid (by simp only [List.length_append, List.length_cons, List.length_nil]; omega), Lib.hid (le_snoc HZ.out (x := ⟨x1, x2⟩) l1), HT1, HO1, Lib.hid (by rw [HF.out, HR.out, HE.out] <;> simp)⟩, by simp [intOf]; omega⟩
         have HR := Lib.hid (show rolesQ ⟨xk, ⟨x1, x2⟩, ⟨x3, x4⟩, .slice wo nw wc⟩ = [⟨x1, x2⟩, ⟨x3, x4⟩] from if_pos k5)
         by_cases k6 : xk = 5
         case pos =>
          have d5 : (xk == 5) = true := by simp [k6]
          clear k5 k6
          have hown := HO1.out
          go_wp2_with (at_builtin; refine halt_ ?_)
          unfold Halt_
          refine app_own Tryz.underlying23 rl_info' rfl (by decide) (by decide) rfl _ _ rfl (w.heap.size + 1) rfl (hown.alloc _) [.string x3, .string x4] rfl (heap_new1 _ _) rfl (rl1 _ _) ?_ ?_ ?_
          ·first | omega | (simp only [List.length_append, List.length_cons, List.length_nil]; omega)
          ·have := HT1.out.a.2.2; simp; omega
          intro a' cap' w3 hown' hgrow
          obtain ⟨q1, q2⟩ := push_role (x := ⟨x3, x4⟩) HT1.out hown hown' hgrow
          have HO2 := Lib.hid (own_len (n' := rs.length + 1 + 1) q1 (by simp))
          have HT2 := Lib.hid q2
          clear hown hown' hgrow q1 q2
          go_wp2_with fail
          exact ⟨⟨k + 1, rs ++ [⟨x1, x2⟩] ++ [⟨x3, x4⟩], by omega, by go_num, Lib.hid (by simp only [List.length_append, List.length_cons, List.length_nil]; omega), Lib.hid (le_snoc (le_snoc HZ.out (x := ⟨x1, x2⟩) l1) (x := ⟨x3, x4⟩) l2), HT2, HO2, Lib.hid (by rw [HF.out, HR.out, HE.out] <;> simp)⟩, by simp [intOf]; omega⟩
         have d5 : (xk == 5) = false := by (rw [beq_eq_false_iff_ne]; omega)
         have d6 : (xk == 6) = true := by (rw [beq_iff_eq]; omega)
         clear k5 k6
         have hown := HO1.out
         go_wp2_with (at_builtin; refine halt_ ?_)
         unfold Halt_
         refine app_own Tryz.underlying23 rl_info' rfl (by decide) (by decide) rfl _ _ rfl (w.heap.size + 1) rfl (hown.alloc _) [.string x3, .string x4] rfl (heap_new1 _ _) rfl (rl1 _ _) ?_ ?_ ?_
         ·first | omega | (simp only [List.length_append, List.length_cons, List.length_nil]; omega)
         ·have := HT1.out.a.2.2; simp; omega
         intro a' cap' w3 hown' hgrow
         obtain ⟨q1, q2⟩ := push_role (x := ⟨x3, x4⟩) HT1.out hown hown' hgrow
         have HO2 := Lib.hid (own_len (n' := rs.length + 1 + 1) q1 (by simp))
         have HT2 := Lib.hid q2
         clear hown hown' hgrow q1 q2
         go_wp2_with fail
         exact ⟨⟨k + 1, rs ++ [⟨x1, x2⟩] ++ [⟨x3, x4⟩], by omega, by go_num, Lib.hid (by simp only [List.length_append, List.length_cons, List.length_nil]; omega), Lib.hid (le_snoc (le_snoc HZ.out (x := ⟨x1, x2⟩) l1) (x := ⟨x3, x4⟩) l2), HT2, HO2, Lib.hid (by rw [HF.out, HR.out, HE.out] <;> simp)⟩, by simp [intOf]; omega⟩
        ·have HSL := Lib.hid (Sl.of_own HO.out).a
         have HA := Lib.hid (show rs = allRoles l g h qs by rw [HE.out, List.take_of_length_le (show qs.length ≤ k by omega)]; rfl)
         go_wp2
         go_ret
         exact ⟨_, rfl, by rw [← HA.out]; exact HSL.out, by rw [← HA.out]; omega, by rw [← HA.out]; exact HZ.out, HT.out.low⟩
end Go.Proofs.YtcmdhfccdkjenaaGreatDoor
namespace Go.Proofs.YtcmdhfccdkjenaaGreatDoor
open Go.RowKit Go.Shelf

theorem insAll_snocB : ∀ (acc l : List ByteArray) (x : ByteArray), insAllB acc (l ++ [x]) = insSB (insAllB acc l) x
 | _, [], _ => rfl
 | acc, a :: l, x => insAll_snocB (insSB acc a) l x
theorem new_snoc (l : List ByteArray) (x : ByteArray) : newB (l ++ [x]) = insSB (newB l) x := insAll_snocB [] l x
def NewAt (w : World) (v : Value) (xs : List ByteArray) (n : Nat) : Prop := SlA w 1 v (newB xs).length (strs (newB xs)) ∧ xs.length ≤ n
theorem NewAt.below {w w' : World} {v : Value} {xs : List ByteArray} {n : Nat} (h : NewAt w v xs n) (hb : Below w.heap.size w w') : NewAt w' v xs n := ⟨h.1.below hb, h.2⟩
theorem NewAt.mono {w : World} {v : Value} {xs : List ByteArray} {n m : Nat} (h : NewAt w v xs n) (hm : n ≤ m) : NewAt w v xs m := ⟨h.1, Nat.le_trans h.2 hm⟩
theorem NewAt.nil (w : World) : NewAt w (.slice none 0 0) [] 0 := ⟨(Sl.nil _ _).a, Nat.le_refl _⟩
theorem NewAt.eq {w : World} {v : Value} {xs ys : List ByteArray} {n : Nat} (h : NewAt w v xs n) (e : ys = xs) : NewAt w v ys n := by rw [e]; exact h
theorem put_new (v : Value) (n : Nat) (xs : List ByteArray) (s : ByteArray) (w : World) (h : NewAt w v xs n) (hn : n ≤ 100000) :
  Calls Tryz.prog 91 #[v, .string s] w fun e w' => ∃ v', e = .returned v' ∧ NewAt w' v' (xs ++ [s]) (n + 1) ∧ Below w.heap.size w w' := by
 refine (ref1_PutB v (newB xs) s w h.1 (Nat.le_trans (new_len xs) (Nat.le_trans h.2 hn))).mono ?_
 rintro e w' ⟨v', he, hr, hb⟩
 exact ⟨v', he, ⟨by rw [new_snoc]; exact hr, by rw [List.length_append]; exact Nat.succ_le_succ h.2⟩, hb⟩
def whoS (s : St) : List ByteArray := if s.k = 1 then [s.who] else []
def viaS (s : St) : List ByteArray := if s.k = 3 then [s.via] else []
def allPrins (l : List St) (g h : List Rl) (qs : List Qv) (F : Qv → List ByteArray) : List ByteArray := (allRoles l g h qs).map Rl.o ++ l.flatMap whoS ++ qs.flatMap F
def allNames (l : List St) (g h : List Rl) (qs : List Qv) : List ByteArray := (allRoles l g h qs).map Rl.n ++ l.flatMap viaS
def WhoF (w : World) (qs : List Qv) (F : Qv → List ByteArray) : Prop := ∀ q ∈ qs, SlA w 1 q.w (F q).length (strs (F q)) ∧ (F q).length ≤ 40
theorem WhoF.below {w w' : World} {qs : List Qv} {F : Qv → List ByteArray} (h : WhoF w qs F) (hb : Below w.heap.size w w') : WhoF w' qs F := fun q hq => ⟨(h q hq).1.below hb, (h q hq).2⟩

set_option maxRecDepth 100000 in
set_option maxHeartbeats 8000000 in
theorem ref5_PrinsL (v0 v1 v2 v3 : Value) (l : List St) (g h : List Rl) (qs : List Qv) (w : World) (hp : PolAt w v0 v1 v2 v3 l g h qs) (hl : l.length ≤ 100) (hg : g.length ≤ 100) (hh : h.length ≤ 100) (hq : qs.length ≤ 100) (F : Qv → List ByteArray) (hF : WhoF w qs F) :
  Calls Tryz.prog 45 #[pv v0 v1 v2 v3] w fun e w' => ∃ v, e = .returned v ∧ NewAt w' v (allPrins l g h qs F) 10000 ∧ Below w.heap.size w w' := by
 have HP := Lib.hid hp
 have HR := Lib.hid (fun W (hb : Below w.heap.size w W) => ref5_RolesL v0 v1 v2 v3 l g h qs W (hp.below hb) hl hg hh hq)
 have HQ4 := Lib.hid hF
 obtain ⟨a0, c0, rfl⟩ := hp.rs.form
 obtain ⟨a1, c1, rfl⟩ := hp.rg.form
 obtain ⟨a2, c2, rfl⟩ := hp.rh.form
 obtain ⟨a3, c3, rfl⟩ := hp.rq.form
 have HT := Lib.hid (show OneAt w #[.slice a0 l.length c0, .slice a1 g.length c1, .slice a2 h.length c2, .slice a3 qs.length c3] (w.alloc (.cells #[.slice a0 l.length c0, .slice a1 g.length c1, .slice a2 h.length c2, .slice a3 qs.length c3] 26)) from ⟨Blk.new w _ _, (Below.refl _ _).alloc (Nat.le_refl _) _⟩)
 clear hp hF
 go_enter Tryz.func45, Tryz.ntmps45
 go_wp2_with fail
 refine (HR.out _ HT.out.low).mono ?_
 rintro e w1 ⟨vr, rfl, hr1, hr2, hr3, hb1⟩
 have HT := Lib.hid (HT.out.later hb1)
 have HRES := Lib.hid (show allPrins l g h qs F = ((allRoles l g h qs).map Rl.o ++ l.flatMap whoS) ++ qs.flatMap F from rfl)
 generalize allRoles l g h qs = rs at *
 have HRS := Lib.hid hr1
 have HRL := Lib.hid hr3
 obtain ⟨ro, rc, rfl⟩ := hr1.form
 clear hb1 hr1 hr3
 go_wp2_with fail
 go_loopw [3, 15] (fun vo i wr => ∃ (k : Nat) (vx : Value), k ≤ rs.length ∧ vx = vo ∧ i = .int .i64 k ∧ Hid (NewAt wr vx ((rs.take k).map Rl.o) k) ∧ Hid (OneAt w #[.slice a0 l.length c0, .slice a1 g.length c1, .slice a2 h.length c2, .slice a3 qs.length c3] wr) ∧ Hid (Below w1.heap.size w1 wr)) (fun _ i _ => rs.length - (intOf i).toNat)
 case atStart => exact ⟨0, _, by omega, rfl, rfl, Lib.hid (NewAt.nil _), HT, Lib.hid (Below.refl _ _)⟩
 case round =>
  clear HT
  obtain ⟨k, vx, hk, rfl, rfl, HO, HT, HB⟩ := hrel
  by_cases hlt : k < rs.length
  ·obtain ⟨b1, o1, e1, he1, hc1, hm1', hb1, hx1⟩ := HRS.out.pos (by omega)
   simp only [Value.slice.injEq, true_and] at he1
   obtain ⟨rfl, rfl⟩ := he1
   obtain ⟨p0, p1⟩ := rl_cell (w := wr) (fun j u hu => (HB.out.cell (p := ⟨b1, o1 + j, none⟩) hb1).trans (hx1 j u hu)) k hlt
   have hbr : b1 < wr.heap.size := Nat.lt_of_lt_of_le hb1 HB.out.size
   have HF := Lib.hid (take_snoc hlt)
   clear hx1
   generalize rs[k] = x at *
   obtain ⟨x1, x2⟩ := x
   have hba : Below wr.heap.size wr (wr.alloc (.cells #[.string x1, .string x2] 28)) := (Below.refl _ _).alloc (Nat.le_refl _) _
   have PC := Lib.hid (put_new vx k _ x1 _ (HO.out.below hba) (by omega))
   have HT2 := Lib.hid (HT.out.later hba)
   have HB2 := Lib.hid (HB.out.trans (hba.mono HB.out.size))
   clear hba
   go_wp2_with fail
   refine PC.out.mono ?_
   rintro e w3 ⟨vz, rfl, hr, hb3⟩
   have HR3 := Lib.hid hr
   have HT3 := Lib.hid (HT2.out.later hb3)
   have HB3 := Lib.hid (HB2.out.trans (hb3.mono HB2.out.size))
   clear hr hb3
   go_wp2
   exact ⟨⟨k + 1, _, by omega, rfl, by go_num, Lib.hid (HR3.out.eq (by rw [HF.out, List.map_append]; rfl)), HT3, HB3⟩, by simp [intOf]; omega⟩
  ·obtain ⟨ca, fa, za⟩ := HT.out.a
   have HO := Lib.hid ((HO.out.mono (show k ≤ 1000 by omega)).eq (ys := rs.map Rl.o) (by rw [List.take_of_length_le (show rs.length ≤ k by omega)]))
   clear HB HRS HRL hk
   go_wp2_with fail
   clear ca fa za
   go_loopw [3, 27] (fun vo i wr => ∃ (k : Nat) (vx : Value), k ≤ l.length ∧ vx = vo ∧ i = .int .i64 k ∧ Hid (NewAt wr vx (rs.map Rl.o ++ (l.take k).flatMap whoS) (1000 + k)) ∧ Hid (OneAt w #[.slice a0 l.length c0, .slice a1 g.length c1, .slice a2 h.length c2, .slice a3 qs.length c3] wr)) (fun _ i _ => l.length - (intOf i).toNat)
   case atStart => exact ⟨0, _, by omega, rfl, rfl, Lib.hid (HO.out.eq (by simp)), HT⟩
   case round =>
    clear HT HO
    obtain ⟨k, vx, hk, rfl, rfl, HO, HT⟩ := hrel
    by_cases hlt : k < l.length
    ·obtain ⟨b1, o1, e1, he1, hc1, hm1', hb1, hx1⟩ := HP.out.rs.pos (by omega)
     simp only [Value.slice.injEq, true_and] at he1
     obtain ⟨rfl, rfl⟩ := he1
     obtain ⟨p0, p1, p2, p3, p4, p5, p6, p7, p8⟩ := st_cell (w := wr) (fun j u hu => (HT.out.low.cell (p := ⟨b1, o1 + j, none⟩) hb1).trans (hx1 j u hu)) k hlt
     have hbr : b1 < wr.heap.size := Nat.lt_of_lt_of_le hb1 HT.out.low.size
     have HF := Lib.hid (flat_snocF whoS hlt)
     clear hx1
     generalize l[k] = x at *
     obtain ⟨xk, ⟨x1, x2⟩, xw, ⟨x3, x4⟩, ⟨x5, x6⟩, xv⟩ := x
     have hba : Below wr.heap.size wr (wr.alloc (.cells #[.int .i64 xk, .string x1, .string x2, .string xw, .string x3, .string x4, .string x5, .string x6, .string xv] 35)) := (Below.refl _ _).alloc (Nat.le_refl _) _
     have PC := Lib.hid (put_new vx (1000 + k) _ xw _ (HO.out.below hba) (by omega))
     have HT2 := Lib.hid (HT.out.later hba)
     have HO2 := Lib.hid (HO.out.below hba)
     clear hba
     by_cases hkk : xk = 1
     ·have d1 : (xk == 1) = true := by simp [hkk]
      have HK := Lib.hid (show whoS ⟨xk, ⟨x1, x2⟩, xw, ⟨x3, x4⟩, ⟨x5, x6⟩, xv⟩ = [xw] from if_pos hkk)
      clear hkk
      go_wp2_with fail
      refine PC.out.mono ?_
      rintro e w3 ⟨vz, rfl, hr, hb3⟩
      have HR3 := Lib.hid hr
      have HT3 := Lib.hid (HT2.out.later hb3)
      clear hr hb3
      go_wp2
      exact ⟨⟨k + 1, _, by omega, rfl, by go_num, Lib.hid (HR3.out.eq (by rw [HF.out, HK.out, List.append_assoc])), HT3⟩, by simp [intOf]; omega⟩
     ·have d1 : (xk == 1) = false := by simp [hkk]
      have HK := Lib.hid (show whoS ⟨xk, ⟨x1, x2⟩, xw, ⟨x3, x4⟩, ⟨x5, x6⟩, xv⟩ = [] from if_neg hkk)
      clear hkk
      go_wp2
      exact ⟨⟨k + 1, _, by omega, rfl, by go_num, Lib.hid ((HO2.out.mono (by omega)).eq (by rw [HF.out, HK.out, List.append_nil])), HT2⟩, by simp [intOf]; omega⟩
    ·obtain ⟨ca, fa, za⟩ := HT.out.a
     have HO := Lib.hid ((HO.out.mono (show 1000 + k ≤ 1100 by omega)).eq (ys := rs.map Rl.o ++ l.flatMap whoS) (by rw [List.take_of_length_le (show l.length ≤ k by omega)]))
     clear hk
     go_wp2_with fail
     clear ca fa za
     go_loopw [3, 42] (fun vo i wr => ∃ (k : Nat) (vx : Value), k ≤ qs.length ∧ vx = vo ∧ i = .int .i64 k ∧ Hid (NewAt wr vx (rs.map Rl.o ++ l.flatMap whoS ++ (qs.take k).flatMap F) (1100 + 40 * k)) ∧ Hid (OneAt w #[.slice a0 l.length c0, .slice a1 g.length c1, .slice a2 h.length c2, .slice a3 qs.length c3] wr)) (fun _ i _ => qs.length - (intOf i).toNat)
     case atStart => exact ⟨0, _, by omega, rfl, rfl, Lib.hid (HO.out.eq (by simp)), HT⟩
     case round =>
      clear HT HO
      obtain ⟨k, vx, hk, rfl, rfl, HO, HT⟩ := hrel
      by_cases hlt : k < qs.length
      ·obtain ⟨b1, o1, e1, he1, hc1, hm1', hb1, hx1⟩ := HP.out.rq.pos (by omega)
       simp only [Value.slice.injEq, true_and] at he1
       obtain ⟨rfl, rfl⟩ := he1
       obtain ⟨p0, p1, p2, p3, p4, p5⟩ := q_cell (w := wr) (fun j u hu => (HT.out.low.cell (p := ⟨b1, o1 + j, none⟩) hb1).trans (hx1 j u hu)) k hlt
       have hbr : b1 < wr.heap.size := Nat.lt_of_lt_of_le hb1 HT.out.low.size
       obtain ⟨hu1, hu2⟩ := HQ4.out _ (List.getElem_mem hlt)
       have HF := Lib.hid (flat_snocF F hlt)
       generalize F qs[k] = us at hu1 hu2 HF
       have HU := Lib.hid hu1
       obtain ⟨wo, wc, hw5⟩ := hu1.form
       clear hx1 hu1
       generalize qs[k] = x at *
       obtain ⟨xk, ⟨x1, x2⟩, ⟨x3, x4⟩, xw⟩ := x
       dsimp only at hw5 HU
       subst hw5
       obtain ⟨nw, hnw⟩ : ∃ nw, nw = us.length := ⟨_, rfl⟩
       have HNW := Lib.hid hnw
       rw [← hnw] at p5 HU hu2
       clear hnw
       have hba : Below wr.heap.size wr (wr.alloc (.cells #[.int .i64 xk, .string x1, .string x2, .string x3, .string x4, .slice wo nw wc] 45)) := (Below.refl _ _).alloc (Nat.le_refl _) _
       have HT2 := Lib.hid (HT.out.later hba)
       have HO2 := Lib.hid (HO.out.below hba)
       clear hba
       go_wp2_with fail
       go_loopw [3, 49] (fun vo i wr => ∃ (j : Nat) (vx : Value), j ≤ nw ∧ vx = vo ∧ i = .int .i64 j ∧ Hid (NewAt wr vx (rs.map Rl.o ++ l.flatMap whoS ++ (qs.take k).flatMap F ++ us.take j) (1100 + 40 * k + j)) ∧ Hid (OneAt w #[.slice a0 l.length c0, .slice a1 g.length c1, .slice a2 h.length c2, .slice (some ⟨b1, o1, none⟩) qs.length c3] wr)) (fun _ i _ => nw - (intOf i).toNat)
       case atStart => exact ⟨0, _, by omega, rfl, rfl, Lib.hid (HO2.out.eq (by simp)), HT2⟩
       case round =>
        clear HT HO HT2 HO2
        obtain ⟨j, vx, hj, rfl, rfl, HO, HT⟩ := hrel
        by_cases hlj : j < nw
        ·obtain ⟨b1, o1, e1, he1, hc1, hm1', hb1, hx1⟩ := HU.out.pos (by omega)
         simp only [Value.slice.injEq, true_and] at he1
         obtain ⟨rfl, rfl⟩ := he1
         have hju : j < us.length := by have := HNW.out; omega
         have p0 := (HT.out.low.cell (p := ⟨b1, o1 + j, none⟩) hb1).trans (hx1 j _ (strs_get hju))
         have hbr : b1 < wr.heap.size := Nat.lt_of_lt_of_le hb1 HT.out.low.size
         have PC := Lib.hid (put_new vx (1100 + 40 * k + j) _ us[j] _ HO.out (by omega))
         have HFJ := Lib.hid (take_snoc hju)
         clear hx1
         generalize us[j] = s at *
         go_wp2_with fail
         refine PC.out.mono ?_
         rintro e w3 ⟨vz, rfl, hr, hb3⟩
         have HR3 := Lib.hid hr
         have HT3 := Lib.hid (HT.out.later hb3)
         clear hr hb3
         go_wp2
         exact ⟨⟨j + 1, _, by omega, rfl, by go_num, Lib.hid (HR3.out.eq (by rw [HFJ.out]; simp only [List.append_assoc])), HT3⟩, by simp [intOf]; omega⟩
        ·have HO3 := Lib.hid ((HO.out.mono (show 1100 + 40 * k + j ≤ 1100 + 40 * (k + 1) by omega)).eq (ys := rs.map Rl.o ++ l.flatMap whoS ++ (qs.take (k + 1)).flatMap F) (by rw [HF.out, List.take_of_length_le (show us.length ≤ j by have := HNW.out; omega)]; simp only [List.append_assoc]))
         go_wp2
         exact ⟨⟨k + 1, _, by omega, rfl, by go_num, HO3, HT⟩, by simp [intOf]; omega⟩
      ·have HO3 := Lib.hid ((HO.out.mono (show 1100 + 40 * k ≤ 10000 by omega)).eq (ys := allPrins l g h qs F) (by rw [HRES.out, List.take_of_length_le (show qs.length ≤ k by omega)]))
       go_wp2
       go_ret
       exact ⟨_, rfl, HO3.out, HT.out.low⟩

set_option maxRecDepth 100000 in
set_option maxHeartbeats 8000000 in
theorem ref5_NamesL (v0 v1 v2 v3 : Value) (l : List St) (g h : List Rl) (qs : List Qv) (w : World) (hp : PolAt w v0 v1 v2 v3 l g h qs) (hl : l.length ≤ 100) (hg : g.length ≤ 100) (hh : h.length ≤ 100) (hq : qs.length ≤ 100)  :
  Calls Tryz.prog 46 #[pv v0 v1 v2 v3] w fun e w' => ∃ v, e = .returned v ∧ NewAt w' v (allNames l g h qs) 10000 ∧ Below w.heap.size w w' := by
 have HP := Lib.hid hp
 have HR := Lib.hid (fun W (hb : Below w.heap.size w W) => ref5_RolesL v0 v1 v2 v3 l g h qs W (hp.below hb) hl hg hh hq)
 obtain ⟨a0, c0, rfl⟩ := hp.rs.form
 obtain ⟨a1, c1, rfl⟩ := hp.rg.form
 obtain ⟨a2, c2, rfl⟩ := hp.rh.form
 obtain ⟨a3, c3, rfl⟩ := hp.rq.form
 have HT := Lib.hid (show OneAt w #[.slice a0 l.length c0, .slice a1 g.length c1, .slice a2 h.length c2, .slice a3 qs.length c3] (w.alloc (.cells #[.slice a0 l.length c0, .slice a1 g.length c1, .slice a2 h.length c2, .slice a3 qs.length c3] 26)) from ⟨Blk.new w _ _, (Below.refl _ _).alloc (Nat.le_refl _) _⟩)
 clear hp 
 go_enter Tryz.func46, Tryz.ntmps46
 go_wp2_with fail
 refine (HR.out _ HT.out.low).mono ?_
 rintro e w1 ⟨vr, rfl, hr1, hr2, hr3, hb1⟩
 have HT := Lib.hid (HT.out.later hb1)
 have HRES := Lib.hid (show allNames l g h qs = ((allRoles l g h qs).map Rl.n ++ l.flatMap viaS)  from rfl)
 generalize allRoles l g h qs = rs at *
 have HRS := Lib.hid hr1
 have HRL := Lib.hid hr3
 obtain ⟨ro, rc, rfl⟩ := hr1.form
 clear hb1 hr1 hr3
 go_wp2_with fail
 go_loopw [3, 11] (fun vo i wr => ∃ (k : Nat) (vx : Value), k ≤ rs.length ∧ vx = vo ∧ i = .int .i64 k ∧ Hid (NewAt wr vx ((rs.take k).map Rl.n) k) ∧ Hid (OneAt w #[.slice a0 l.length c0, .slice a1 g.length c1, .slice a2 h.length c2, .slice a3 qs.length c3] wr) ∧ Hid (Below w1.heap.size w1 wr)) (fun _ i _ => rs.length - (intOf i).toNat)
 case atStart => exact ⟨0, _, by omega, rfl, rfl, Lib.hid (NewAt.nil _), HT, Lib.hid (Below.refl _ _)⟩
 case round =>
  clear HT
  obtain ⟨k, vx, hk, rfl, rfl, HO, HT, HB⟩ := hrel
  by_cases hlt : k < rs.length
  ·obtain ⟨b1, o1, e1, he1, hc1, hm1', hb1, hx1⟩ := HRS.out.pos (by omega)
   simp only [Value.slice.injEq, true_and] at he1
   obtain ⟨rfl, rfl⟩ := he1
   obtain ⟨p0, p1⟩ := rl_cell (w := wr) (fun j u hu => (HB.out.cell (p := ⟨b1, o1 + j, none⟩) hb1).trans (hx1 j u hu)) k hlt
   have hbr : b1 < wr.heap.size := Nat.lt_of_lt_of_le hb1 HB.out.size
   have HF := Lib.hid (take_snoc hlt)
   clear hx1
   generalize rs[k] = x at *
   obtain ⟨x1, x2⟩ := x
   have hba : Below wr.heap.size wr (wr.alloc (.cells #[.string x1, .string x2] 28)) := (Below.refl _ _).alloc (Nat.le_refl _) _
   have PC := Lib.hid (put_new vx k _ x2 _ (HO.out.below hba) (by omega))
   have HT2 := Lib.hid (HT.out.later hba)
   have HB2 := Lib.hid (HB.out.trans (hba.mono HB.out.size))
   clear hba
   go_wp2_with fail
   refine PC.out.mono ?_
   rintro e w3 ⟨vz, rfl, hr, hb3⟩
   have HR3 := Lib.hid hr
   have HT3 := Lib.hid (HT2.out.later hb3)
   have HB3 := Lib.hid (HB2.out.trans (hb3.mono HB2.out.size))
   clear hr hb3
   go_wp2
   exact ⟨⟨k + 1, _, by omega, rfl, by go_num, Lib.hid (HR3.out.eq (by rw [HF.out, List.map_append]; rfl)), HT3, HB3⟩, by simp [intOf]; omega⟩
  ·obtain ⟨ca, fa, za⟩ := HT.out.a
   have HO := Lib.hid ((HO.out.mono (show k ≤ 1000 by omega)).eq (ys := rs.map Rl.n) (by rw [List.take_of_length_le (show rs.length ≤ k by omega)]))
   clear HB HRS HRL hk
   go_wp2_with fail
   clear ca fa za
   go_loopw [3, 23] (fun vo i wr => ∃ (k : Nat) (vx : Value), k ≤ l.length ∧ vx = vo ∧ i = .int .i64 k ∧ Hid (NewAt wr vx (rs.map Rl.n ++ (l.take k).flatMap viaS) (1000 + k)) ∧ Hid (OneAt w #[.slice a0 l.length c0, .slice a1 g.length c1, .slice a2 h.length c2, .slice a3 qs.length c3] wr)) (fun _ i _ => l.length - (intOf i).toNat)
   case atStart => exact ⟨0, _, by omega, rfl, rfl, Lib.hid (HO.out.eq (by simp)), HT⟩
   case round =>
    clear HT HO
    obtain ⟨k, vx, hk, rfl, rfl, HO, HT⟩ := hrel
    by_cases hlt : k < l.length
    ·obtain ⟨b1, o1, e1, he1, hc1, hm1', hb1, hx1⟩ := HP.out.rs.pos (by omega)
     simp only [Value.slice.injEq, true_and] at he1
     obtain ⟨rfl, rfl⟩ := he1
     obtain ⟨p0, p1, p2, p3, p4, p5, p6, p7, p8⟩ := st_cell (w := wr) (fun j u hu => (HT.out.low.cell (p := ⟨b1, o1 + j, none⟩) hb1).trans (hx1 j u hu)) k hlt
     have hbr : b1 < wr.heap.size := Nat.lt_of_lt_of_le hb1 HT.out.low.size
     have HF := Lib.hid (flat_snocF viaS hlt)
     clear hx1
     generalize l[k] = x at *
     obtain ⟨xk, ⟨x1, x2⟩, xw, ⟨x3, x4⟩, ⟨x5, x6⟩, xv⟩ := x
     have hba : Below wr.heap.size wr (wr.alloc (.cells #[.int .i64 xk, .string x1, .string x2, .string xw, .string x3, .string x4, .string x5, .string x6, .string xv] 35)) := (Below.refl _ _).alloc (Nat.le_refl _) _
     have PC := Lib.hid (put_new vx (1000 + k) _ xv _ (HO.out.below hba) (by omega))
     have HT2 := Lib.hid (HT.out.later hba)
     have HO2 := Lib.hid (HO.out.below hba)
     clear hba
     by_cases hkk : xk = 3
     ·have d1 : (xk == 3) = true := by simp [hkk]
      have HK := Lib.hid (show viaS ⟨xk, ⟨x1, x2⟩, xw, ⟨x3, x4⟩, ⟨x5, x6⟩, xv⟩ = [xv] from if_pos hkk)
      clear hkk
      go_wp2_with fail
      refine PC.out.mono ?_
      rintro e w3 ⟨vz, rfl, hr, hb3⟩
      have HR3 := Lib.hid hr
      have HT3 := Lib.hid (HT2.out.later hb3)
      clear hr hb3
      go_wp2
      exact ⟨⟨k + 1, _, by omega, rfl, by go_num, Lib.hid (HR3.out.eq (by rw [HF.out, HK.out, List.append_assoc])), HT3⟩, by simp [intOf]; omega⟩
     ·have d1 : (xk == 3) = false := by simp [hkk]
      have HK := Lib.hid (show viaS ⟨xk, ⟨x1, x2⟩, xw, ⟨x3, x4⟩, ⟨x5, x6⟩, xv⟩ = [] from if_neg hkk)
      clear hkk
      go_wp2
      exact ⟨⟨k + 1, _, by omega, rfl, by go_num, Lib.hid ((HO2.out.mono (by omega)).eq (by rw [HF.out, HK.out, List.append_nil])), HT2⟩, by simp [intOf]; omega⟩
    ·have HO3 := Lib.hid ((HO.out.mono (show 1000 + k ≤ 10000 by omega)).eq (ys := allNames l g h qs) (by rw [HRES.out, List.take_of_length_le (show l.length ≤ k by omega)]))
     go_wp2
     go_ret
     exact ⟨_, rfl, HO3.out, HT.out.low⟩
end Go.Proofs.YtcmdhfccdkjenaaGreatDoor
