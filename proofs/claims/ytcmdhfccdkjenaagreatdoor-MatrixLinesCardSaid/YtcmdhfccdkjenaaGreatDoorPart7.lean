/- Plain laws: the least model of rules, and of statements; worklists; rows of pairs. The reference's rows of texts, and numbers: crupperref01.Has, Put, New; crupperref06.Place, Role (printed by gen_reftab.py). crupperref05.Roles: some row of roles comes back (printed by gen_roles.py). crupperref05.Prins, Names, to the letter (printed by gen_prinsl.py). crupperref11: In, Inside, Members of a row of pairs. slices.Contains at texts; simple.inside. crupperref05.Prins, Names, Fits: some row of texts, some bool comes back (printed by gen_prins.py). crupperref05.Fits, crupperref04.Right, crupperref03.SameRoles: some bool comes back. crupperref04.Right: some bool comes back. crupperref05.SortRoles: the rows of roles in order that it makes (printed by gen_rlsort.py out of RefSort). crupperref03.SameRoles: whether two rows of roles are one. crupperref10.Of. The statement StateRows: the walk of the law. crupperref05.Right: some bool comes back; if it is true, all statements may be. crupperref05.Fits, crupperref04.Right, crupperref05.Right, to the letter (printed by gen_right6.py). query.second, least, Universal, rising, Right (printed by gen_qright.py). -/
import Derived.Test.YtcmdhfccdkjenaaGreatDoorPart6
import Derived.Test.YtcmdhfccdkjenaaGreatDoorPart5
import Derived.Deep.RegionLawGrows
namespace Go.Proofs.YtcmdhfccdkjenaaGreatDoor
open Go.RowKit Go.Shelf

theorem nodup_le {α : Type} [DecidableEq α] : ∀ (l m : List α), l.Nodup → (∀ x ∈ l, x ∈ m) → l.length ≤ m.length
  | [], _, _, _ => by simp
  | a :: l, m, hn, hs => by
    have ha : a ∈ m := hs a (List.mem_cons_self ..)
    rw [List.nodup_cons] at hn
    have h1 := nodup_le l (m.erase a) hn.2 (fun x hx => by
      have hxa : x ≠ a := fun e => hn.1 (e ▸ hx)
      exact (List.mem_erase_of_ne hxa).2 (hs x (List.mem_cons_of_mem _ hx)))
    have h2 := List.length_erase_of_mem ha
    have h3 : 0 < m.length := List.length_pos_of_mem ha
    simp only [List.length_cons]
    omega
theorem nodup_snoc {α : Type} {l : List α} {x : α} (h : l.Nodup) (hx : x ∉ l) : (l ++ [x]).Nodup := by
  rw [List.nodup_append]
  exact ⟨h, by simp, fun a ha b hb => by rw [List.mem_singleton.1 hb]; exact fun e => hx (e ▸ ha)⟩

structure CloN (lk : Nat) (rs : List Ru) (D : Nat → Nat → Prop) : Prop where
  mem : ∀ r ∈ rs, r.k = 1 → D r.h.toNat r.who.toNat
  incl : ∀ r ∈ rs, r.k = 2 → ∀ x, D r.a.toNat x → D r.h.toNat x
  link : ∀ r ∈ rs, r.k = 3 → ∀ x y, D r.a.toNat x → D (x * lk + r.via.toNat) y → D r.h.toNat y
  both : ∀ r ∈ rs, r.k = 4 → ∀ x, D r.a.toNat x → D r.b.toNat x → D r.h.toNat x
structure LeastN (lk : Nat) (rs : List Ru) (D : Nat → Nat → Prop) : Prop where
  clo : CloN lk rs D
  min : ∀ E : Nat → Nat → Prop, CloN lk rs E → ∀ r x, D r x → E r x

structure SemInv (pr lk : Nat) (rs : List Ru) (fs : List (Nat × Nat)) (k : Nat) : Prop where
  nodup : fs.Nodup
  rng : ∀ f ∈ fs, f.1 < pr * lk ∧ f.2 < pr
  sound : ∀ E : Nat → Nat → Prop, CloN lk rs E → ∀ f ∈ fs, E f.1 f.2
  mem : ∀ r ∈ rs, r.k = 1 → (r.h.toNat, r.who.toNat) ∈ fs
  incl : ∀ r ∈ rs, r.k = 2 → ∀ x, (r.a.toNat, x) ∈ fs.take k → (r.h.toNat, x) ∈ fs
  link : ∀ r ∈ rs, r.k = 3 → ∀ x y, (r.a.toNat, x) ∈ fs.take k → (x * lk + r.via.toNat, y) ∈ fs.take k → (r.h.toNat, y) ∈ fs
  both : ∀ r ∈ rs, r.k = 4 → ∀ x, (r.a.toNat, x) ∈ fs.take k → (r.b.toNat, x) ∈ fs.take k → (r.h.toNat, x) ∈ fs
theorem SemInv.least {pr lk : Nat} {rs : List Ru} {fs : List (Nat × Nat)} (h : SemInv pr lk rs fs fs.length) : LeastN lk rs (fun r x => (r, x) ∈ fs) := by
  have e : fs.take fs.length = fs := List.take_length
  refine ⟨⟨h.mem, ?_, ?_, ?_⟩, fun E hE r x hx => h.sound E hE (r, x) hx⟩
  · intro r hr hk x hx; exact h.incl r hr hk x (by rw [e]; exact hx)
  · intro r hr hk x y hx hy; exact h.link r hr hk x y (by rw [e]; exact hx) (by rw [e]; exact hy)
  · intro r hr hk x hx hy; exact h.both r hr hk x (by rw [e]; exact hx) (by rw [e]; exact hy)
structure Looked (lk : Nat) (rs : List Ru) (f : Nat × Nat) (fs fs' : List (Nat × Nat)) : Prop where
  incl : ∀ r ∈ rs, r.k = 2 → r.a.toNat = f.1 → (r.h.toNat, f.2) ∈ fs'
  both : ∀ r ∈ rs, r.k = 4 → r.a.toNat = f.1 ∨ r.b.toNat = f.1 → (r.a.toNat, f.2) ∈ fs → (r.b.toNat, f.2) ∈ fs → (r.h.toNat, f.2) ∈ fs'
  linkA : ∀ r ∈ rs, r.k = 3 → r.a.toNat = f.1 → ∀ y, (f.2 * lk + r.via.toNat, y) ∈ fs → (r.h.toNat, y) ∈ fs'
  linkV : ∀ r ∈ rs, r.k = 3 → r.via.toNat = f.1 % lk → (r.a.toNat, f.1 / lk) ∈ fs → (r.h.toNat, f.2) ∈ fs'
theorem SemInv.step {pr lk : Nat} {rs : List Ru} {fs fs' : List (Nat × Nat)} {k : Nat} (h : SemInv pr lk rs fs k) (hk : k < fs.length) (hv : ∀ r ∈ rs, r.k = 3 → r.via.toNat < lk)
    (hp : ∃ news, fs' = fs ++ news) (nodup : fs'.Nodup) (rng : ∀ f ∈ fs', f.1 < pr * lk ∧ f.2 < pr) (sound : ∀ E : Nat → Nat → Prop, CloN lk rs E → ∀ f ∈ fs', E f.1 f.2)
    (hl : Looked lk rs fs[k] fs fs') : SemInv pr lk rs fs' (k + 1) := by
  obtain ⟨news, rfl⟩ := hp
  have e : (fs ++ news).take (k + 1) = fs.take k ++ [fs[k]] := by
    rw [List.take_append_of_le_length (by omega), List.take_succ_eq_append_getElem hk]
  have up : ∀ {f}, f ∈ fs → f ∈ fs ++ news := fun hf => List.mem_append.2 (.inl hf)
  have tk : ∀ {f}, f ∈ fs.take k → f ∈ fs := fun hf => List.mem_of_mem_take hf
  have hfk : fs[k] ∈ fs := List.getElem_mem hk
  refine ⟨nodup, rng, sound, fun r hr h1 => up (h.mem r hr h1), ?_, ?_, ?_⟩
  · intro r hr h2 x hx
    rw [e, List.mem_append, List.mem_singleton] at hx
    rcases hx with hx | hx
    · exact up (h.incl r hr h2 x hx)
    · have := hl.incl r hr h2 (by rw [← hx]); rwa [← hx] at this
  · intro r hr h3 x y hx hy
    rw [e, List.mem_append, List.mem_singleton] at hx hy
    have inF : ∀ {f}, f ∈ fs.take k ∨ f = fs[k] → f ∈ fs := fun hf => hf.elim tk (fun e => e ▸ hfk)
    rcases hy with hy | hy
    · rcases hx with hx | hx
      · exact up (h.link r hr h3 x y hx hy)
      · exact hl.linkA r hr h3 (by rw [← hx]) y (by rw [← hx]; exact tk hy)
    · have hvl := hv r hr h3
      have hd : (x * lk + r.via.toNat) / lk = x := by rw [Nat.mul_comm, Nat.mul_add_div (by omega), Nat.div_eq_of_lt hvl, Nat.add_zero]
      have hm : (x * lk + r.via.toNat) % lk = r.via.toNat := by rw [Nat.mul_comm, Nat.mul_add_mod, Nat.mod_eq_of_lt hvl]
      have := hl.linkV r hr h3 (by rw [← hy]; exact hm.symm) (by rw [← hy]; dsimp only; rw [hd]; exact inF hx)
      rwa [← hy] at this
  · intro r hr h4 x hx hy
    rw [e, List.mem_append, List.mem_singleton] at hx hy
    have inF : ∀ {f}, f ∈ fs.take k ∨ f = fs[k] → f ∈ fs := fun hf => hf.elim tk (fun e => e ▸ hfk)
    by_cases ha : (r.a.toNat, x) = fs[k]
    · have := hl.both r hr h4 (.inl (by rw [← ha])) (by rw [← ha]; exact inF hx) (by rw [← ha]; exact inF hy)
      rwa [← ha] at this
    · by_cases hb : (r.b.toNat, x) = fs[k]
      · have := hl.both r hr h4 (.inr (by rw [← hb])) (by rw [← hb]; exact inF hx) (by rw [← hb]; exact inF hy)
        rwa [← hb] at this
      · exact up (h.both r hr h4 x (hx.resolve_right ha) (hy.resolve_right hb))
def byR (rs : List Ru) (i : Nat) : List Ru := rs.filter (fun r => decide (r.k ≠ 1) && (decide (r.a = (i : Int)) || (decide (r.k = 4) && decide (r.b = (i : Int)))))
def viaR (rs : List Ru) (j : Nat) : List Ru := rs.filter (fun r => decide (r.k = 3) && decide (r.via = (j : Int)))
theorem byR_len (rs : List Ru) (i : Nat) : (byR rs i).length ≤ rs.length := List.length_filter_le _ _
theorem viaR_len (rs : List Ru) (i : Nat) : (viaR rs i).length ≤ rs.length := List.length_filter_le _ _
theorem byR_mem {rs : List Ru} {i : Nat} {r : Ru} : r ∈ byR rs i ↔ r ∈ rs ∧ r.k ≠ 1 ∧ (r.a = (i : Int) ∨ r.k = 4 ∧ r.b = (i : Int)) := by
  unfold byR; rw [List.mem_filter]; simp
theorem viaR_mem {rs : List Ru} {j : Nat} {r : Ru} : r ∈ viaR rs j ↔ r ∈ rs ∧ r.k = 3 ∧ r.via = (j : Int) := by
  unfold viaR; rw [List.mem_filter]; simp

structure CloS (l : List St) (D : Rl → ByteArray → Prop) : Prop where
  mem : ∀ s ∈ l, s.k = 1 → D s.h s.who
  incl : ∀ s ∈ l, s.k = 2 → ∀ x, D s.a x → D s.h x
  link : ∀ s ∈ l, s.k = 3 → ∀ x y, D s.a x → D ⟨x, s.via⟩ y → D s.h y
  both : ∀ s ∈ l, s.k = 4 → ∀ x, D s.a x → D s.b x → D s.h x
structure LeastS (l : List St) (D : Rl → ByteArray → Prop) : Prop where
  clo : CloS l D
  min : ∀ E : Rl → ByteArray → Prop, CloS l E → ∀ r x, D r x → E r x
theorem num_inj {n i j i' j' : Nat} (hj : j < n) (hj' : j' < n) (e : i * n + j = i' * n + j') : i = i' ∧ j = j' := by
  have h1 : (i * n + j) / n = i := by rw [Nat.mul_comm, Nat.mul_add_div (by omega), Nat.div_eq_of_lt hj, Nat.add_zero]
  have h2 : (i' * n + j') / n = i' := by rw [Nat.mul_comm, Nat.mul_add_div (by omega), Nat.div_eq_of_lt hj', Nat.add_zero]
  have h3 : i = i' := by rw [← h1, ← h2, e]
  subst h3
  exact ⟨rfl, by omega⟩
theorem rule_parts {a b : List ByteArray} {s : St} (h : (ruleN a b s).2 = true) :
    rightS s = true ∧ (ruleN a b s).1 = ruleR a b s ∧ 0 ≤ roleN a b s.h ∧ (s.k = 1 → 0 ≤ placeB a s.who) ∧ (s.k ≠ 1 → 0 ≤ roleN a b s.a) ∧ (s.k = 4 → 0 ≤ roleN a b s.b) ∧ (s.k = 3 → 0 ≤ placeB b s.via) := by
  unfold ruleN at h ⊢
  by_cases hc : rightS s = true ∧ ruleOk (ruleR a b s) = true
  · rw [if_pos hc]
    obtain ⟨hr, hok⟩ := hc
    unfold ruleOk at hok
    rw [decide_eq_true_iff] at hok
    obtain ⟨o1, o2, o3, o4, o5⟩ := hok
    simp only [ruleR] at o1 o2 o3 o4 o5
    refine ⟨hr, rfl, o1, fun e => ?_, fun e => ?_, fun e => ?_, fun e => ?_⟩
    · rw [if_pos e] at o2; exact o2
    · rw [if_neg e] at o3; exact o3
    · rw [if_pos e] at o4; exact o4
    · rw [if_pos e] at o5; exact o5
  · rw [if_neg hc] at h; cases h
theorem role_at {a b : List ByteArray} {r : Rl} (h : 0 ≤ roleN a b r) : ∃ i j, ∃ (hi : i < a.length) (hj : j < b.length), r = ⟨a[i], b[j]⟩ ∧ (roleN a b r).toNat = i * b.length + j := by
  obtain ⟨i, j, hi, hj, g1, g2, e⟩ := roleN_yes h
  refine ⟨i, j, hi, hj, ?_, ?_⟩
  · obtain ⟨x, y⟩ := r; simp only at g1 g2; rw [g1, g2]
  · rw [e, ← Int.natCast_mul]; omega
theorem role_num {a b : List ByteArray} (ha : AscB a) (hb : AscB b) {i j : Nat} (hi : i < a.length) (hj : j < b.length) : (roleN a b ⟨a[i], b[j]⟩).toNat = i * b.length + j := by
  rw [roleN_of ha hb hi hj, ← Int.natCast_mul]; omega
theorem place_at {a : List ByteArray} {s : ByteArray} (h : 0 ≤ placeB a s) : ∃ k, ∃ hk : k < a.length, s = a[k] ∧ (placeB a s).toNat = k := by
  obtain ⟨k, e, hk, g⟩ := place_yes h
  exact ⟨k, hk, g.symm, by rw [e]; rfl⟩
theorem get_inj {a : List ByteArray} (ha : AscB a) {i j : Nat} (hi : i < a.length) (hj : j < a.length) (e : a[i] = a[j]) : i = j := by
  have h1 := place_asc ha hi rfl
  have h2 := place_asc ha hj e.symm
  omega
theorem least_same {a b : List ByteArray} {l : List St} (ha : AscB a) (hb : AscB b) (hok : ∀ s ∈ l, (ruleN a b s).2 = true)
    {D : Rl → ByteArray → Prop} (hD : LeastS l D) {E : Nat → Nat → Prop} (hE : LeastN b.length (l.map fun s => (ruleN a b s).1) E) :
    (∀ r x, D r x → ∃ i j k, ∃ (hi : i < a.length) (hj : j < b.length) (hk : k < a.length), r = ⟨a[i], b[j]⟩ ∧ x = a[k] ∧ E (i * b.length + j) k) ∧
    (∀ i j k, ∀ (hi : i < a.length) (hj : j < b.length) (hk : k < a.length), E (i * b.length + j) k → D ⟨a[i], b[j]⟩ a[k]) := by
  have hmem : ∀ s ∈ l, (ruleN a b s).1 ∈ l.map fun s => (ruleN a b s).1 := fun s hs => List.mem_map.2 ⟨s, hs, rfl⟩
  constructor
  · refine hD.min (fun r x => ∃ i j k, ∃ (hi : i < a.length) (hj : j < b.length) (hk : k < a.length), r = ⟨a[i], b[j]⟩ ∧ x = a[k] ∧ E (i * b.length + j) k) ⟨?_, ?_, ?_, ?_⟩
    · intro s hs hk
      obtain ⟨_, e, o1, o2, o3, o4, o5⟩ := rule_parts (hok s hs)
      obtain ⟨i, j, hi, hj, g1, g2⟩ := role_at o1
      obtain ⟨k, hk', g3, g4⟩ := place_at (o2 hk)
      have h := hE.clo.mem _ (hmem s hs) (by rw [e]; exact hk)
      rw [e] at h
      simp only [ruleR, if_pos hk] at h
      rw [g2, g4] at h
      exact ⟨i, j, k, hi, hj, hk', g1, g3, h⟩
    · rintro s hs hk x ⟨i, j, k, hi, hj, hk', g1, g2, g3⟩
      obtain ⟨_, e, o1, o2, o3, o4, o5⟩ := rule_parts (hok s hs)
      obtain ⟨i', j', hi', hj', g1', g2'⟩ := role_at o1
      have hk1 : s.k ≠ 1 := by omega
      have h := hE.clo.incl _ (hmem s hs) (by rw [e]; exact hk) k (by rw [e]; simp only [ruleR, if_neg hk1]; rw [g1, role_num ha hb hi hj]; exact g3)
      rw [e] at h
      simp only [ruleR] at h
      rw [g2'] at h
      exact ⟨i', j', k, hi', hj', hk', g1', g2, h⟩
    · rintro s hs hk x y ⟨i, j, k, hi, hj, hk', g1, g2, g3⟩ ⟨i2, j2, k2, hi2, hj2, hk2, q1, q2, q3⟩
      obtain ⟨_, e, o1, o2, o3, o4, o5⟩ := rule_parts (hok s hs)
      obtain ⟨i', j', hi', hj', g1', g2'⟩ := role_at o1
      have hk1 : s.k ≠ 1 := by omega
      simp only [Rl.mk.injEq] at q1
      have eik : k = i2 := get_inj ha hk' hi2 (by rw [← g2]; exact q1.1)
      subst eik
      have h := hE.clo.link _ (hmem s hs) (by rw [e]; exact hk) k k2 (by rw [e]; simp only [ruleR, if_neg hk1]; rw [g1, role_num ha hb hi hj]; exact g3)
        (by rw [e]; simp only [ruleR, if_pos hk]; rw [q1.2, place_asc hb hj2 rfl]; exact q3)
      rw [e] at h
      simp only [ruleR] at h
      rw [g2'] at h
      exact ⟨i', j', k2, hi', hj', hk2, g1', q2, h⟩
    · rintro s hs hk x ⟨i, j, k, hi, hj, hk', g1, g2, g3⟩ ⟨i2, j2, k2, hi2, hj2, hk2, q1, q2, q3⟩
      obtain ⟨_, e, o1, o2, o3, o4, o5⟩ := rule_parts (hok s hs)
      obtain ⟨i', j', hi', hj', g1', g2'⟩ := role_at o1
      have hk1 : s.k ≠ 1 := by omega
      have eik : k = k2 := get_inj ha hk' hk2 (by rw [← g2, q2])
      subst eik
      have h := hE.clo.both _ (hmem s hs) (by rw [e]; exact hk) k (by rw [e]; simp only [ruleR, if_neg hk1]; rw [g1, role_num ha hb hi hj]; exact g3)
        (by rw [e]; simp only [ruleR, if_pos hk]; rw [q1, role_num ha hb hi2 hj2]; exact q3)
      rw [e] at h
      simp only [ruleR] at h
      rw [g2'] at h
      exact ⟨i', j', k, hi', hj', hk', g1', g2, h⟩
  · intro i j k hi hj hk hx
    have key := hE.min (fun n x => ∃ i j, ∃ (hi : i < a.length) (hj : j < b.length) (hx : x < a.length), n = i * b.length + j ∧ D ⟨a[i], b[j]⟩ a[x]) ⟨?_, ?_, ?_, ?_⟩ _ _ hx
    · obtain ⟨i', j', hi', hj', hk', e, h⟩ := key
      obtain ⟨rfl, rfl⟩ := num_inj hj hj' e
      exact h
    · intro r hr hk
      obtain ⟨s, hs, rfl⟩ := List.mem_map.1 hr
      obtain ⟨_, e, o1, o2, o3, o4, o5⟩ := rule_parts (hok s hs)
      rw [e] at hk ⊢
      have hk : s.k = 1 := hk
      obtain ⟨i, j, hi, hj, g1, g2⟩ := role_at o1
      obtain ⟨k, hk', g3, g4⟩ := place_at (o2 hk)
      have h := hD.clo.mem s hs hk
      simp only [ruleR, if_pos hk]
      subst g4
      refine ⟨i, j, hi, hj, hk', g2, ?_⟩
      rw [← g1, show a[(placeB a s.who).toNat] = s.who from g3.symm]; exact h
    · rintro r hr hk x ⟨i, j, hi, hj, hx, q1, q2⟩
      obtain ⟨s, hs, rfl⟩ := List.mem_map.1 hr
      obtain ⟨_, e, o1, o2, o3, o4, o5⟩ := rule_parts (hok s hs)
      rw [e] at hk q1 ⊢
      have hk : s.k = 2 := hk
      have hk1 : s.k ≠ 1 := by omega
      obtain ⟨i', j', hi', hj', g1, g2⟩ := role_at o1
      obtain ⟨i3, j3, hi3, hj3, g3, g4⟩ := role_at (o3 hk1)
      simp only [ruleR, if_neg hk1] at q1 ⊢
      rw [g4] at q1
      obtain ⟨rfl, rfl⟩ := num_inj hj3 hj q1
      refine ⟨i', j', hi', hj', hx, g2, ?_⟩
      rw [← g1]
      exact hD.clo.incl s hs hk _ (by rw [g3]; exact q2)
    · rintro r hr hk x y ⟨i, j, hi, hj, hx, q1, q2⟩ ⟨i2, j2, hi2, hj2, hy, p1, p2⟩
      obtain ⟨s, hs, rfl⟩ := List.mem_map.1 hr
      obtain ⟨_, e, o1, o2, o3, o4, o5⟩ := rule_parts (hok s hs)
      rw [e] at hk q1 p1 ⊢
      have hk : s.k = 3 := hk
      have hk1 : s.k ≠ 1 := by omega
      obtain ⟨i', j', hi', hj', g1, g2⟩ := role_at o1
      obtain ⟨i3, j3, hi3, hj3, g3, g4⟩ := role_at (o3 hk1)
      obtain ⟨v, hv, g5, g6⟩ := place_at (o5 hk)
      simp only [ruleR, if_neg hk1, if_pos hk] at q1 p1 ⊢
      rw [g4] at q1
      rw [g6] at p1
      obtain ⟨rfl, rfl⟩ := num_inj hj3 hj q1
      obtain ⟨rfl, rfl⟩ := num_inj hv hj2 p1
      refine ⟨i', j', hi', hj', hy, g2, ?_⟩
      rw [← g1]
      exact hD.clo.link s hs hk _ _ (by rw [g3]; exact q2) (by rw [g5]; exact p2)
    · rintro r hr hk x ⟨i, j, hi, hj, hx, q1, q2⟩ ⟨i2, j2, hi2, hj2, hy, p1, p2⟩
      obtain ⟨s, hs, rfl⟩ := List.mem_map.1 hr
      obtain ⟨_, e, o1, o2, o3, o4, o5⟩ := rule_parts (hok s hs)
      rw [e] at hk q1 p1 ⊢
      have hk : s.k = 4 := hk
      have hk1 : s.k ≠ 1 := by omega
      obtain ⟨i', j', hi', hj', g1, g2⟩ := role_at o1
      obtain ⟨i3, j3, hi3, hj3, g3, g4⟩ := role_at (o3 hk1)
      obtain ⟨i4, j4, hi4, hj4, g5, g6⟩ := role_at (o4 hk)
      simp only [ruleR, if_neg hk1, if_pos hk] at q1 p1 ⊢
      rw [g4] at q1
      rw [g6] at p1
      obtain ⟨rfl, rfl⟩ := num_inj hj3 hj q1
      obtain ⟨rfl, rfl⟩ := num_inj hj4 hj2 p1
      refine ⟨i', j', hi', hj', hx, g2, ?_⟩
      rw [← g1]
      exact hD.clo.both s hs hk _ (by rw [g3]; exact q2) (by rw [g5]; exact p2)

end Go.Proofs.YtcmdhfccdkjenaaGreatDoor
namespace Go.Proofs.YtcmdhfccdkjenaaGreatDoor
open Go.RowKit Go.Shelf

set_option maxHeartbeats 1000000 in
theorem ref1_HasB (va : Value) (l : List ByteArray) (s : ByteArray) (w : World) (ha : SlA w 1 va l.length (strs l)) :
    Calls Tryz.prog 57 #[va, .string s] w fun e w' => e = .returned (.bool (hasB l s)) ∧ w' = w := by
  have HA := Lib.hid ha
  have hmax := ha.max
  have HY := Lib.hid (fun k (hk : k < l.length) (e : l[k] = s) => hasB_yes hk e)
  have HE := Lib.hid (fun k (hk : ¬ k < l.length) h => hasB_end (l := l) (s := s) (k := k) hk h)
  obtain ⟨ao, cap, hva⟩ := ha.form
  subst hva
  clear ha
  generalize hasB l s = r at HY HE ⊢
  go_enter Tryz.func57, Tryz.ntmps57
  go_wp2
  go_loop [9] (fun i => ∃ k : Nat, k ≤ l.length ∧ i = .int .i64 k ∧ Hid (∀ j (hj : j < l.length), j < k → ¬ l[j] = s)) (fun i => l.length - (intOf i).toNat)
  case atStart => exact ⟨0, by omega, rfl, Lib.hid (fun _ _ h => absurd h (by omega))⟩
  case round =>
    obtain ⟨k, hk, rfl, HT⟩ := hrel
    by_cases hlt : k < l.length
    · obtain ⟨b1, o1, c1, he1, hc1, hm1, hb1, hx1⟩ := HA.out.pos (by omega)
      simp only [Value.slice.injEq, true_and] at he1
      obtain ⟨rfl, rfl⟩ := he1
      have p0 := hx1 k _ (strs_get hlt)
      clear hx1
      have bs := beq_str l[k] s
      by_cases he : l[k] = s
      · have R := Lib.hid (HY.out k hlt he)
        rw [decide_eq_true he] at bs
        clear he
        go_wp2
        go_ret
        exact ⟨by rw [R.out]; rfl, rfl⟩
      · have HT2 : Hid (∀ j (hj : j < l.length), j < k + 1 → ¬ l[j] = s) := Lib.hid (fun j hj hjk => by
          by_cases h : j < k
          · exact HT.out j hj h
          · obtain rfl : j = k := by omega
            exact he)
        rw [decide_eq_false he] at bs
        clear he
        go_wp2
        exact ⟨⟨k + 1, by omega, by go_num, HT2⟩, by simp [intOf]; omega⟩
    · have R := Lib.hid (HE.out k hlt HT.out)
      go_wp2
      go_ret
      exact ⟨by rw [R.out]; rfl, rfl⟩
section
variable {l : List ByteArray} {s : ByteArray} {k : Nat} {ss : List ByteArray}
end
end Go.Proofs.YtcmdhfccdkjenaaGreatDoor
namespace Go.Proofs.YtcmdhfccdkjenaaGreatDoor
open Go.RowKit Go.Shelf

theorem own_tag {w : World} {base size n g : Nat} {e t : TypeId} {v : Value} {xs : List Value} {cs : Array Value} {fz : Nat × Nat} (h : w.ownsRow base e size v n xs) (hg : w.heap[g]? = some (.cells cs t fz)) (ht : t ≠ e) : some g ≠ v.ownBlock := by
  rcases h.2 with ⟨rfl, rfl⟩ | ⟨g', cap, cur, rfl, _, hg', _⟩
  · simp [Value.ownBlock]
  · simp only [Value.ownBlock]
    intro e'
    cases e'
    rw [hg] at hg'
    simp only [Option.some.injEq, Obj.cells.injEq] at hg'
    exact ht hg'.2.1
def rolesQ (q : Qv) : List Rl := if q.k = 5 ∨ q.k = 6 then [q.a, q.b] else [q.a]
theorem flat_snocF {α β : Type} {l : List α} {k : Nat} (f : α → List β) (hk : k < l.length) : (l.take (k + 1)).flatMap f = (l.take k).flatMap f ++ f l[k] := by
  rw [List.take_succ_eq_append_getElem hk, List.flatMap_append]; simp
theorem take_snoc {α : Type} {l : List α} {k : Nat} (hk : k < l.length) : l.take (k + 1) = l.take k ++ [l[k]] := List.take_succ_eq_append_getElem hk
def allRoles (l : List St) (g h : List Rl) (qs : List Qv) : List Rl := l.flatMap rolesS ++ g ++ h ++ qs.flatMap rolesQ
end Go.Proofs.YtcmdhfccdkjenaaGreatDoor
namespace Go.Proofs.YtcmdhfccdkjenaaGreatDoor
open Go.RowKit Go.Shelf

theorem insAll_snocB : ∀ (acc l : List ByteArray) (x : ByteArray), insAllB acc (l ++ [x]) = insSB (insAllB acc l) x
  | _, [], _ => rfl
  | acc, a :: l, x => insAll_snocB (insSB acc a) l x
theorem new_snoc (l : List ByteArray) (x : ByteArray) : newB (l ++ [x]) = insSB (newB l) x := insAll_snocB [] l x
def whoS (s : St) : List ByteArray := if s.k = 1 then [s.who] else []
def viaS (s : St) : List ByteArray := if s.k = 3 then [s.via] else []
def allPrins (l : List St) (g h : List Rl) (qs : List Qv) (F : Qv → List ByteArray) : List ByteArray := (allRoles l g h qs).map Rl.o ++ l.flatMap whoS ++ qs.flatMap F
def allNames (l : List St) (g h : List Rl) (qs : List Qv) : List ByteArray := (allRoles l g h qs).map Rl.n ++ l.flatMap viaS
def WhoF (w : World) (qs : List Qv) (F : Qv → List ByteArray) : Prop := ∀ q ∈ qs, SlA w 1 q.w (F q).length (strs (F q)) ∧ (F q).length ≤ 40
theorem WhoF.below {w w' : World} {qs : List Qv} {F : Qv → List ByteArray} (h : WhoF w qs F) (hb : Below w.heap.size w w') : WhoF w' qs F := fun q hq => ⟨(h q hq).1.below hb, (h q hq).2⟩

end Go.Proofs.YtcmdhfccdkjenaaGreatDoor
namespace Go.Proofs.YtcmdhfccdkjenaaGreatDoor
open Go.RowKit Go.Shelf

abbrev Pr := Rl × ByteArray
def membersP (l : List Pr) (r : Rl) : List ByteArray := newB ((l.filter (fun p => eqRl p.1 r)).map (fun p => p.2))
theorem membersP_mem {l : List Pr} {r : Rl} {x : ByteArray} : x ∈ membersP l r ↔ (r, x) ∈ l := by
  unfold membersP
  rw [new_mem, List.mem_map]
  constructor
  · rintro ⟨⟨a, b⟩, h, rfl⟩
    have := (List.mem_filter.1 h).2
    rw [show a = r from of_decide_eq_true this] at h
    exact (List.mem_filter.1 h).1
  · intro h
    exact ⟨_, List.mem_filter.2 ⟨h, decide_eq_true rfl⟩, rfl⟩
theorem membersP_asc (l : List Pr) (r : Rl) : AscB (membersP l r) := new_asc _
end Go.Proofs.YtcmdhfccdkjenaaGreatDoor
namespace Go.Proofs.YtcmdhfccdkjenaaGreatDoor
open Go.RowKit Go.Shelf

set_option maxRecDepth 100000 in
set_option maxHeartbeats 2000000 in
theorem str_Index (va : Value) (l : List ByteArray) (s : ByteArray) (w : World) (ha : SlA w 1 va l.length (strs l)) :
    Calls Tryz.prog 166 #[va, .string s] w fun e w' => (∃ i : Int, e = .returned (.int .i64 i) ∧ hasB l s = decide (0 ≤ i)) ∧ w' = w := by
  have HA := Lib.hid ha
  have hmax := ha.max
  obtain ⟨ao, cap, hva⟩ := ha.form
  subst hva
  clear ha
  have HY := Lib.hid (fun k (hk : k < l.length) (e : l[k] = s) => hasB_yes hk e)
  have HN := Lib.hid (fun k (hk : ¬ k < l.length) h => hasB_end (l := l) (s := s) (k := k) hk h)
  generalize hasB l s = res at HY HN ⊢
  go_enter Tryz.func166, Tryz.ntmps166
  go_wp2
  go_loopw [8] (fun i wr => ∃ k : Nat, k ≤ l.length ∧ i = .int .i64 k ∧ Hid (∀ j (hj : j < l.length), j < k → ¬ l[j] = s) ∧ wr = w) (fun i _ => l.length - (intOf i).toNat)
  case atStart => exact ⟨0, by omega, rfl, Lib.hid (fun _ _ h => absurd h (by omega)), rfl⟩
  case round =>
    obtain ⟨k, hk, rfl, HJ, rfl⟩ := hrel
    by_cases hlt : k < l.length
    · obtain ⟨b1, o1, c1, he1, hc1, hm1, hb1, hx1⟩ := HA.out.pos (by omega)
      simp only [Value.slice.injEq, true_and] at he1
      obtain ⟨rfl, rfl⟩ := he1
      have p0 := hx1 k _ (strs_get hlt)
      have YES := Lib.hid (HY.out k hlt)
      have HJ2 : Hid (¬ l[k] = s → ∀ j (hj : j < l.length), j < k + 1 → ¬ l[j] = s) := Lib.hid (fun hpk j hj hjk => by
        by_cases h : j < k
        · exact HJ.out j hj h
        · obtain rfl : j = k := by omega
          exact hpk)
      clear hx1
      generalize l[k] = x at *
      by_cases e : x = s
      · have d : (s.toList == x.toList) = true := by rw [beq_str, e]; exact decide_eq_true rfl
        have d' : (x.toList == s.toList) = true := by rw [beq_str, e]; exact decide_eq_true rfl
        have R := Lib.hid (YES.out e)
        clear e
        go_wp2
        go_ret
        exact ⟨⟨(k : Int), rfl, by rw [R.out, decide_eq_true (Int.natCast_nonneg k)]⟩, rfl⟩
      · have d : (s.toList == x.toList) = false := by rw [beq_str]; exact decide_eq_false (fun h => e h.symm)
        have d' : (x.toList == s.toList) = false := by rw [beq_str]; exact decide_eq_false e
        have HJ3 := Lib.hid (HJ2.out e)
        clear e
        go_wp2
        exact ⟨⟨k + 1, by omega, by go_num, HJ3, by first | rfl | trivial⟩, by simp [intOf]; omega⟩
    · have R := Lib.hid (HN.out k hlt HJ.out)
      go_wp2
      go_ret
      exact ⟨⟨-1, rfl, by rw [R.out]; rfl⟩, rfl⟩
set_option maxHeartbeats 1000000 in
theorem str_Contains (va : Value) (l : List ByteArray) (s : ByteArray) (w : World) (ha : SlA w 1 va l.length (strs l)) :
    Calls Tryz.prog 108 #[va, .string s] w fun e w' => e = .returned (.bool (hasB l s)) ∧ w' = w := by
  have I := Lib.hid (str_Index va l s w ha)
  generalize hasB l s = res at I ⊢
  clear ha
  go_enter Tryz.func108, Tryz.ntmps108
  go_wp2_with fail
  refine I.out.mono ?_
  rintro e w1 ⟨⟨i, rfl, hi⟩, rfl⟩
  have HI := Lib.hid hi
  clear hi
  go_wp2
  go_ret
  exact ⟨ret_b HI.out.symm, rfl⟩
end Go.Proofs.YtcmdhfccdkjenaaGreatDoor
namespace Go.Proofs.YtcmdhfccdkjenaaGreatDoor
open Go.RowKit Go.Shelf

end Go.Proofs.YtcmdhfccdkjenaaGreatDoor
namespace Go.Proofs.YtcmdhfccdkjenaaGreatDoor
open Go.RowKit Go.Shelf

end Go.Proofs.YtcmdhfccdkjenaaGreatDoor
namespace Go.Proofs.YtcmdhfccdkjenaaGreatDoor
open Go.RowKit Go.Shelf

end Go.Proofs.YtcmdhfccdkjenaaGreatDoor
namespace Go.Proofs.YtcmdhfccdkjenaaGreatDoor
open Go.RowKit Go.Shelf
def posSR : List Rl → Rl → Nat
  | [], _ => 0
  | a :: r, x => if cmpR a x < 0 then posSR r x + 1 else 0
def insAtR (l : List Rl) (x : Rl) (k : Nat) : List Rl := l.take k ++ x :: l.drop k
def insSR (l : List Rl) (x : Rl) : List Rl := if hasR l x then l else insAtR l x (posSR l x)
def insAllR : List Rl → List Rl → List Rl
  | acc, [] => acc
  | acc, x :: l => insAllR (insSR acc x) l
theorem pos_leR : ∀ (l : List Rl) (x : Rl), posSR l x ≤ l.length
  | [], _ => Nat.le_refl _
  | a :: r, x => by unfold posSR; have := pos_leR r x; split <;> simp <;> omega
theorem insS_lenR (l : List Rl) (x : Rl) : (insSR l x).length ≤ l.length + 1 := by
  unfold insSR insAtR; split
  · omega
  · simp [List.length_take, List.length_drop]; have := pos_leR l x; omega
abbrev Two (w : World) (b o : Nat) (s : Rl) : Prop := w.cell? ⟨b, o, none⟩ = some (.string s.o) ∧ w.cell? ⟨b, o + 1, none⟩ = some (.string s.n)
end Go.Proofs.YtcmdhfccdkjenaaGreatDoor
namespace Go.Proofs.YtcmdhfccdkjenaaGreatDoor
open Go.RowKit Go.Shelf

end Go.Proofs.YtcmdhfccdkjenaaGreatDoor
namespace Go.Proofs.YtcmdhfccdkjenaaGreatDoor
open Go.RowKit Go.Shelf

end Go.Proofs.YtcmdhfccdkjenaaGreatDoor
namespace Go.Proofs.YtcmdhfccdkjenaaGreatDoor
open Go.RowKit Go.Shelf

end Go.Proofs.YtcmdhfccdkjenaaGreatDoor
namespace Go.Proofs.YtcmdhfccdkjenaaGreatDoor
open Go.RowKit Go.Shelf

end Go.Proofs.YtcmdhfccdkjenaaGreatDoor
namespace Go.Proofs.YtcmdhfccdkjenaaGreatDoor
open Go.RowKit Go.Shelf

def fitsP (l : List St) (g h : List Rl) (qs : List Qv) (F : Qv → List ByteArray) : Bool := decide (qs.length ≤ 16) && (decide ((newB (allPrins l g h qs F)).length ≤ 16) && decide ((newB (allNames l g h qs)).length ≤ 12))
def risesAt (us : List ByteArray) (i : Nat) : Bool := isP 65 90 (bl (us.getD i emp)) && (decide (i = 0) || Op.bytesLess (us.getD (i - 1) emp).toList (us.getD i emp).toList)
def rises (us : List ByteArray) : Bool := (List.range us.length).all (risesAt us)
theorem rises_yes {us : List ByteArray} {k : Nat} (hk : ¬ k < us.length) (h : ∀ j, j < k → risesAt us j = true) : rises us = true := by
  unfold rises; rw [List.all_eq_true]
  intro j hj
  exact h j (by have := List.mem_range.1 hj; omega)
theorem rises_no {us : List ByteArray} {k : Nat} (hk : k < us.length) (h : risesAt us k = false) : rises us = false := by
  cases hr : rises us with
  | false => rfl
  | true =>
    unfold rises at hr
    rw [List.all_eq_true] at hr
    rw [hr k (List.mem_range.2 hk)] at h; cases h
theorem getD_at {us : List ByteArray} {k : Nat} (hk : k < us.length) : us.getD k emp = us[k] := by rw [List.getD_eq_getElem?_getD, List.getElem?_eq_getElem hk]; rfl
def rightQ (q : Qv) (us : List ByteArray) : Bool :=
  decide (1 ≤ q.k) && (decide (q.k ≤ 6) && (isRole q.a && (rises us &&
  (if 5 ≤ q.k then isRole q.b && decide (us.length = 0) else eqRl q.b noR && (decide (us.length ≤ 12) && (if q.k = 4 then decide (us.length = 0) else decide (q.k = 3) || decide (0 < us.length)))))))
def RightP (l : List St) (g h : List Rl) (qs : List Qv) (F : Qv → List ByteArray) : Prop := (∀ x ∈ l, rightS x = true) ∧ (∀ x ∈ g ++ h, isRole x = true) ∧ (∀ q ∈ qs, rightQ q (F q) = true) ∧ l = insAll [] l ∧ g = insAllR [] g ∧ h = insAllR [] h ∧ fitsP l g h qs F = true
def RightI (l : List St) (g h : List Rl) (qs : List Qv) (F : Qv → List ByteArray) (e : Ending) : Prop := ∃ b, e = .returned (.bool b) ∧ (b = true ↔ RightP l g h qs F)
theorem rightI_no {l : List St} {g h : List Rl} {qs : List Qv} {F : Qv → List ByteArray} (hn : ¬ RightP l g h qs F) : RightI l g h qs F (.returned (.bool false)) := ⟨false, rfl, ⟨(fun h => by cases h), fun h => absurd h hn⟩⟩
end Go.Proofs.YtcmdhfccdkjenaaGreatDoor
namespace Go.Proofs.YtcmdhfccdkjenaaGreatDoor
open Go.RowKit Go.Shelf

def secB (k : Int) : Bool := decide (k = 5) || decide (k = 6)
def leastI (k : Int) : Int := if k = 1 ∨ k = 2 then 1 else if k = 3 then 0 else -1
theorem query_secondB (k : Int) (w : World) : Calls Tryz.prog 159 #[.int .i64 k] w fun e w' => e = .returned (.bool (secB k)) ∧ w' = w := by
  have R := Lib.hid (show secB k = (decide (k = 5) || decide (k = 6)) from rfl)
  generalize secB k = r at *
  go_enter Tryz.func159, Tryz.ntmps159
  by_cases h5 : k = 5
  · have d5 : (k == 5) = true := by simp [h5]
    have R2 := Lib.hid (show r = true by rw [R.out, decide_eq_true h5]; rfl)
    clear h5
    go_wp2
    go_ret
    exact ⟨ret_b R2.out.symm, rfl⟩
  · have d5 : (k == 5) = false := by simp [h5]
    by_cases h6 : k = 6
    · have d6 : (k == 6) = true := by simp [h6]
      have R2 := Lib.hid (show r = true by rw [R.out, decide_eq_true h6, Bool.or_true])
      clear h5 h6
      go_wp2
      go_ret
      exact ⟨ret_b R2.out.symm, rfl⟩
    · have d6 : (k == 6) = false := by simp [h6]
      have R2 := Lib.hid (show r = false by rw [R.out, decide_eq_false h5, decide_eq_false h6]; rfl)
      clear h5 h6
      go_wp2
      go_ret
      exact ⟨ret_b R2.out.symm, rfl⟩
theorem query_least (k : Int) (w : World) : Calls Tryz.prog 160 #[.int .i64 k] w fun e w' => e = .returned (.int .i64 (leastI k)) ∧ w' = w := by
  have R := Lib.hid (show leastI k = if k = 1 ∨ k = 2 then 1 else if k = 3 then 0 else -1 from rfl)
  generalize leastI k = r at *
  go_enter Tryz.func160, Tryz.ntmps160
  by_cases h1 : k = 1
  · have d1 : (k == 1) = true := by simp [h1]
    have R2 := Lib.hid (show r = 1 by rw [R.out, if_pos (.inl h1)])
    clear h1
    go_wp2
    go_ret
    exact ⟨ret_int R2.out.symm, rfl⟩
  have d1 : (k == 1) = false := by simp [h1]
  by_cases h2 : k = 2
  · have d2 : (k == 2) = true := by simp [h2]
    have R2 := Lib.hid (show r = 1 by rw [R.out, if_pos (.inr h2)])
    clear h1 h2
    go_wp2
    go_ret
    exact ⟨ret_int R2.out.symm, rfl⟩
  have d2 : (k == 2) = false := by simp [h2]
  by_cases h3 : k = 3
  · have d3 : (k == 3) = true := by simp [h3]
    have R2 := Lib.hid (show r = 0 by rw [R.out, if_neg (by omega), if_pos h3])
    clear h1 h2 h3
    go_wp2
    go_ret
    exact ⟨ret_int R2.out.symm, rfl⟩
  · have d3 : (k == 3) = false := by simp [h3]
    have R2 := Lib.hid (show r = -1 by rw [R.out, if_neg (by omega), if_neg h3])
    clear h1 h2 h3
    go_wp2
    go_ret
    exact ⟨ret_int R2.out.symm, rfl⟩
theorem less_rev {a b : ByteArray} (h : Op.bytesLess a.toList b.toList = true) : Op.bytesLess b.toList a.toList = false ∧ (b.toList == a.toList) = false := by
  rw [← str_less, decide_eq_true_iff] at h
  have h2 := cmpS_neg a b
  refine ⟨by rw [← str_less, decide_eq_false_iff_not]; omega, ?_⟩
  rw [beq_str, decide_eq_false_iff_not]
  intro e
  have := (cmpS_zero b a).2 e
  omega
theorem less_not {a b : ByteArray} (h : Op.bytesLess a.toList b.toList = false) : Op.bytesLess b.toList a.toList = true ∨ (b.toList == a.toList) = true := by
  rw [← str_less, decide_eq_false_iff_not] at h
  have h2 := cmpS_neg a b
  by_cases e : b = a
  · exact .inr (by rw [beq_str, e]; exact decide_eq_true rfl)
  · have : ¬ cmpS b a = 0 := fun h' => e ((cmpS_zero b a).1 h')
    exact .inl (by rw [← str_less, decide_eq_true_iff]; omega)
set_option maxRecDepth 100000 in
set_option maxHeartbeats 2000000 in
theorem query_rising (v : Value) (us : List ByteArray) (w : World) (hu : SlA w 1 v us.length (strs us)) (hz : ∀ s ∈ us, s.size ≤ 9223372036854775807) : Calls Tryz.prog 158 #[v] w fun e w' => e = .returned (.bool (rises us)) ∧ Below w.heap.size w w' := by
  have HU := Lib.hid hu
  have HUZ := Lib.hid hz
  have hmax := hu.max
  obtain ⟨wo, wc, rfl⟩ := hu.form
  clear hu hz
  have RY := Lib.hid (fun k (hk : ¬ k < us.length) h => rises_yes (us := us) (k := k) hk h)
  have RN := Lib.hid (fun k (hk : k < us.length) h => rises_no (us := us) (k := k) hk h)
  generalize rises us = res at RY RN ⊢
  go_enter Tryz.func158, Tryz.ntmps158
  go_wp2_with fail
  go_loopw [7] (fun i wr => ∃ k : Nat, k ≤ us.length ∧ i = .int .i64 k ∧ Hid (Below w.heap.size w wr) ∧ Hid (∀ j, j < k → risesAt us j = true)) (fun i _ => us.length - (intOf i).toNat)
  case atStart => exact ⟨0, by omega, rfl, Lib.hid (Below.refl _ _), Lib.hid (fun j h => absurd h (by omega))⟩
  case round =>
    obtain ⟨k, hk, rfl, HB, HJ⟩ := hrel
    by_cases hlt : k < us.length
    · obtain ⟨b1, o1, c1, he1, hc1, hm1, hb1, hx1⟩ := HU.out.pos (by omega)
      simp only [Value.slice.injEq, true_and] at he1
      obtain ⟨rfl, rfl⟩ := he1
      have p0 := (HB.out.cell (p := ⟨b1, o1 + k, none⟩) hb1).trans (hx1 k _ (strs_get hlt))
      have hbr : b1 < wr.heap.size := Nat.lt_of_lt_of_le hb1 HB.out.size
      have IP := Lib.hid (fun W => names_IsPrin us[k] W (HUZ.out _ (List.getElem_mem hlt)))
      have HRA := Lib.hid (show risesAt us k = (isP 65 90 (bl us[k]) && (decide (k = 0) || Op.bytesLess (us.getD (k - 1) emp).toList us[k].toList)) by unfold risesAt; rw [getD_at hlt])
      have HJS : Hid (risesAt us k = true → ∀ j, j < k + 1 → risesAt us j = true) := Lib.hid (fun h j hj => by
        by_cases e : j = k
        · rw [e]; exact h
        · exact HJ.out j (by omega))
      have HNO := Lib.hid (fun (h : risesAt us k = false) => RN.out k hlt h)
      generalize isP 65 90 (bl us[k]) = rp at IP HRA
      cases rp with
      | false =>
        clear hx1
        go_wp2_with fail
        refine (IP.out _).mono ?_
        rintro e w2 ⟨rfl, rfl⟩
        go_wp2
        go_ret
        exact ⟨ret_b (HNO.out (by rw [HRA.out]; rfl)).symm, HB.out⟩
      | true =>
        by_cases hk0 : k = 0
        · have dk : decide (0 < k) = false := by (rw [decide_eq_false_iff_not]; omega)
          have HS := Lib.hid (HJS.out (by rw [HRA.out, decide_eq_true hk0]; rfl))
          clear hx1 hk0
          go_wp2_with fail
          refine (IP.out _).mono ?_
          rintro e w2 ⟨rfl, rfl⟩
          go_wp2
          exact ⟨⟨k + 1, by omega, by go_num, HB, HS⟩, by simp [intOf]; omega⟩
        · obtain ⟨m, hm⟩ : ∃ m, k = m + 1 := ⟨k - 1, by omega⟩
          have dk : decide (0 < k) = true := by (rw [decide_eq_true_iff]; omega)
          have hw1 : IntKind.i64.wrap ((k : Int) - 1) = (m : Int) := by rw [show (k : Int) - 1 = (m : Int) by omega]; exact Go.IntWalk.i64_in _ (by omega)
          have hml : m < us.length := by omega
          have hmi : (0 : Int) ≤ (m : Int) := by omega
          have q0 := (HB.out.cell (p := ⟨b1, o1 + m, none⟩) hb1).trans (hx1 m _ (strs_get hml))
          rw [decide_eq_false hk0, Bool.false_or, show k - 1 = m by omega, getD_at hml, Bool.true_and] at HRA
          clear hx1 hk0 hm
          go_wp2_with fail
          refine (IP.out _).mono ?_
          rintro e w2 ⟨rfl, rfl⟩
          generalize us[k] = sk at *
          generalize us[m] = sm at *
          cases hbl : Op.bytesLess sm.toList sk.toList with
          | false =>
            have HBL := Lib.hid hbl
            rcases less_not hbl with hl | hl <;> clear hbl
            all_goals
              go_wp2
              go_ret
              exact ⟨ret_b (HNO.out (by rw [HRA.out]; exact HBL.out)).symm, HB.out⟩
          | true =>
            obtain ⟨hl1, hl2⟩ := less_rev hbl
            have HS := Lib.hid (HJS.out (by rw [HRA.out]; exact hbl))
            go_wp2
            exact ⟨⟨k + 1, by omega, by go_num, HB, HS⟩, by simp [intOf]; omega⟩
    · have R := Lib.hid (RY.out k hlt HJ.out)
      go_wp2
      go_ret
      exact ⟨ret_b R.out.symm, HB.out⟩
theorem noR_role : isRole noR = false := by kernel_rfl
set_option maxRecDepth 100000 in
set_option maxHeartbeats 16000000 in
theorem query_RightL (q : Qv) (us : List ByteArray) (w : World) (hla : q.a.le 4294967) (hlb : q.b.le 4294967) (hu1 : SlA w 1 q.w us.length (strs us)) (hu3 : ∀ s ∈ us, s.size ≤ 9223372036854775807) : Calls Tryz.prog 100 #[qv q] w fun e w' => e = .returned (.bool (rightQ q us)) ∧ Below w.heap.size w w' := by
  have RES := Lib.hid (show rightQ q us = (decide (1 ≤ q.k) && (decide (q.k ≤ 6) && (isRole q.a && (rises us && (if 5 ≤ q.k then isRole q.b && decide (us.length = 0) else eqRl q.b noR && (decide (us.length ≤ 12) && (if q.k = 4 then decide (us.length = 0) else decide (q.k = 3) || decide (0 < us.length)))))))) from rfl)
  generalize rightQ q us = res at RES ⊢
  obtain ⟨xk, ⟨x1, x2⟩, ⟨x3, x4⟩, wv⟩ := q
  have hmax := hu1.max
  dsimp only at RES hu1 hla hlb
  have IA := Lib.hid (fun W => syn_IsRole ⟨x1, x2⟩ W hla)
  have IB := Lib.hid (fun W => syn_IsRole ⟨x3, x4⟩ W hlb)
  have RI := Lib.hid (fun W (hb : Below w.heap.size w W) => query_rising wv us W (hu1.below hb) hu3)
  generalize isRole ⟨x1, x2⟩ = ra at IA RES
  generalize rises us = ri at RI RES
  obtain ⟨wo, wc, rfl⟩ := hu1.form
  have HT := Lib.hid (show OneAt w #[.int .i64 xk, .string x1, .string x2, .string x3, .string x4, .slice wo us.length wc] (w.alloc (.cells #[.int .i64 xk, .string x1, .string x2, .string x3, .string x4, .slice wo us.length wc] 45)) from ⟨Blk.new w _ _, (Below.refl _ _).alloc (Nat.le_refl _) _⟩)
  clear hla hlb hu1 hu3
  go_enter Tryz.func100, Tryz.ntmps100
  by_cases k1 : xk < 1
  · have d1 : decide (xk < 1) = true := decide_eq_true k1
    have R := Lib.hid (show res = false by rw [RES.out, decide_eq_false (show ¬ 1 ≤ xk by omega)]; rfl)
    clear k1
    go_wp2
    go_ret
    exact ⟨ret_b R.out.symm, HT.out.low⟩
  have d1 : decide (xk < 1) = false := decide_eq_false k1
  by_cases k6 : 6 < xk
  · have d6 : decide (6 < xk) = true := decide_eq_true k6
    have R := Lib.hid (show res = false by rw [RES.out, decide_eq_true (show 1 ≤ xk by omega), decide_eq_false (show ¬ xk ≤ 6 by omega)]; rfl)
    clear k1 k6
    go_wp2
    go_ret
    exact ⟨ret_b R.out.symm, HT.out.low⟩
  have d6 : decide (6 < xk) = false := decide_eq_false k6
  rw [decide_eq_true (show 1 ≤ xk by omega), decide_eq_true (show xk ≤ 6 by omega), Bool.true_and, Bool.true_and] at RES
  have HK := Lib.hid (And.intro k1 k6)
  clear k1 k6
  go_wp2_with fail
  refine (IA.out _).mono ?_
  rintro e w1 ⟨rfl, hb1⟩
  have HT := Lib.hid (HT.out.later hb1)
  clear hb1
  cases ra with
  | false =>
    go_wp2
    go_ret
    exact ⟨ret_b (by rw [RES.out]; rfl), HT.out.low⟩
  | true =>
  rw [Bool.true_and] at RES
  obtain ⟨ca, fa, za⟩ := HT.out.a
  go_wp2_with fail
  refine (RI.out _ HT.out.low).mono ?_
  rintro e wr ⟨rfl, hb1⟩
  have HT := Lib.hid (HT.out.later hb1)
  clear hb1 ca fa za RI
  cases ri with
  | false =>
    go_wp2
    go_ret
    exact ⟨ret_b (by rw [RES.out]; rfl), HT.out.low⟩
  | true =>
  rw [Bool.true_and] at RES
  have hk : xk = 1 ∨ xk = 2 ∨ xk = 3 ∨ xk = 4 ∨ xk = 5 ∨ xk = 6 := by have := HK.out.1; have := HK.out.2; omega
  clear HK d1 d6
  obtain ⟨eb, heb⟩ : ∃ e, eqRl ⟨x3, x4⟩ ⟨emp, emp⟩ = e := ⟨_, rfl⟩
  have HEB := Lib.hid heb
  have RBN := Lib.hid (fun (h : eb = true) => show isRole ⟨x3, x4⟩ = false by rw [show (⟨x3, x4⟩ : Rl) = noR from of_decide_eq_true (heb.trans h)]; exact noR_role)
  clear heb
  rcases hk with rfl | rfl | rfl | rfl | rfl | rfl
  · have RS : Hid (res = (eqRl ⟨x3, x4⟩ noR && (decide (us.length ≤ 12) && decide (0 < us.length)))) := Lib.hid (RES.out.trans (by rfl))
    clear RES
    rw [show eqRl ⟨x3, x4⟩ noR = eb from HEB.out] at RS
    have SE := Lib.hid (fun W => query_secondB 1 W)
    have SB := Lib.hid (show secB 1 = false from rfl)
    rw [SB.out] at SE
    have LE := Lib.hid (fun W => query_least 1 W)
    rw [show leastI 1 = 1 from rfl] at LE
    have HNe := fun W => role_neq x3 x4 emp emp W
    rw [show eqRl ⟨x3, x4⟩ ⟨emp, emp⟩ = eb from HEB.out] at HNe
    cases eb with
    | false =>
      simp only [Bool.not_false] at HNe
      go_wp2_with fail
      refine wp_region_held_drew (S := (fun W => ∀ o, W.cell? ⟨w.heap.size, o, none⟩ = (#[.int .i64 1, .string x1, .string x2, .string x3, .string x4, .slice wo us.length wc] : Array Value)[o]?)) (by kernel_rfl) HT.out.drew.a.1 (fun hHeld => ?_)
      have HT := HT.out.drew
      obtain ⟨wk, hwk⟩ : ∃ W, W = wr.drew := ⟨_, rfl⟩
      rw [← hwk] at HT hHeld ⊢
      clear hwk
      (refine hyes 0 ?_); (refine hyes 1 ?_); (refine hyes 3 ?_); (refine hyes 4 ?_); (refine hyes 5 ?_); (refine hyes 6 ?_); (try simp only [Act.put, List.setIfInBounds_toArray, List.set])
      (refine held_call 2 rfl (by kernel_rfl) (fun K hK => ?_); go_simp)
      go_at_call 159; refine (SE.out _).mono ?_; rintro e wz2 ⟨rfl, rfl⟩
      (refine hK.out _ _ ((HT.a.1)) (fun hHeld => ?_); clear hK K; (try simp only [Act.put, List.setIfInBounds_toArray, List.set]))
      (refine hyes 7 ?_); (refine hyes 8 ?_); (try simp only [Act.put, List.setIfInBounds_toArray, List.set])
      (refine hno 9 ?_); (try simp only [Act.put, List.setIfInBounds_toArray, List.set])
      (refine hno 10 ?_); (try simp only [Act.put, List.setIfInBounds_toArray, List.set])
      (refine hno 11 ?_); (try simp only [Act.put, List.setIfInBounds_toArray, List.set])
      (refine hno 12 ?_); (try simp only [Act.put, List.setIfInBounds_toArray, List.set])
      (refine hno 13 ?_); (try simp only [Act.put, List.setIfInBounds_toArray, List.set])
      (refine hno 14 ?_); (try simp only [Act.put, List.setIfInBounds_toArray, List.set])
      (refine hno 15 ?_); (try simp only [Act.put, List.setIfInBounds_toArray, List.set])
      (refine hno 16 ?_); (try simp only [Act.put, List.setIfInBounds_toArray, List.set])
      (refine hno 17 ?_); (try simp only [Act.put, List.setIfInBounds_toArray, List.set])
      (refine hyes 18 ?_); (try simp only [Act.put, List.setIfInBounds_toArray, List.set])
      refine wpAnyH_done (by kernel_rfl) ?_ _
      have HTr := Lib.hid HT
      clear HT
      go_wp2_with fail
      go_ret
      exact ⟨ret_b (by rw [RS.out]; first | rfl | (simp [noR_role]) | (cases rb <;> simp_all)), HTr.out.low⟩
    | true =>
      simp only [Bool.not_true] at HNe
      go_wp2_with fail
      refine wp_region_held_drew (S := (fun W => ∀ o, W.cell? ⟨w.heap.size, o, none⟩ = (#[.int .i64 1, .string x1, .string x2, .string x3, .string x4, .slice wo us.length wc] : Array Value)[o]?)) (by kernel_rfl) HT.out.drew.a.1 (fun hHeld => ?_)
      have HT := HT.out.drew
      obtain ⟨wk, hwk⟩ : ∃ W, W = wr.drew := ⟨_, rfl⟩
      rw [← hwk] at HT hHeld ⊢
      clear hwk
      (refine hyes 0 ?_); (refine hyes 1 ?_); (refine hyes 3 ?_); (refine hyes 4 ?_); (refine hyes 5 ?_); (refine hyes 6 ?_); (try simp only [Act.put, List.setIfInBounds_toArray, List.set])
      (refine held_call 2 rfl (by kernel_rfl) (fun K hK => ?_); go_simp)
      go_at_call 159; refine (SE.out _).mono ?_; rintro e wz2 ⟨rfl, rfl⟩
      (refine hK.out _ _ ((HT.a.1)) (fun hHeld => ?_); clear hK K; (try simp only [Act.put, List.setIfInBounds_toArray, List.set]))
      (refine hyes 7 ?_); (refine hyes 8 ?_); (refine hyes 9 ?_); (refine hyes 10 ?_); (try simp only [Act.put, List.setIfInBounds_toArray, List.set])
      (refine held_call 11 rfl (by kernel_rfl) (fun K hK => ?_); go_simp)
      go_at_call 159; refine (SE.out _).mono ?_; rintro e wz11 ⟨rfl, rfl⟩
      (refine hK.out _ _ ((HT.a.1)) (fun hHeld => ?_); clear hK K; (try simp only [Act.put, List.setIfInBounds_toArray, List.set]))
      (refine hyes 12 ?_); (try simp only [Act.put, List.setIfInBounds_toArray, List.set])
      (refine hno 13 ?_); (try simp only [Act.put, List.setIfInBounds_toArray, List.set])
      (refine hno 14 ?_); (try simp only [Act.put, List.setIfInBounds_toArray, List.set])
      (refine hno 15 ?_); (try simp only [Act.put, List.setIfInBounds_toArray, List.set])
      (refine hno 16 ?_); (try simp only [Act.put, List.setIfInBounds_toArray, List.set])
      (refine hyes 17 ?_); (refine hyes 18 ?_); (try simp only [Act.put, List.setIfInBounds_toArray, List.set])
      refine wpAnyH_done (by kernel_rfl) ?_ _
      have HTr := Lib.hid HT
      clear HT
      obtain ⟨ca, fa, za⟩ := HTr.out.a
      go_wp2_with fail
      refine (LE.out _).mono ?_
      rintro e wl ⟨rfl, rfl⟩
      by_cases h0 : us.length = 0
      · have e0 : ((us.length : Int) == 0) = true := by rw [beq_iff_eq]; omega
        have e3 : decide ((us.length : Int) ≤ 12) = true := decide_eq_true (by omega)
        have e4 : decide ((1 : Int) ≤ (us.length : Int)) = false := decide_eq_false (by omega)
        have e5 : decide ((0 : Int) ≤ (us.length : Int)) = true := decide_eq_true (by omega)
        rw [h0] at RS
        go_wp2_with fail
        go_ret
        exact ⟨ret_b (by rw [RS.out]; rfl), HTr.out.low⟩
      · by_cases h12 : us.length ≤ 12
        · have e0 : ((us.length : Int) == 0) = false := by rw [beq_eq_false_iff_ne]; omega
          have e3 : decide ((us.length : Int) ≤ 12) = true := decide_eq_true (by omega)
          have e4 : decide ((1 : Int) ≤ (us.length : Int)) = true := decide_eq_true (by omega)
          have e5 : decide ((0 : Int) ≤ (us.length : Int)) = true := decide_eq_true (by omega)
          (try rw [decide_eq_false h0] at RS); (try rw [decide_eq_true h12] at RS); (try rw [decide_eq_true (show 0 < us.length by omega)] at RS)
          go_wp2_with fail
          go_ret
          exact ⟨ret_b (by rw [RS.out]; rfl), HTr.out.low⟩
        · have e0 : ((us.length : Int) == 0) = false := by rw [beq_eq_false_iff_ne]; omega
          have e3 : decide ((us.length : Int) ≤ 12) = false := decide_eq_false (by omega)
          have e4 : decide ((1 : Int) ≤ (us.length : Int)) = true := decide_eq_true (by omega)
          have e5 : decide ((0 : Int) ≤ (us.length : Int)) = true := decide_eq_true (by omega)
          (try rw [decide_eq_false h0] at RS); (try rw [decide_eq_false h12] at RS); (try rw [decide_eq_true (show 0 < us.length by omega)] at RS)
          go_wp2_with fail
          go_ret
          exact ⟨ret_b (by rw [RS.out]; rfl), HTr.out.low⟩
  · have RS : Hid (res = (eqRl ⟨x3, x4⟩ noR && (decide (us.length ≤ 12) && decide (0 < us.length)))) := Lib.hid (RES.out.trans (by rfl))
    clear RES
    rw [show eqRl ⟨x3, x4⟩ noR = eb from HEB.out] at RS
    have SE := Lib.hid (fun W => query_secondB 2 W)
    have SB := Lib.hid (show secB 2 = false from rfl)
    rw [SB.out] at SE
    have LE := Lib.hid (fun W => query_least 2 W)
    rw [show leastI 2 = 1 from rfl] at LE
    have HNe := fun W => role_neq x3 x4 emp emp W
    rw [show eqRl ⟨x3, x4⟩ ⟨emp, emp⟩ = eb from HEB.out] at HNe
    cases eb with
    | false =>
      simp only [Bool.not_false] at HNe
      go_wp2_with fail
      refine wp_region_held_drew (S := (fun W => ∀ o, W.cell? ⟨w.heap.size, o, none⟩ = (#[.int .i64 2, .string x1, .string x2, .string x3, .string x4, .slice wo us.length wc] : Array Value)[o]?)) (by kernel_rfl) HT.out.drew.a.1 (fun hHeld => ?_)
      have HT := HT.out.drew
      obtain ⟨wk, hwk⟩ : ∃ W, W = wr.drew := ⟨_, rfl⟩
      rw [← hwk] at HT hHeld ⊢
      clear hwk
      (refine hyes 0 ?_); (refine hyes 1 ?_); (refine hyes 3 ?_); (refine hyes 4 ?_); (refine hyes 5 ?_); (refine hyes 6 ?_); (try simp only [Act.put, List.setIfInBounds_toArray, List.set])
      (refine held_call 2 rfl (by kernel_rfl) (fun K hK => ?_); go_simp)
      go_at_call 159; refine (SE.out _).mono ?_; rintro e wz2 ⟨rfl, rfl⟩
      (refine hK.out _ _ ((HT.a.1)) (fun hHeld => ?_); clear hK K; (try simp only [Act.put, List.setIfInBounds_toArray, List.set]))
      (refine hyes 7 ?_); (refine hyes 8 ?_); (try simp only [Act.put, List.setIfInBounds_toArray, List.set])
      (refine hno 9 ?_); (try simp only [Act.put, List.setIfInBounds_toArray, List.set])
      (refine hno 10 ?_); (try simp only [Act.put, List.setIfInBounds_toArray, List.set])
      (refine hno 11 ?_); (try simp only [Act.put, List.setIfInBounds_toArray, List.set])
      (refine hno 12 ?_); (try simp only [Act.put, List.setIfInBounds_toArray, List.set])
      (refine hno 13 ?_); (try simp only [Act.put, List.setIfInBounds_toArray, List.set])
      (refine hno 14 ?_); (try simp only [Act.put, List.setIfInBounds_toArray, List.set])
      (refine hno 15 ?_); (try simp only [Act.put, List.setIfInBounds_toArray, List.set])
      (refine hno 16 ?_); (try simp only [Act.put, List.setIfInBounds_toArray, List.set])
      (refine hno 17 ?_); (try simp only [Act.put, List.setIfInBounds_toArray, List.set])
      (refine hyes 18 ?_); (try simp only [Act.put, List.setIfInBounds_toArray, List.set])
      refine wpAnyH_done (by kernel_rfl) ?_ _
      have HTr := Lib.hid HT
      clear HT
      go_wp2_with fail
      go_ret
      exact ⟨ret_b (by rw [RS.out]; first | rfl | (simp [noR_role]) | (cases rb <;> simp_all)), HTr.out.low⟩
    | true =>
      simp only [Bool.not_true] at HNe
      go_wp2_with fail
      refine wp_region_held_drew (S := (fun W => ∀ o, W.cell? ⟨w.heap.size, o, none⟩ = (#[.int .i64 2, .string x1, .string x2, .string x3, .string x4, .slice wo us.length wc] : Array Value)[o]?)) (by kernel_rfl) HT.out.drew.a.1 (fun hHeld => ?_)
      have HT := HT.out.drew
      obtain ⟨wk, hwk⟩ : ∃ W, W = wr.drew := ⟨_, rfl⟩
      rw [← hwk] at HT hHeld ⊢
      clear hwk
      (refine hyes 0 ?_); (refine hyes 1 ?_); (refine hyes 3 ?_); (refine hyes 4 ?_); (refine hyes 5 ?_); (refine hyes 6 ?_); (try simp only [Act.put, List.setIfInBounds_toArray, List.set])
      (refine held_call 2 rfl (by kernel_rfl) (fun K hK => ?_); go_simp)
      go_at_call 159; refine (SE.out _).mono ?_; rintro e wz2 ⟨rfl, rfl⟩
      (refine hK.out _ _ ((HT.a.1)) (fun hHeld => ?_); clear hK K; (try simp only [Act.put, List.setIfInBounds_toArray, List.set]))
      (refine hyes 7 ?_); (refine hyes 8 ?_); (refine hyes 9 ?_); (refine hyes 10 ?_); (try simp only [Act.put, List.setIfInBounds_toArray, List.set])
      (refine held_call 11 rfl (by kernel_rfl) (fun K hK => ?_); go_simp)
      go_at_call 159; refine (SE.out _).mono ?_; rintro e wz11 ⟨rfl, rfl⟩
      (refine hK.out _ _ ((HT.a.1)) (fun hHeld => ?_); clear hK K; (try simp only [Act.put, List.setIfInBounds_toArray, List.set]))
      (refine hyes 12 ?_); (try simp only [Act.put, List.setIfInBounds_toArray, List.set])
      (refine hno 13 ?_); (try simp only [Act.put, List.setIfInBounds_toArray, List.set])
      (refine hno 14 ?_); (try simp only [Act.put, List.setIfInBounds_toArray, List.set])
      (refine hno 15 ?_); (try simp only [Act.put, List.setIfInBounds_toArray, List.set])
      (refine hno 16 ?_); (try simp only [Act.put, List.setIfInBounds_toArray, List.set])
      (refine hyes 17 ?_); (refine hyes 18 ?_); (try simp only [Act.put, List.setIfInBounds_toArray, List.set])
      refine wpAnyH_done (by kernel_rfl) ?_ _
      have HTr := Lib.hid HT
      clear HT
      obtain ⟨ca, fa, za⟩ := HTr.out.a
      go_wp2_with fail
      refine (LE.out _).mono ?_
      rintro e wl ⟨rfl, rfl⟩
      by_cases h0 : us.length = 0
      · have e0 : ((us.length : Int) == 0) = true := by rw [beq_iff_eq]; omega
        have e3 : decide ((us.length : Int) ≤ 12) = true := decide_eq_true (by omega)
        have e4 : decide ((1 : Int) ≤ (us.length : Int)) = false := decide_eq_false (by omega)
        have e5 : decide ((0 : Int) ≤ (us.length : Int)) = true := decide_eq_true (by omega)
        rw [h0] at RS
        go_wp2_with fail
        go_ret
        exact ⟨ret_b (by rw [RS.out]; rfl), HTr.out.low⟩
      · by_cases h12 : us.length ≤ 12
        · have e0 : ((us.length : Int) == 0) = false := by rw [beq_eq_false_iff_ne]; omega
          have e3 : decide ((us.length : Int) ≤ 12) = true := decide_eq_true (by omega)
          have e4 : decide ((1 : Int) ≤ (us.length : Int)) = true := decide_eq_true (by omega)
          have e5 : decide ((0 : Int) ≤ (us.length : Int)) = true := decide_eq_true (by omega)
          (try rw [decide_eq_false h0] at RS); (try rw [decide_eq_true h12] at RS); (try rw [decide_eq_true (show 0 < us.length by omega)] at RS)
          go_wp2_with fail
          go_ret
          exact ⟨ret_b (by rw [RS.out]; rfl), HTr.out.low⟩
        · have e0 : ((us.length : Int) == 0) = false := by rw [beq_eq_false_iff_ne]; omega
          have e3 : decide ((us.length : Int) ≤ 12) = false := decide_eq_false (by omega)
          have e4 : decide ((1 : Int) ≤ (us.length : Int)) = true := decide_eq_true (by omega)
          have e5 : decide ((0 : Int) ≤ (us.length : Int)) = true := decide_eq_true (by omega)
          (try rw [decide_eq_false h0] at RS); (try rw [decide_eq_false h12] at RS); (try rw [decide_eq_true (show 0 < us.length by omega)] at RS)
          go_wp2_with fail
          go_ret
          exact ⟨ret_b (by rw [RS.out]; rfl), HTr.out.low⟩
  · have RS : Hid (res = (eqRl ⟨x3, x4⟩ noR && (decide (us.length ≤ 12) && true))) := Lib.hid (RES.out.trans (by rfl))
    clear RES
    rw [show eqRl ⟨x3, x4⟩ noR = eb from HEB.out] at RS
    have SE := Lib.hid (fun W => query_secondB 3 W)
    have SB := Lib.hid (show secB 3 = false from rfl)
    rw [SB.out] at SE
    have LE := Lib.hid (fun W => query_least 3 W)
    rw [show leastI 3 = 0 from rfl] at LE
    have HNe := fun W => role_neq x3 x4 emp emp W
    rw [show eqRl ⟨x3, x4⟩ ⟨emp, emp⟩ = eb from HEB.out] at HNe
    cases eb with
    | false =>
      simp only [Bool.not_false] at HNe
      go_wp2_with fail
      refine wp_region_held_drew (S := (fun W => ∀ o, W.cell? ⟨w.heap.size, o, none⟩ = (#[.int .i64 3, .string x1, .string x2, .string x3, .string x4, .slice wo us.length wc] : Array Value)[o]?)) (by kernel_rfl) HT.out.drew.a.1 (fun hHeld => ?_)
      have HT := HT.out.drew
      obtain ⟨wk, hwk⟩ : ∃ W, W = wr.drew := ⟨_, rfl⟩
      rw [← hwk] at HT hHeld ⊢
      clear hwk
      (refine hyes 0 ?_); (refine hyes 1 ?_); (refine hyes 3 ?_); (refine hyes 4 ?_); (refine hyes 5 ?_); (refine hyes 6 ?_); (try simp only [Act.put, List.setIfInBounds_toArray, List.set])
      (refine held_call 2 rfl (by kernel_rfl) (fun K hK => ?_); go_simp)
      go_at_call 159; refine (SE.out _).mono ?_; rintro e wz2 ⟨rfl, rfl⟩
      (refine hK.out _ _ ((HT.a.1)) (fun hHeld => ?_); clear hK K; (try simp only [Act.put, List.setIfInBounds_toArray, List.set]))
      (refine hyes 7 ?_); (refine hyes 8 ?_); (try simp only [Act.put, List.setIfInBounds_toArray, List.set])
      (refine hno 9 ?_); (try simp only [Act.put, List.setIfInBounds_toArray, List.set])
      (refine hno 10 ?_); (try simp only [Act.put, List.setIfInBounds_toArray, List.set])
      (refine hno 11 ?_); (try simp only [Act.put, List.setIfInBounds_toArray, List.set])
      (refine hno 12 ?_); (try simp only [Act.put, List.setIfInBounds_toArray, List.set])
      (refine hno 13 ?_); (try simp only [Act.put, List.setIfInBounds_toArray, List.set])
      (refine hno 14 ?_); (try simp only [Act.put, List.setIfInBounds_toArray, List.set])
      (refine hno 15 ?_); (try simp only [Act.put, List.setIfInBounds_toArray, List.set])
      (refine hno 16 ?_); (try simp only [Act.put, List.setIfInBounds_toArray, List.set])
      (refine hno 17 ?_); (try simp only [Act.put, List.setIfInBounds_toArray, List.set])
      (refine hyes 18 ?_); (try simp only [Act.put, List.setIfInBounds_toArray, List.set])
      refine wpAnyH_done (by kernel_rfl) ?_ _
      have HTr := Lib.hid HT
      clear HT
      go_wp2_with fail
      go_ret
      exact ⟨ret_b (by rw [RS.out]; first | rfl | (simp [noR_role]) | (cases rb <;> simp_all)), HTr.out.low⟩
    | true =>
      simp only [Bool.not_true] at HNe
      go_wp2_with fail
      refine wp_region_held_drew (S := (fun W => ∀ o, W.cell? ⟨w.heap.size, o, none⟩ = (#[.int .i64 3, .string x1, .string x2, .string x3, .string x4, .slice wo us.length wc] : Array Value)[o]?)) (by kernel_rfl) HT.out.drew.a.1 (fun hHeld => ?_)
      have HT := HT.out.drew
      obtain ⟨wk, hwk⟩ : ∃ W, W = wr.drew := ⟨_, rfl⟩
      rw [← hwk] at HT hHeld ⊢
      clear hwk
      (refine hyes 0 ?_); (refine hyes 1 ?_); (refine hyes 3 ?_); (refine hyes 4 ?_); (refine hyes 5 ?_); (refine hyes 6 ?_); (try simp only [Act.put, List.setIfInBounds_toArray, List.set])
      (refine held_call 2 rfl (by kernel_rfl) (fun K hK => ?_); go_simp)
      go_at_call 159; refine (SE.out _).mono ?_; rintro e wz2 ⟨rfl, rfl⟩
      (refine hK.out _ _ ((HT.a.1)) (fun hHeld => ?_); clear hK K; (try simp only [Act.put, List.setIfInBounds_toArray, List.set]))
      (refine hyes 7 ?_); (refine hyes 8 ?_); (refine hyes 9 ?_); (refine hyes 10 ?_); (try simp only [Act.put, List.setIfInBounds_toArray, List.set])
      (refine held_call 11 rfl (by kernel_rfl) (fun K hK => ?_); go_simp)
      go_at_call 159; refine (SE.out _).mono ?_; rintro e wz11 ⟨rfl, rfl⟩
      (refine hK.out _ _ ((HT.a.1)) (fun hHeld => ?_); clear hK K; (try simp only [Act.put, List.setIfInBounds_toArray, List.set]))
      (refine hyes 12 ?_); (try simp only [Act.put, List.setIfInBounds_toArray, List.set])
      (refine hno 13 ?_); (try simp only [Act.put, List.setIfInBounds_toArray, List.set])
      (refine hno 14 ?_); (try simp only [Act.put, List.setIfInBounds_toArray, List.set])
      (refine hno 15 ?_); (try simp only [Act.put, List.setIfInBounds_toArray, List.set])
      (refine hno 16 ?_); (try simp only [Act.put, List.setIfInBounds_toArray, List.set])
      (refine hyes 17 ?_); (refine hyes 18 ?_); (try simp only [Act.put, List.setIfInBounds_toArray, List.set])
      refine wpAnyH_done (by kernel_rfl) ?_ _
      have HTr := Lib.hid HT
      clear HT
      obtain ⟨ca, fa, za⟩ := HTr.out.a
      go_wp2_with fail
      refine (LE.out _).mono ?_
      rintro e wl ⟨rfl, rfl⟩
      by_cases h0 : us.length = 0
      · have e0 : ((us.length : Int) == 0) = true := by rw [beq_iff_eq]; omega
        have e3 : decide ((us.length : Int) ≤ 12) = true := decide_eq_true (by omega)
        have e4 : decide ((1 : Int) ≤ (us.length : Int)) = false := decide_eq_false (by omega)
        have e5 : decide ((0 : Int) ≤ (us.length : Int)) = true := decide_eq_true (by omega)
        rw [h0] at RS
        go_wp2_with fail
        go_ret
        exact ⟨ret_b (by rw [RS.out]; rfl), HTr.out.low⟩
      · by_cases h12 : us.length ≤ 12
        · have e0 : ((us.length : Int) == 0) = false := by rw [beq_eq_false_iff_ne]; omega
          have e3 : decide ((us.length : Int) ≤ 12) = true := decide_eq_true (by omega)
          have e4 : decide ((1 : Int) ≤ (us.length : Int)) = true := decide_eq_true (by omega)
          have e5 : decide ((0 : Int) ≤ (us.length : Int)) = true := decide_eq_true (by omega)
          (try rw [decide_eq_false h0] at RS); (try rw [decide_eq_true h12] at RS); (try rw [decide_eq_true (show 0 < us.length by omega)] at RS)
          go_wp2_with fail
          go_ret
          exact ⟨ret_b (by rw [RS.out]; rfl), HTr.out.low⟩
        · have e0 : ((us.length : Int) == 0) = false := by rw [beq_eq_false_iff_ne]; omega
          have e3 : decide ((us.length : Int) ≤ 12) = false := decide_eq_false (by omega)
          have e4 : decide ((1 : Int) ≤ (us.length : Int)) = true := decide_eq_true (by omega)
          have e5 : decide ((0 : Int) ≤ (us.length : Int)) = true := decide_eq_true (by omega)
          (try rw [decide_eq_false h0] at RS); (try rw [decide_eq_false h12] at RS); (try rw [decide_eq_true (show 0 < us.length by omega)] at RS)
          go_wp2_with fail
          go_ret
          exact ⟨ret_b (by rw [RS.out]; rfl), HTr.out.low⟩
  · have RS : Hid (res = (eqRl ⟨x3, x4⟩ noR && (decide (us.length ≤ 12) && decide (us.length = 0)))) := Lib.hid (RES.out.trans (by rfl))
    clear RES
    rw [show eqRl ⟨x3, x4⟩ noR = eb from HEB.out] at RS
    have SE := Lib.hid (fun W => query_secondB 4 W)
    have SB := Lib.hid (show secB 4 = false from rfl)
    rw [SB.out] at SE
    have LE := Lib.hid (fun W => query_least 4 W)
    rw [show leastI 4 = -1 from rfl] at LE
    have HNe := fun W => role_neq x3 x4 emp emp W
    rw [show eqRl ⟨x3, x4⟩ ⟨emp, emp⟩ = eb from HEB.out] at HNe
    cases eb with
    | false =>
      simp only [Bool.not_false] at HNe
      go_wp2_with fail
      refine wp_region_held_drew (S := (fun W => ∀ o, W.cell? ⟨w.heap.size, o, none⟩ = (#[.int .i64 4, .string x1, .string x2, .string x3, .string x4, .slice wo us.length wc] : Array Value)[o]?)) (by kernel_rfl) HT.out.drew.a.1 (fun hHeld => ?_)
      have HT := HT.out.drew
      obtain ⟨wk, hwk⟩ : ∃ W, W = wr.drew := ⟨_, rfl⟩
      rw [← hwk] at HT hHeld ⊢
      clear hwk
      (refine hyes 0 ?_); (refine hyes 1 ?_); (refine hyes 3 ?_); (refine hyes 4 ?_); (refine hyes 5 ?_); (refine hyes 6 ?_); (try simp only [Act.put, List.setIfInBounds_toArray, List.set])
      (refine held_call 2 rfl (by kernel_rfl) (fun K hK => ?_); go_simp)
      go_at_call 159; refine (SE.out _).mono ?_; rintro e wz2 ⟨rfl, rfl⟩
      (refine hK.out _ _ ((HT.a.1)) (fun hHeld => ?_); clear hK K; (try simp only [Act.put, List.setIfInBounds_toArray, List.set]))
      (refine hyes 7 ?_); (refine hyes 8 ?_); (try simp only [Act.put, List.setIfInBounds_toArray, List.set])
      (refine hno 9 ?_); (try simp only [Act.put, List.setIfInBounds_toArray, List.set])
      (refine hno 10 ?_); (try simp only [Act.put, List.setIfInBounds_toArray, List.set])
      (refine hno 11 ?_); (try simp only [Act.put, List.setIfInBounds_toArray, List.set])
      (refine hno 12 ?_); (try simp only [Act.put, List.setIfInBounds_toArray, List.set])
      (refine hno 13 ?_); (try simp only [Act.put, List.setIfInBounds_toArray, List.set])
      (refine hno 14 ?_); (try simp only [Act.put, List.setIfInBounds_toArray, List.set])
      (refine hno 15 ?_); (try simp only [Act.put, List.setIfInBounds_toArray, List.set])
      (refine hno 16 ?_); (try simp only [Act.put, List.setIfInBounds_toArray, List.set])
      (refine hno 17 ?_); (try simp only [Act.put, List.setIfInBounds_toArray, List.set])
      (refine hyes 18 ?_); (try simp only [Act.put, List.setIfInBounds_toArray, List.set])
      refine wpAnyH_done (by kernel_rfl) ?_ _
      have HTr := Lib.hid HT
      clear HT
      go_wp2_with fail
      go_ret
      exact ⟨ret_b (by rw [RS.out]; first | rfl | (simp [noR_role]) | (cases rb <;> simp_all)), HTr.out.low⟩
    | true =>
      simp only [Bool.not_true] at HNe
      go_wp2_with fail
      refine wp_region_held_drew (S := (fun W => ∀ o, W.cell? ⟨w.heap.size, o, none⟩ = (#[.int .i64 4, .string x1, .string x2, .string x3, .string x4, .slice wo us.length wc] : Array Value)[o]?)) (by kernel_rfl) HT.out.drew.a.1 (fun hHeld => ?_)
      have HT := HT.out.drew
      obtain ⟨wk, hwk⟩ : ∃ W, W = wr.drew := ⟨_, rfl⟩
      rw [← hwk] at HT hHeld ⊢
      clear hwk
      (refine hyes 0 ?_); (refine hyes 1 ?_); (refine hyes 3 ?_); (refine hyes 4 ?_); (refine hyes 5 ?_); (refine hyes 6 ?_); (try simp only [Act.put, List.setIfInBounds_toArray, List.set])
      (refine held_call 2 rfl (by kernel_rfl) (fun K hK => ?_); go_simp)
      go_at_call 159; refine (SE.out _).mono ?_; rintro e wz2 ⟨rfl, rfl⟩
      (refine hK.out _ _ ((HT.a.1)) (fun hHeld => ?_); clear hK K; (try simp only [Act.put, List.setIfInBounds_toArray, List.set]))
      (refine hyes 7 ?_); (refine hyes 8 ?_); (refine hyes 9 ?_); (refine hyes 10 ?_); (try simp only [Act.put, List.setIfInBounds_toArray, List.set])
      (refine held_call 11 rfl (by kernel_rfl) (fun K hK => ?_); go_simp)
      go_at_call 159; refine (SE.out _).mono ?_; rintro e wz11 ⟨rfl, rfl⟩
      (refine hK.out _ _ ((HT.a.1)) (fun hHeld => ?_); clear hK K; (try simp only [Act.put, List.setIfInBounds_toArray, List.set]))
      (refine hyes 12 ?_); (try simp only [Act.put, List.setIfInBounds_toArray, List.set])
      (refine hno 13 ?_); (try simp only [Act.put, List.setIfInBounds_toArray, List.set])
      (refine hno 14 ?_); (try simp only [Act.put, List.setIfInBounds_toArray, List.set])
      (refine hno 15 ?_); (try simp only [Act.put, List.setIfInBounds_toArray, List.set])
      (refine hno 16 ?_); (try simp only [Act.put, List.setIfInBounds_toArray, List.set])
      (refine hyes 17 ?_); (refine hyes 18 ?_); (try simp only [Act.put, List.setIfInBounds_toArray, List.set])
      refine wpAnyH_done (by kernel_rfl) ?_ _
      have HTr := Lib.hid HT
      clear HT
      obtain ⟨ca, fa, za⟩ := HTr.out.a
      go_wp2_with fail
      refine (LE.out _).mono ?_
      rintro e wl ⟨rfl, rfl⟩
      by_cases h0 : us.length = 0
      · have e0 : ((us.length : Int) == 0) = true := by rw [beq_iff_eq]; omega
        have e3 : decide ((us.length : Int) ≤ 12) = true := decide_eq_true (by omega)
        have e4 : decide ((1 : Int) ≤ (us.length : Int)) = false := decide_eq_false (by omega)
        have e5 : decide ((0 : Int) ≤ (us.length : Int)) = true := decide_eq_true (by omega)
        rw [h0] at RS
        go_wp2_with fail
        go_ret
        exact ⟨ret_b (by rw [RS.out]; rfl), HTr.out.low⟩
      · by_cases h12 : us.length ≤ 12
        · have e0 : ((us.length : Int) == 0) = false := by rw [beq_eq_false_iff_ne]; omega
          have e3 : decide ((us.length : Int) ≤ 12) = true := decide_eq_true (by omega)
          have e4 : decide ((1 : Int) ≤ (us.length : Int)) = true := decide_eq_true (by omega)
          have e5 : decide ((0 : Int) ≤ (us.length : Int)) = true := decide_eq_true (by omega)
          (try rw [decide_eq_false h0] at RS); (try rw [decide_eq_true h12] at RS); (try rw [decide_eq_true (show 0 < us.length by omega)] at RS)
          go_wp2_with fail
          go_ret
          exact ⟨ret_b (by rw [RS.out]; rfl), HTr.out.low⟩
        · have e0 : ((us.length : Int) == 0) = false := by rw [beq_eq_false_iff_ne]; omega
          have e3 : decide ((us.length : Int) ≤ 12) = false := decide_eq_false (by omega)
          have e4 : decide ((1 : Int) ≤ (us.length : Int)) = true := decide_eq_true (by omega)
          have e5 : decide ((0 : Int) ≤ (us.length : Int)) = true := decide_eq_true (by omega)
          (try rw [decide_eq_false h0] at RS); (try rw [decide_eq_false h12] at RS); (try rw [decide_eq_true (show 0 < us.length by omega)] at RS)
          go_wp2_with fail
          go_ret
          exact ⟨ret_b (by rw [RS.out]; rfl), HTr.out.low⟩
  · have RS : Hid (res = (isRole ⟨x3, x4⟩ && decide (us.length = 0))) := Lib.hid (RES.out.trans (by rfl))
    clear RES
    generalize isRole ⟨x3, x4⟩ = rb at IB RS RBN
    have SE := Lib.hid (fun W => query_secondB 5 W)
    have SB := Lib.hid (show secB 5 = true from rfl)
    rw [SB.out] at SE
    have LE := Lib.hid (fun W => query_least 5 W)
    rw [show leastI 5 = -1 from rfl] at LE
    have HNe := fun W => role_neq x3 x4 emp emp W
    rw [show eqRl ⟨x3, x4⟩ ⟨emp, emp⟩ = eb from HEB.out] at HNe
    cases eb with
    | false =>
      simp only [Bool.not_false] at HNe
      cases rb with
      | false =>
        go_wp2_with fail
        refine wp_region_held_drew (S := (fun W => ∀ o, W.cell? ⟨w.heap.size, o, none⟩ = (#[.int .i64 5, .string x1, .string x2, .string x3, .string x4, .slice wo us.length wc] : Array Value)[o]?)) (by kernel_rfl) HT.out.drew.a.1 (fun hHeld => ?_)
        have HT := HT.out.drew
        obtain ⟨wk, hwk⟩ : ∃ W, W = wr.drew := ⟨_, rfl⟩
        rw [← hwk] at HT hHeld ⊢
        clear hwk
        (refine hyes 0 ?_); (refine hyes 1 ?_); (refine hyes 3 ?_); (refine hyes 4 ?_); (refine hyes 5 ?_); (refine hyes 6 ?_); (try simp only [Act.put, List.setIfInBounds_toArray, List.set])
        (refine held_call 2 rfl (by kernel_rfl) (fun K hK => ?_); go_simp)
        go_at_call 159; refine (SE.out _).mono ?_; rintro e wz2 ⟨rfl, rfl⟩
        (refine hK.out _ _ ((HT.a.1)) (fun hHeld => ?_); clear hK K; (try simp only [Act.put, List.setIfInBounds_toArray, List.set]))
        (refine hyes 7 ?_); (refine hyes 8 ?_); (refine hyes 9 ?_); (refine hyes 10 ?_); (try simp only [Act.put, List.setIfInBounds_toArray, List.set])
        (refine held_call 11 rfl (by kernel_rfl) (fun K hK => ?_); go_simp)
        go_at_call 159; refine (SE.out _).mono ?_; rintro e wz11 ⟨rfl, rfl⟩
        (refine hK.out _ _ ((HT.a.1)) (fun hHeld => ?_); clear hK K; (try simp only [Act.put, List.setIfInBounds_toArray, List.set]))
        (refine hyes 12 ?_); (refine hyes 13 ?_); (refine hyes 14 ?_); (try simp only [Act.put, List.setIfInBounds_toArray, List.set])
        (refine held_call 15 rfl (by kernel_rfl) (fun K hK => ?_); go_simp)
        go_at_call 157; refine (IB.out _).mono ?_; rintro e wz15 ⟨rfl, hbq⟩
        have HT := HT.later hbq
        clear hbq
        (refine hK.out _ _ ((HT.a.1)) (fun hHeld => ?_); clear hK K; (try simp only [Act.put, List.setIfInBounds_toArray, List.set]))
        (refine hyes 16 ?_); (refine hyes 17 ?_); (refine hyes 18 ?_); (try simp only [Act.put, List.setIfInBounds_toArray, List.set])
        refine wpAnyH_done (by kernel_rfl) ?_ _
        have HTr := Lib.hid HT
        clear HT
        go_wp2_with fail
        go_ret
        exact ⟨ret_b (by rw [RS.out]; rfl), HTr.out.low⟩
      | true =>
        go_wp2_with fail
        refine wp_region_held_drew (S := (fun W => ∀ o, W.cell? ⟨w.heap.size, o, none⟩ = (#[.int .i64 5, .string x1, .string x2, .string x3, .string x4, .slice wo us.length wc] : Array Value)[o]?)) (by kernel_rfl) HT.out.drew.a.1 (fun hHeld => ?_)
        have HT := HT.out.drew
        obtain ⟨wk, hwk⟩ : ∃ W, W = wr.drew := ⟨_, rfl⟩
        rw [← hwk] at HT hHeld ⊢
        clear hwk
        (refine hyes 0 ?_); (refine hyes 1 ?_); (refine hyes 3 ?_); (refine hyes 4 ?_); (refine hyes 5 ?_); (refine hyes 6 ?_); (try simp only [Act.put, List.setIfInBounds_toArray, List.set])
        (refine held_call 2 rfl (by kernel_rfl) (fun K hK => ?_); go_simp)
        go_at_call 159; refine (SE.out _).mono ?_; rintro e wz2 ⟨rfl, rfl⟩
        (refine hK.out _ _ ((HT.a.1)) (fun hHeld => ?_); clear hK K; (try simp only [Act.put, List.setIfInBounds_toArray, List.set]))
        (refine hyes 7 ?_); (refine hyes 8 ?_); (refine hyes 9 ?_); (refine hyes 10 ?_); (try simp only [Act.put, List.setIfInBounds_toArray, List.set])
        (refine held_call 11 rfl (by kernel_rfl) (fun K hK => ?_); go_simp)
        go_at_call 159; refine (SE.out _).mono ?_; rintro e wz11 ⟨rfl, rfl⟩
        (refine hK.out _ _ ((HT.a.1)) (fun hHeld => ?_); clear hK K; (try simp only [Act.put, List.setIfInBounds_toArray, List.set]))
        (refine hyes 12 ?_); (refine hyes 13 ?_); (refine hyes 14 ?_); (try simp only [Act.put, List.setIfInBounds_toArray, List.set])
        (refine held_call 15 rfl (by kernel_rfl) (fun K hK => ?_); go_simp)
        go_at_call 157; refine (IB.out _).mono ?_; rintro e wz15 ⟨rfl, hbq⟩
        have HT := HT.later hbq
        clear hbq
        (refine hK.out _ _ ((HT.a.1)) (fun hHeld => ?_); clear hK K; (try simp only [Act.put, List.setIfInBounds_toArray, List.set]))
        (refine hyes 16 ?_); (refine hyes 17 ?_); (refine hyes 18 ?_); (try simp only [Act.put, List.setIfInBounds_toArray, List.set])
        refine wpAnyH_done (by kernel_rfl) ?_ _
        have HTr := Lib.hid HT
        clear HT
        obtain ⟨ca, fa, za⟩ := HTr.out.a
        go_wp2_with fail
        refine (LE.out _).mono ?_
        rintro e wl ⟨rfl, rfl⟩
        by_cases h0 : us.length = 0
        · have e0 : ((us.length : Int) == 0) = true := by rw [beq_iff_eq]; omega
          have e3 : decide ((us.length : Int) ≤ 12) = true := decide_eq_true (by omega)
          have e4 : decide ((1 : Int) ≤ (us.length : Int)) = false := decide_eq_false (by omega)
          have e5 : decide ((0 : Int) ≤ (us.length : Int)) = true := decide_eq_true (by omega)
          rw [h0] at RS
          go_wp2_with fail
          go_ret
          exact ⟨ret_b (by rw [RS.out]; rfl), HTr.out.low⟩
        · by_cases h12 : us.length ≤ 12
          · have e0 : ((us.length : Int) == 0) = false := by rw [beq_eq_false_iff_ne]; omega
            have e3 : decide ((us.length : Int) ≤ 12) = true := decide_eq_true (by omega)
            have e4 : decide ((1 : Int) ≤ (us.length : Int)) = true := decide_eq_true (by omega)
            have e5 : decide ((0 : Int) ≤ (us.length : Int)) = true := decide_eq_true (by omega)
            (try rw [decide_eq_false h0] at RS); (try rw [decide_eq_true h12] at RS); (try rw [decide_eq_true (show 0 < us.length by omega)] at RS)
            go_wp2_with fail
            go_ret
            exact ⟨ret_b (by rw [RS.out]; rfl), HTr.out.low⟩
          · have e0 : ((us.length : Int) == 0) = false := by rw [beq_eq_false_iff_ne]; omega
            have e3 : decide ((us.length : Int) ≤ 12) = false := decide_eq_false (by omega)
            have e4 : decide ((1 : Int) ≤ (us.length : Int)) = true := decide_eq_true (by omega)
            have e5 : decide ((0 : Int) ≤ (us.length : Int)) = true := decide_eq_true (by omega)
            (try rw [decide_eq_false h0] at RS); (try rw [decide_eq_false h12] at RS); (try rw [decide_eq_true (show 0 < us.length by omega)] at RS)
            go_wp2_with fail
            go_ret
            exact ⟨ret_b (by rw [RS.out]; rfl), HTr.out.low⟩
    | true =>
      simp only [Bool.not_true] at HNe
      go_wp2_with fail
      refine wp_region_held_drew (S := (fun W => ∀ o, W.cell? ⟨w.heap.size, o, none⟩ = (#[.int .i64 5, .string x1, .string x2, .string x3, .string x4, .slice wo us.length wc] : Array Value)[o]?)) (by kernel_rfl) HT.out.drew.a.1 (fun hHeld => ?_)
      have HT := HT.out.drew
      obtain ⟨wk, hwk⟩ : ∃ W, W = wr.drew := ⟨_, rfl⟩
      rw [← hwk] at HT hHeld ⊢
      clear hwk
      (refine hyes 0 ?_); (refine hyes 1 ?_); (refine hyes 3 ?_); (refine hyes 4 ?_); (refine hyes 5 ?_); (refine hyes 6 ?_); (try simp only [Act.put, List.setIfInBounds_toArray, List.set])
      (refine held_call 2 rfl (by kernel_rfl) (fun K hK => ?_); go_simp)
      go_at_call 159; refine (SE.out _).mono ?_; rintro e wz2 ⟨rfl, rfl⟩
      (refine hK.out _ _ ((HT.a.1)) (fun hHeld => ?_); clear hK K; (try simp only [Act.put, List.setIfInBounds_toArray, List.set]))
      (refine hyes 7 ?_); (refine hyes 8 ?_); (try simp only [Act.put, List.setIfInBounds_toArray, List.set])
      (refine hno 9 ?_); (try simp only [Act.put, List.setIfInBounds_toArray, List.set])
      (refine hno 10 ?_); (try simp only [Act.put, List.setIfInBounds_toArray, List.set])
      (refine hno 11 ?_); (try simp only [Act.put, List.setIfInBounds_toArray, List.set])
      (refine hno 12 ?_); (try simp only [Act.put, List.setIfInBounds_toArray, List.set])
      (refine hno 13 ?_); (try simp only [Act.put, List.setIfInBounds_toArray, List.set])
      (refine hno 14 ?_); (try simp only [Act.put, List.setIfInBounds_toArray, List.set])
      (refine hno 15 ?_); (try simp only [Act.put, List.setIfInBounds_toArray, List.set])
      (refine hno 16 ?_); (try simp only [Act.put, List.setIfInBounds_toArray, List.set])
      (refine hno 17 ?_); (try simp only [Act.put, List.setIfInBounds_toArray, List.set])
      (refine hyes 18 ?_); (try simp only [Act.put, List.setIfInBounds_toArray, List.set])
      refine wpAnyH_done (by kernel_rfl) ?_ _
      have HTr := Lib.hid HT
      clear HT
      go_wp2_with fail
      go_ret
      exact ⟨ret_b (by rw [RS.out, RBN.out (by first | rfl | trivial)]; rfl), HTr.out.low⟩
  · have RS : Hid (res = (isRole ⟨x3, x4⟩ && decide (us.length = 0))) := Lib.hid (RES.out.trans (by rfl))
    clear RES
    generalize isRole ⟨x3, x4⟩ = rb at IB RS RBN
    have SE := Lib.hid (fun W => query_secondB 6 W)
    have SB := Lib.hid (show secB 6 = true from rfl)
    rw [SB.out] at SE
    have LE := Lib.hid (fun W => query_least 6 W)
    rw [show leastI 6 = -1 from rfl] at LE
    have HNe := fun W => role_neq x3 x4 emp emp W
    rw [show eqRl ⟨x3, x4⟩ ⟨emp, emp⟩ = eb from HEB.out] at HNe
    cases eb with
    | false =>
      simp only [Bool.not_false] at HNe
      cases rb with
      | false =>
        go_wp2_with fail
        refine wp_region_held_drew (S := (fun W => ∀ o, W.cell? ⟨w.heap.size, o, none⟩ = (#[.int .i64 6, .string x1, .string x2, .string x3, .string x4, .slice wo us.length wc] : Array Value)[o]?)) (by kernel_rfl) HT.out.drew.a.1 (fun hHeld => ?_)
        have HT := HT.out.drew
        obtain ⟨wk, hwk⟩ : ∃ W, W = wr.drew := ⟨_, rfl⟩
        rw [← hwk] at HT hHeld ⊢
        clear hwk
        (refine hyes 0 ?_); (refine hyes 1 ?_); (refine hyes 3 ?_); (refine hyes 4 ?_); (refine hyes 5 ?_); (refine hyes 6 ?_); (try simp only [Act.put, List.setIfInBounds_toArray, List.set])
        (refine held_call 2 rfl (by kernel_rfl) (fun K hK => ?_); go_simp)
        go_at_call 159; refine (SE.out _).mono ?_; rintro e wz2 ⟨rfl, rfl⟩
        (refine hK.out _ _ ((HT.a.1)) (fun hHeld => ?_); clear hK K; (try simp only [Act.put, List.setIfInBounds_toArray, List.set]))
        (refine hyes 7 ?_); (refine hyes 8 ?_); (refine hyes 9 ?_); (refine hyes 10 ?_); (try simp only [Act.put, List.setIfInBounds_toArray, List.set])
        (refine held_call 11 rfl (by kernel_rfl) (fun K hK => ?_); go_simp)
        go_at_call 159; refine (SE.out _).mono ?_; rintro e wz11 ⟨rfl, rfl⟩
        (refine hK.out _ _ ((HT.a.1)) (fun hHeld => ?_); clear hK K; (try simp only [Act.put, List.setIfInBounds_toArray, List.set]))
        (refine hyes 12 ?_); (refine hyes 13 ?_); (refine hyes 14 ?_); (try simp only [Act.put, List.setIfInBounds_toArray, List.set])
        (refine held_call 15 rfl (by kernel_rfl) (fun K hK => ?_); go_simp)
        go_at_call 157; refine (IB.out _).mono ?_; rintro e wz15 ⟨rfl, hbq⟩
        have HT := HT.later hbq
        clear hbq
        (refine hK.out _ _ ((HT.a.1)) (fun hHeld => ?_); clear hK K; (try simp only [Act.put, List.setIfInBounds_toArray, List.set]))
        (refine hyes 16 ?_); (refine hyes 17 ?_); (refine hyes 18 ?_); (try simp only [Act.put, List.setIfInBounds_toArray, List.set])
        refine wpAnyH_done (by kernel_rfl) ?_ _
        have HTr := Lib.hid HT
        clear HT
        go_wp2_with fail
        go_ret
        exact ⟨ret_b (by rw [RS.out]; rfl), HTr.out.low⟩
      | true =>
        go_wp2_with fail
        refine wp_region_held_drew (S := (fun W => ∀ o, W.cell? ⟨w.heap.size, o, none⟩ = (#[.int .i64 6, .string x1, .string x2, .string x3, .string x4, .slice wo us.length wc] : Array Value)[o]?)) (by kernel_rfl) HT.out.drew.a.1 (fun hHeld => ?_)
        have HT := HT.out.drew
        obtain ⟨wk, hwk⟩ : ∃ W, W = wr.drew := ⟨_, rfl⟩
        rw [← hwk] at HT hHeld ⊢
        clear hwk
        (refine hyes 0 ?_); (refine hyes 1 ?_); (refine hyes 3 ?_); (refine hyes 4 ?_); (refine hyes 5 ?_); (refine hyes 6 ?_); (try simp only [Act.put, List.setIfInBounds_toArray, List.set])
        (refine held_call 2 rfl (by kernel_rfl) (fun K hK => ?_); go_simp)
        go_at_call 159; refine (SE.out _).mono ?_; rintro e wz2 ⟨rfl, rfl⟩
        (refine hK.out _ _ ((HT.a.1)) (fun hHeld => ?_); clear hK K; (try simp only [Act.put, List.setIfInBounds_toArray, List.set]))
        (refine hyes 7 ?_); (refine hyes 8 ?_); (refine hyes 9 ?_); (refine hyes 10 ?_); (try simp only [Act.put, List.setIfInBounds_toArray, List.set])
        (refine held_call 11 rfl (by kernel_rfl) (fun K hK => ?_); go_simp)
        go_at_call 159; refine (SE.out _).mono ?_; rintro e wz11 ⟨rfl, rfl⟩
        (refine hK.out _ _ ((HT.a.1)) (fun hHeld => ?_); clear hK K; (try simp only [Act.put, List.setIfInBounds_toArray, List.set]))
        (refine hyes 12 ?_); (refine hyes 13 ?_); (refine hyes 14 ?_); (try simp only [Act.put, List.setIfInBounds_toArray, List.set])
        (refine held_call 15 rfl (by kernel_rfl) (fun K hK => ?_); go_simp)
        go_at_call 157; refine (IB.out _).mono ?_; rintro e wz15 ⟨rfl, hbq⟩
        have HT := HT.later hbq
        clear hbq
        (refine hK.out _ _ ((HT.a.1)) (fun hHeld => ?_); clear hK K; (try simp only [Act.put, List.setIfInBounds_toArray, List.set]))
        (refine hyes 16 ?_); (refine hyes 17 ?_); (refine hyes 18 ?_); (try simp only [Act.put, List.setIfInBounds_toArray, List.set])
        refine wpAnyH_done (by kernel_rfl) ?_ _
        have HTr := Lib.hid HT
        clear HT
        obtain ⟨ca, fa, za⟩ := HTr.out.a
        go_wp2_with fail
        refine (LE.out _).mono ?_
        rintro e wl ⟨rfl, rfl⟩
        by_cases h0 : us.length = 0
        · have e0 : ((us.length : Int) == 0) = true := by rw [beq_iff_eq]; omega
          have e3 : decide ((us.length : Int) ≤ 12) = true := decide_eq_true (by omega)
          have e4 : decide ((1 : Int) ≤ (us.length : Int)) = false := decide_eq_false (by omega)
          have e5 : decide ((0 : Int) ≤ (us.length : Int)) = true := decide_eq_true (by omega)
          rw [h0] at RS
          go_wp2_with fail
          go_ret
          exact ⟨ret_b (by rw [RS.out]; rfl), HTr.out.low⟩
        · by_cases h12 : us.length ≤ 12
          · have e0 : ((us.length : Int) == 0) = false := by rw [beq_eq_false_iff_ne]; omega
            have e3 : decide ((us.length : Int) ≤ 12) = true := decide_eq_true (by omega)
            have e4 : decide ((1 : Int) ≤ (us.length : Int)) = true := decide_eq_true (by omega)
            have e5 : decide ((0 : Int) ≤ (us.length : Int)) = true := decide_eq_true (by omega)
            (try rw [decide_eq_false h0] at RS); (try rw [decide_eq_true h12] at RS); (try rw [decide_eq_true (show 0 < us.length by omega)] at RS)
            go_wp2_with fail
            go_ret
            exact ⟨ret_b (by rw [RS.out]; rfl), HTr.out.low⟩
          · have e0 : ((us.length : Int) == 0) = false := by rw [beq_eq_false_iff_ne]; omega
            have e3 : decide ((us.length : Int) ≤ 12) = false := decide_eq_false (by omega)
            have e4 : decide ((1 : Int) ≤ (us.length : Int)) = true := decide_eq_true (by omega)
            have e5 : decide ((0 : Int) ≤ (us.length : Int)) = true := decide_eq_true (by omega)
            (try rw [decide_eq_false h0] at RS); (try rw [decide_eq_false h12] at RS); (try rw [decide_eq_true (show 0 < us.length by omega)] at RS)
            go_wp2_with fail
            go_ret
            exact ⟨ret_b (by rw [RS.out]; rfl), HTr.out.low⟩
    | true =>
      simp only [Bool.not_true] at HNe
      go_wp2_with fail
      refine wp_region_held_drew (S := (fun W => ∀ o, W.cell? ⟨w.heap.size, o, none⟩ = (#[.int .i64 6, .string x1, .string x2, .string x3, .string x4, .slice wo us.length wc] : Array Value)[o]?)) (by kernel_rfl) HT.out.drew.a.1 (fun hHeld => ?_)
      have HT := HT.out.drew
      obtain ⟨wk, hwk⟩ : ∃ W, W = wr.drew := ⟨_, rfl⟩
      rw [← hwk] at HT hHeld ⊢
      clear hwk
      (refine hyes 0 ?_); (refine hyes 1 ?_); (refine hyes 3 ?_); (refine hyes 4 ?_); (refine hyes 5 ?_); (refine hyes 6 ?_); (try simp only [Act.put, List.setIfInBounds_toArray, List.set])
      (refine held_call 2 rfl (by kernel_rfl) (fun K hK => ?_); go_simp)
      go_at_call 159; refine (SE.out _).mono ?_; rintro e wz2 ⟨rfl, rfl⟩
      (refine hK.out _ _ ((HT.a.1)) (fun hHeld => ?_); clear hK K; (try simp only [Act.put, List.setIfInBounds_toArray, List.set]))
      (refine hyes 7 ?_); (refine hyes 8 ?_); (try simp only [Act.put, List.setIfInBounds_toArray, List.set])
      (refine hno 9 ?_); (try simp only [Act.put, List.setIfInBounds_toArray, List.set])
      (refine hno 10 ?_); (try simp only [Act.put, List.setIfInBounds_toArray, List.set])
      (refine hno 11 ?_); (try simp only [Act.put, List.setIfInBounds_toArray, List.set])
      (refine hno 12 ?_); (try simp only [Act.put, List.setIfInBounds_toArray, List.set])
      (refine hno 13 ?_); (try simp only [Act.put, List.setIfInBounds_toArray, List.set])
      (refine hno 14 ?_); (try simp only [Act.put, List.setIfInBounds_toArray, List.set])
      (refine hno 15 ?_); (try simp only [Act.put, List.setIfInBounds_toArray, List.set])
      (refine hno 16 ?_); (try simp only [Act.put, List.setIfInBounds_toArray, List.set])
      (refine hno 17 ?_); (try simp only [Act.put, List.setIfInBounds_toArray, List.set])
      (refine hyes 18 ?_); (try simp only [Act.put, List.setIfInBounds_toArray, List.set])
      refine wpAnyH_done (by kernel_rfl) ?_ _
      have HTr := Lib.hid HT
      clear HT
      go_wp2_with fail
      go_ret
      exact ⟨ret_b (by rw [RS.out, RBN.out (by first | rfl | trivial)]; rfl), HTr.out.low⟩
end Go.Proofs.YtcmdhfccdkjenaaGreatDoor
