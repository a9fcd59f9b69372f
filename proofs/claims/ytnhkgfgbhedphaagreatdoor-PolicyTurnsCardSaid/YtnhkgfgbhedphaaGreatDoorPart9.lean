/- slices.Compact and slices.SortFunc at rows of roles; policy.SortRoles (printed by gen_rlall.py out of Compact, SynSort). slices.SortFunc, slices.Clone at rows of roles; policy.SortRoles (printed by gen_rlall.py out of SynSort). policy.sorted, Fits, Right (printed by gen_polright.py). -/
import Derived.Test.YtnhkgfgbhedphaaGreatDoorPart8
import Derived.Test.YtnhkgfgbhedphaaGreatDoorPart5
import Derived.Test.YtnhkgfgbhedphaaGreatDoorPart6
namespace Go.Proofs.YtnhkgfgbhedphaaGreatDoor
open Go.RowKit Go.Shelf

theorem frozen_sets {b i : Nat} : ∀ (vs : List Value) (o : Nat) (w' : World), w'.frozen? ⟨b, i, none⟩ = false → (w'.setCells b o vs).frozen? ⟨b, i, none⟩ = false
  | [], _, _, h => h
  | v :: vs, o, w', h => by
    rw [World.setCells]
    exact frozen_sets vs (o + 1) _ (by simpa using h)

theorem dedup_snocR : ∀ (p : List Rl) (y z : Rl), dedupR (p ++ [y, z]) = if y = z then dedupR (p ++ [y]) else dedupR (p ++ [y]) ++ [z]
  | [], y, z => by
    show dedupR [y, z] = if y = z then dedupR [y] else dedupR [y] ++ [z]
    unfold dedupR
    by_cases h : y = z
    · rw [if_pos h, if_pos h, h]; rfl
    · rw [if_neg h, if_neg h]; rfl
  | [x], y, z => by
    have ih := dedup_snocR [] y z
    simp only [List.nil_append] at ih
    show dedupR (x :: y :: [z]) = if y = z then dedupR (x :: y :: []) else dedupR (x :: y :: []) ++ [z]
    have e1 : dedupR (x :: y :: [z]) = if x = y then dedupR [y, z] else x :: dedupR [y, z] := rfl
    have e2 : dedupR (x :: y :: []) = if x = y then dedupR [y] else x :: dedupR [y] := rfl
    rw [e1, e2, ih]
    by_cases h1 : x = y <;> by_cases h2 : y = z <;> simp [h1, h2]
  | x :: x' :: p, y, z => by
    have ih := dedup_snocR (x' :: p) y z
    simp only [List.cons_append] at ih ⊢
    have e1 : ∀ r, dedupR (x :: x' :: r) = if x = x' then dedupR (x' :: r) else x :: dedupR (x' :: r) := fun _ => rfl
    rw [e1, e1, ih]
    by_cases h1 : x = x' <;> by_cases h2 : y = z <;> simp [h1, h2]
theorem take_twoR (l : List Rl) (m : Nat) (h : m + 1 < l.length) : l.take (m + 2) = l.take m ++ [l[m], l[m + 1]] := by
  rw [List.take_succ_eq_append_getElem h, List.take_succ_eq_append_getElem (by omega), List.append_assoc]; rfl
theorem dedup_sameR (l : List Rl) (m : Nat) (h : m + 1 < l.length) (e : l[m] = l[m + 1]) : dedupR (l.take (m + 2)) = dedupR (l.take (m + 1)) := by
  rw [take_twoR l m h, dedup_snocR, if_pos e, List.take_succ_eq_append_getElem (by omega)]
theorem dedup_moreR (l : List Rl) (m : Nat) (h : m + 1 < l.length) (e : ¬ l[m] = l[m + 1]) : dedupR (l.take (m + 2)) = dedupR (l.take (m + 1)) ++ [l[m + 1]] := by
  rw [take_twoR l m h, dedup_snocR, if_neg e, List.take_succ_eq_append_getElem (by omega)]
theorem dedup_lenR : ∀ (l : List Rl), (dedupR l).length ≤ l.length
  | [] => Nat.le_refl _
  | [_] => Nat.le_refl _
  | x :: y :: r => by
    have ih := dedup_lenR (y :: r)
    unfold dedupR
    split <;> simp at ih ⊢ <;> omega
theorem dedup_oneR (l : List Rl) (h : 0 < l.length) : dedupR (l.take 1) = l.take 1 := by
  match l, h with
  | x :: r, _ => rfl
structure HalfR (w : World) (b o : Nat) (l : List Rl) (m k : Nat) : Prop where
  len : (dedupR (l.take m)).length = k
  low : ∀ i (hi : i < (dedupR (l.take m)).length), Two w b (o + i * 2) (dedupR (l.take m))[i]
  high : ∀ i (hi : i < l.length), k ≤ i → Two w b (o + i * 2) l[i]
def W2 (w : World) (b a : Nat) (s : Rl) : World := (w.setCell ⟨b, a, none⟩ (.string s.o)).setCell ⟨b, a + 1, none⟩ (.string s.n)
theorem w2_far (w : World) (b a i : Nat) (s : Rl) (h : i < a ∨ a + 2 ≤ i) : (W2 w b a s).cell? ⟨b, i, none⟩ = w.cell? ⟨b, i, none⟩ := by
  unfold W2
  rw [set_far _ _ _ _ _ (by omega), set_far _ _ _ _ _ (by omega)]
theorem w2_new {w : World} {b a : Nat} (s s0 : Rl) (h : Two w b a s0) : Two (W2 w b a s) b a s := by
  obtain ⟨h0, h1⟩ := h
  refine ⟨?_, ?_⟩
  · unfold W2; rw [set_far _ _ _ _ _ (by omega)]; exact World.cell?_setCell_same _ _ _ (u := _) h0
  · unfold W2; refine World.cell?_setCell_same _ _ _ (u := .string s0.n) ?_; rw [set_far _ _ _ _ _ (by omega)]; exact h1
theorem Two.drop1 {w w' : World} {b x : Nat} {s : Rl} (h : Two w b x s) (hw : ∀ i, x ≤ i → i < x + 2 → w'.cell? ⟨b, i, none⟩ = w.cell? ⟨b, i, none⟩) : Two w' b x s := by
  obtain ⟨h0, h1⟩ := h
  exact ⟨(hw _ (by omega) (by omega)).trans h0, (hw _ (by omega) (by omega)).trans h1⟩
theorem HalfR.put {w : World} {b o m kk : Nat} {l : List Rl} (h : HalfR w b o l (m + 1) kk) (hm : m + 1 < l.length) (hk : kk ≤ m) (e : ¬ l[m] = l[m + 1]) : HalfR (W2 w b (o + kk * 2) l[m + 1]) b o l (m + 2) (kk + 1) := by
  have hd := dedup_moreR l m hm e
  refine ⟨by rw [hd, List.length_append, h.len]; rfl, fun i hi => ?_, fun i hi hik => ?_⟩
  · rw [hd, List.length_append, h.len] at hi
    simp only [List.length_cons, List.length_nil] at hi
    by_cases hik : i < kk
    · have e1 : (dedupR (l.take (m + 2)))[i]'(by rw [hd, List.length_append, h.len]; simp; omega) = (dedupR (l.take (m + 1)))[i]'(by rw [h.len]; exact hik) := by
        simp only [hd]; rw [List.getElem_append_left]
      rw [e1]
      exact (h.low i (by rw [h.len]; exact hik)).drop1 (fun j _ _ => w2_far _ _ _ _ _ (by omega))
    · obtain rfl : i = kk := by omega
      have e1 : (dedupR (l.take (m + 2)))[i]'(by rw [hd, List.length_append, h.len]; simp) = l[m + 1] := by
        simp only [hd]; rw [List.getElem_append_right (by rw [h.len]; exact Nat.le_refl _)]; simp [h.len]
      rw [e1]
      exact w2_new _ _ (h.high i (by omega) (Nat.le_refl _))
  · exact (h.high i hi (by omega)).drop1 (fun j _ _ => w2_far _ _ _ _ _ (by omega))
theorem HalfR.same {w : World} {b o m kk : Nat} {l : List Rl} (h : HalfR w b o l (m + 1) kk) (hm : m + 1 < l.length) (e : l[m] = l[m + 1]) : HalfR w b o l (m + 2) kk := by
  have hd := dedup_sameR l m hm e
  exact ⟨by rw [hd]; exact h.len, fun i hi => by simp only [hd]; exact h.low i (by rw [← hd]; exact hi), h.high⟩
theorem HalfR.drewN {w : World} {b o m k : Nat} {l : List Rl} (h : HalfR w b o l m k) (n : Nat) : HalfR (w.drewN n) b o l m k := ⟨h.len, h.low, h.high⟩
theorem grown_w9R {w w' : World} {b a : Nat} {s : Rl} (h : w.grownBy w' (some b)) : w.grownBy (W2 w' b a s) (some b) := by
  unfold W2
  exact grown_set (grown_set h)
theorem sh_w9R {w w' : World} {b a : Nat} {s : Rl} (h : ShK w w' b) : ShK w (W2 w' b a s) b := by
  unfold W2
  exact sh_set (sh_set h)
theorem run_clear2R {P : Program} (w : World) (t e ty : TypeId) (z : Value) (ht : P.underlying t = some (.slice e)) (hv : ∀ w, (zeroValue e).run P w = .ok z w) (b o n c : Nat) (hn : 0 < n) (hs : z.cells.size = 2)
    (hc : ∀ j, j < n * 2 → (w.cell? ⟨b, o + j, none⟩).isSome = true) (hf : ∀ j, w.frozen? ⟨b, o + j, none⟩ = false) (h1 : ∀ v ∈ (Builtin.zeroCells z.cells n).toList, v.oneCell' = true) :
    (Builtin.clear_ #[t] ty #[.slice (some ⟨b, o, none⟩) n c]).run P w = .ok (.tuple #[]) (w.setCells b o (Builtin.zeroCells z.cells n).toList) := by
  have hl : (Builtin.zeroCells z.cells n).toList.length = n * 2 := by simp [Builtin.zeroCells, hs]
  have hst := run_storeCells_cells (P := P) b o (Builtin.zeroCells z.cells n).toList 0 w (by intro j hj; rw [hl] at hj; simpa using hc j hj) (by intro j _; simp [hf]) h1
  simp only [Nat.add_zero] at hst
  obtain ⟨m, rfl⟩ : ∃ m, n = m + 1 := ⟨n - 1, by omega⟩
  simp [Builtin.clear_, run_underlying ht, hv, hst]
abbrev zeroRl : Value := .agg #[.string ByteArray.empty, .string ByteArray.empty]
theorem zero_oneR (n : Nat) : ∀ v ∈ (Builtin.zeroCells zeroRl.cells n).toList, v.oneCell' = true := by
  intro v hv
  simp only [Builtin.zeroCells, Array.toList_map, List.mem_map] at hv
  obtain ⟨i, _, rfl⟩ := hv
  have h9 : i % zeroRl.cells.size < 2 := Nat.mod_lt _ (by decide)
  generalize i % zeroRl.cells.size = q at h9
  match q, h9 with
  | 0, _ => rfl
  | 1, _ => rfl
  | n + 2, h => omega
theorem two_someR {w : World} {b x : Nat} {s : Rl} (h : Two w b x s) (f : Nat) (hf : f < 2) : (w.cell? ⟨b, x + f, none⟩).isSome = true := by
  obtain ⟨h0, h1⟩ := h
  match f, hf with
  | 0, _ => rw [Nat.add_zero, h0]; rfl
  | 1, _ => rw [h1]; rfl
theorem HalfR.all {w : World} {b o m k : Nat} {l : List Rl} (h : HalfR w b o l m k) (hm : m = l.length) : (dedupR l).length = k ∧ ∀ i (hi : i < (dedupR l).length), Two w b (o + i * 2) (dedupR l)[i] := by
  subst hm
  obtain ⟨h1, h2, _⟩ := h
  simp only [List.take_of_length_le (Nat.le_refl _)] at h1 h2
  exact ⟨h1, h2⟩
theorem two_cellsR {w : World} {b o : Nat} {l : List Rl} (h : ∀ i (hi : i < l.length), Two w b (o + i * 2) l[i]) (j : Nat) (u : Value) (hu : (l.flatMap Rl.cells)[j]? = some u) : w.cell? ⟨b, o + j, none⟩ = some u := by
  have hj : j < l.length * 2 := by rw [← flat_len Rl.cells 2 Rl.cells_len l]; exact (List.getElem?_eq_some_iff.1 hu).1
  have hi : j / 2 < l.length := by omega
  have hf : j % 2 < 2 := Nat.mod_lt _ (by decide)
  have e : j = j / 2 * 2 + j % 2 := by omega
  rw [e, flat_get Rl.cells 2 Rl.cells_len l (j / 2) (j % 2) hf _ (List.getElem?_eq_getElem hi)] at hu
  obtain ⟨h0, h1⟩ := h (j / 2) hi
  rw [show o + j = o + j / 2 * 2 + j % 2 by omega]
  generalize j % 2 = f at hf hu
  match f, hf with
  | 0, _ => rw [Nat.add_zero, h0]; exact hu
  | 1, _ => rw [h1]; exact hu
theorem high_someR {w : World} {b o m k : Nat} {l : List Rl} (h : HalfR w b o l m k) (hk : k ≤ l.length) : ∀ j, j < (l.length - k) * 2 → (w.cell? ⟨b, o + k * 2 + j, none⟩).isSome = true := by
  intro j hj
  have := two_someR (h.high (k + j / 2) (by omega) (by omega)) (j % 2) (Nat.mod_lt _ (by decide))
  rwa [show o + (k + j / 2) * 2 + j % 2 = o + k * 2 + j by omega] at this
set_option maxRecDepth 100000 in
theorem rl_zero (w : World) : (zeroValue 54).run Tryz.prog w = .ok zeroRl w := by rfl
set_option maxRecDepth 100000 in
set_option maxHeartbeats 8000000 in
theorem rl_Compact (b o cap : Nat) (l : List Rl) (w : World) (hl : l.length ≤ 1000) (hc : l.length ≤ cap) (hcm : cap ≤ 9223372036854775807) (hb : b < w.heap.size)
    (hx : ∀ j u, (l.flatMap Rl.cells)[j]? = some u → w.cell? ⟨b, o + j, none⟩ = some u) (hf : ∀ i, w.frozen? ⟨b, i, none⟩ = false) :
    Calls Tryz.prog 66 #[.slice (some ⟨b, o, none⟩) l.length cap] w fun e w' =>
      e = .returned (.slice (some ⟨b, o, none⟩) (dedupR l).length cap) ∧ (∀ j u, ((dedupR l).flatMap Rl.cells)[j]? = some u → w'.cell? ⟨b, o + j, none⟩ = some u) ∧ w.grownBy w' (some b) ∧ (∀ i, w'.frozen? ⟨b, i, none⟩ = false) ∧ ShK w w' b := by
  have HFF := Lib.hid hf
  have hEq := role_eql
  have hNe := role_neq
  have HX := Lib.hid hx
  by_cases h2 : l.length < 2
  · have hd : dedupR l = l := by
      match l, h2 with
      | [], _ => rfl
      | [_], _ => rfl
    have HD := Lib.hid hd
    have d : decide ((l.length : Int) < 2) = true := by rw [decide_eq_true_iff]; omega
    clear hd hx h2
    go_enter Tryz.func66, Tryz.ntmps66
    go_wp2
    go_ret
    exact ⟨by rw [HD.out]; rfl, by rw [HD.out]; exact HX.out, ⟨rfl, rfl, rfl, Nat.le_refl _, fun _ _ _ => rfl⟩, HFF.out, ShK.refl _ _⟩
  · have d : decide ((l.length : Int) < 2) = false := by rw [decide_eq_false_iff_not]; omega
    clear hx
    go_enter Tryz.func66, Tryz.ntmps66
    go_wp2_with fail
    go_loopw [3] (fun i wr => ∃ k n : Nat, 1 ≤ k ∧ k ≤ l.length ∧ i = .int .i64 k ∧ wr = w.drewN n ∧ Hid (dedupR (l.take k) = l.take k)) (fun i _ => l.length - (intOf i).toNat)
    case atStart => exact ⟨1, 0, by omega, by omega, rfl, rfl, Lib.hid (dedup_oneR l (by omega))⟩
    case round =>
      obtain ⟨k, n, hk1, hk, rfl, rfl, HK⟩ := hrel
      by_cases hlt : k < l.length
      · obtain ⟨m, hm⟩ : ∃ m, k = m + 1 := ⟨k - 1, by omega⟩
        have HM := Lib.hid hm
        have hml : m < l.length := by omega
        obtain ⟨p0, p1⟩ := rl_cell (w := w) HX.out k hlt
        obtain ⟨q0, q1⟩ := rl_cell (w := w) HX.out m hml
        have hw1 : IntKind.i64.wrap ((k : Int) - 1) = (m : Int) := by rw [show (k : Int) - 1 = (m : Int) by omega]; exact Go.IntWalk.i64_in _ (by omega)
        have hmi : (0 : Int) ≤ (m : Int) := by omega
        by_cases he : l[k] = l[m]
        · have H0 : HalfR w b o l (k + 1) k := by
            have hd : dedupR (l.take (k + 1)) = l.take k := by
              have h1 := HK.out
              subst hm
              exact (dedup_sameR l m hlt he.symm).trans h1
            refine ⟨by rw [hd, List.length_take]; omega, fun i hi => ?_, fun i hi _ => rl_cell (w := w) HX.out i hi⟩
            have hi' : i < l.length := by rw [hd, List.length_take] at hi; omega
            have e : (dedupR (l.take (k + 1)))[i] = l[i] := by simp only [hd, List.getElem_take]
            rw [e]
            exact rl_cell (w := w) HX.out i hi'
          have H0' := Lib.hid H0
          have d1 : eqRl ⟨l[k].o, l[k].n⟩ ⟨l[m].o, l[m].n⟩ = true := decide_eq_true he
          clear he H0 hm
          go_wp2_with fail
          go_big_quiet (fail)
          go_wp2_with fail
          clear p0 p1 q0 q1 d1 hw1
          go_loopw [3, 5] (fun kv iv wr => ∃ kk t : Nat, 1 ≤ t ∧ t ≤ l.length - k ∧ kk + 1 ≤ k + t ∧ kv = .int .i64 kk ∧ iv = .int .i64 t ∧ HalfR wr b o l (k + t) kk ∧ w.grownBy wr (some b) ∧ (∀ i, wr.frozen? ⟨b, i, none⟩ = false) ∧ b < wr.heap.size ∧ Hid (ShK w wr b)) (fun _ iv _ => l.length - (intOf iv).toNat)
          case atStart => exact ⟨k, 1, by omega, by omega, by omega, rfl, rfl, H0'.out.drewN _, ⟨rfl, rfl, rfl, Nat.le_refl _, fun _ _ _ => rfl⟩, hf, hb, Lib.hid (ShK.refl _ _)⟩
          case round =>
            obtain ⟨kk, t, ht1, ht, hkk, rfl, rfl, hh, hg, hfr, hbr, HSH⟩ := hrel
            have HG := Lib.hid hg
            by_cases hlt2 : t < l.length - k
            · obtain ⟨u, hu⟩ : ∃ u, t = u + 1 := ⟨t - 1, by omega⟩
              have hkt : k + t < l.length := by omega
              have hku : k + u < l.length := by omega
              obtain ⟨p0, p1⟩ := (show Two wr b (o + k * 2 + t * 2) l[k + t] from by have := hh.high (k + t) (by omega) (by omega); rwa [show o + (k + t) * 2 = o + k * 2 + t * 2 by omega] at this)
              obtain ⟨q0, q1⟩ := (show Two wr b (o + k * 2 + u * 2) l[k + u] from by have := hh.high (k + u) (by omega) (by omega); rwa [show o + (k + u) * 2 = o + k * 2 + u * 2 by omega] at this)
              have hkl : kk < l.length := by omega
              obtain ⟨r0, r1⟩ := hh.high kk hkl (Nat.le_refl _)
              have hw1 : IntKind.i64.wrap ((t : Int) - 1) = (u : Int) := by rw [show (t : Int) - 1 = (u : Int) by omega]; exact Go.IntWalk.i64_in _ (by omega)
              have hui : (0 : Int) ≤ (u : Int) := by omega
              have hul : u < l.length - k := by omega
              by_cases he : l[k + t] = l[k + u]
              · have d1 : (!eqRl ⟨l[k + t].o, l[k + t].n⟩ ⟨l[k + u].o, l[k + u].n⟩) = false := congrArg (!·) (decide_eq_true he)
                have HN : Hid (HalfR wr b o l (k + (t + 1)) kk) := Lib.hid (by subst hu; exact hh.same (m := k + u) hkt he.symm)
                clear he hh hg hu
                go_wp2_with fail
                go_big_quiet (fail)
                go_wp2
                exact ⟨⟨kk, t + 1, by omega, by omega, by omega, rfl, by go_num, HN.out.drewN _, grown_drewN HG.out _, hfr, hbr, Lib.hid (HSH.out.drewN _)⟩, by simp [intOf]; omega⟩
              · have d1 : (!eqRl ⟨l[k + t].o, l[k + t].n⟩ ⟨l[k + u].o, l[k + u].n⟩) = true := congrArg (!·) (decide_eq_false he)
                have HN := Lib.hid (fun n => show HalfR (W2 (wr.drewN n) b (o + kk * 2) l[k + t]) b o l (k + (t + 1)) (kk + 1) by subst hu; exact (hh.drewN n).put (m := k + u) hkt (by omega) (fun e => he e.symm))
                clear he hh hg hu
                go_wp2_with fail
                go_big_quiet (fail)
                go_wp2
                refine ⟨⟨kk + 1, t + 1, by omega, by omega, by omega, by go_num, by go_num, ?_, ?_, ?_, ?_, ?_⟩, by simp [intOf]; omega⟩
                · have h := HN.out nq
                  unfold W2 at h
                  with_reducible exact h
                · have h := grown_w9R (b := b) (a := o + kk * 2) (s := l[k + t]) (grown_drewN HG.out nq)
                  unfold W2 at h
                  with_reducible exact h
                · intro i
                  simpa using hfr i
                · simpa using hbr
                · have h := Lib.hid (sh_w9R (b := b) (a := o + kk * 2) (s := l[k + t]) (HSH.out.drewN nq))
                  unfold W2 at h
                  with_reducible exact h
            · obtain ⟨hlen, hlow⟩ := hh.all (show k + t = l.length by omega)
              have HLEN := Lib.hid hlen
              have HLOW := Lib.hid hlow
              have hkl : kk < l.length := by omega
              have hkc : kk < cap := by omega
              obtain ⟨W', hW, hclr⟩ : ∃ W', W' = wr.setCells b (o + kk * 2) (Builtin.zeroCells zeroRl.cells (l.length - kk)).toList ∧ ∀ ty, Sem.run Tryz.prog (Builtin.clear_ #[23] ty #[.slice (some ⟨b, o + kk * 2, none⟩) (l.length - kk) (cap - kk)]) wr = .ok (.tuple #[]) W' :=
                ⟨_, rfl, fun ty => run_clear2R wr _ 54 ty zeroRl Tryz.underlying23 rl_zero b (o + kk * 2) (l.length - kk) (cap - kk) (by omega) rfl (high_someR hh (by omega)) (fun j => hfr _) (zero_oneR _)⟩
              have HOUT : Hid (∀ i, i < o + kk * 2 → W'.cell? ⟨b, i, none⟩ = wr.cell? ⟨b, i, none⟩) := Lib.hid (fun i hi => by rw [hW]; exact World.cell?_setCells_out b _ _ _ _ (fun _ _ => .inl hi))
              have HFZ : Hid (∀ i, W'.frozen? ⟨b, i, none⟩ = false) := Lib.hid (fun i => by rw [hW]; exact frozen_sets _ _ _ (hfr i))
              have HGW : Hid (w.grownBy W' (some b)) := Lib.hid (by rw [hW]; exact grown_sets _ _ _ hg)
              have HSW : Hid (ShK w W' b) := Lib.hid (by rw [hW]; exact sh_sets _ _ _ HSH.out)
              clear hh hg hlen hlow hW
              go_wp2_with fail
              go_ret
              refine ⟨by rw [HLEN.out]; rfl, ?_, HGW.out, HFZ.out, HSW.out⟩
              refine two_cellsR (fun i hi => (HLOW.out i hi).drop1 (fun j h1 h2 => HOUT.out j ?_))
              have := HLEN.out
              omega
        · have HN : Hid (dedupR (l.take (k + 1)) = l.take (k + 1)) := Lib.hid (by
            have h1 := HK.out
            subst hm
            exact (dedup_moreR l m hlt (fun e => he e.symm)).trans (by rw [h1]; exact (List.take_succ_eq_append_getElem hlt).symm))
          have d1 : eqRl ⟨l[k].o, l[k].n⟩ ⟨l[m].o, l[m].n⟩ = false := decide_eq_false he
          clear he hm
          go_wp2_with fail
          go_big_quiet (fail)
          go_wp2
          exact ⟨⟨k + 1, n + nq, by omega, by omega, by go_num, rfl, HN⟩, by simp [intOf]; omega⟩
      · have HD := Lib.hid (show dedupR l = l by have := HK.out; rwa [List.take_of_length_le (by omega)] at this)
        go_wp2
        go_ret
        exact ⟨by rw [HD.out]; rfl, by rw [HD.out]; exact HX.out, ⟨rfl, rfl, rfl, Nat.le_refl _, fun _ _ _ => rfl⟩, HFF.out, ShK.refl _ _⟩
end Go.Proofs.YtnhkgfgbhedphaaGreatDoor
namespace Go.Proofs.YtnhkgfgbhedphaaGreatDoor
open Go.RowKit Go.Shelf Go.Lib Go.Sort

instance rlInh : Inhabited Rl := ⟨⟨ByteArray.empty, ByteArray.empty⟩⟩
theorem rlc_one (s : Rl) : ∀ u ∈ s.cells, u.oneCell' = true := fun u hu => rls_one [s] u (by simpa using hu)
set_option maxHeartbeats 1000000 in
theorem syn_LessG (x y : Rl) (w : World) : Calls Tryz.prog 65 #[rv x, rv y] w fun e w' => e = .returned (.bool (decide (cmpR x y < 0))) ∧ Gr w w' := by
  have O := Lib.hid (fun W => syn_orderG x y W)
  generalize cmpR x y = c at O ⊢
  obtain ⟨a, b⟩ := x
  obtain ⟨c1, d⟩ := y
  go_enter Tryz.func65, Tryz.ntmps65
  go_wp2_with (go_at_call 117; refine (O.out _).mono ?_; rintro e w1 ⟨rfl, hg⟩)
  go_ret
  exact ⟨rfl, (((Gr.refl w).alloc _).alloc _).trans hg⟩
set_option maxHeartbeats 1000000 in
theorem pol_Sort1 (s t : Rl) (w : World) : Calls Tryz.prog 64 #[rv s, rv t] w fun e w' => e = .returned (.int .i64 (cmpR s t)) ∧ Gr w w' := by
  have A1 := Lib.hid (fun W => syn_LessG s t W)
  have A2 := Lib.hid (fun W => syn_LessG t s W)
  have E1 := Lib.hid (fun (h : cmpR s t < 0) => show cmpR s t = -1 by have := sgn_rl s t; unfold sgn at this; omega)
  have E2 := Lib.hid (fun (h : cmpR t s < 0) => show cmpR s t = 1 by have := sgn_rl s t; have := wcmp_rl.neg s t; unfold sgn at *; omega)
  have E3 := Lib.hid (fun (h : ¬ cmpR s t < 0) (h' : ¬ cmpR t s < 0) => show cmpR s t = 0 by have := wcmp_rl.neg s t; omega)
  obtain ⟨h1, h2⟩ := s
  obtain ⟨h1', h2'⟩ := t
  have HG := Lib.hid (show Gr w ((w.alloc (.cells #[.string h1, .string h2] 54)).alloc (.cells #[.string h1', .string h2'] 54)) from ((Gr.refl w).alloc _).alloc _)
  generalize cmpR ⟨h1, h2⟩ ⟨h1', h2'⟩ = c at A1 E1 E2 E3 ⊢
  generalize cmpR ⟨h1', h2'⟩ ⟨h1, h2⟩ = d at A2 E2 E3
  go_enter Tryz.func64, Tryz.ntmps64
  go_wp2_with fail
  refine (A1.out _).mono ?_
  rintro e w1 ⟨rfl, hg⟩
  have HG1 := Lib.hid (HG.out.trans hg)
  obtain ⟨⟨ca, fa, za⟩, ⟨cb, fb, zb⟩⟩ := keep2 hg.below
  clear hg
  by_cases hc : c < 0
  · have dc : decide (c < 0) = true := decide_eq_true hc
    have R := Lib.hid (E1.out hc)
    rw [dc]
    clear hc
    go_wp2
    go_ret
    exact ⟨by rw [R.out]; rfl, HG1.out⟩
  · have dc : decide (c < 0) = false := decide_eq_false hc
    have HC := Lib.hid hc
    rw [dc]
    clear hc
    go_wp2_with fail
    refine (A2.out _).mono ?_
    rintro e w2 ⟨rfl, hg⟩
    have HG2 := Lib.hid (HG1.out.trans hg)
    clear hg
    by_cases hd : d < 0
    · have dd : decide (d < 0) = true := decide_eq_true hd
      have R := Lib.hid (E2.out hd)
      rw [dd]
      clear hd
      go_wp2
      go_ret
      exact ⟨by rw [R.out]; rfl, HG2.out⟩
    · have dd : decide (d < 0) = false := decide_eq_false hd
      have R := Lib.hid (E3.out (by have := HC.out; omega) (by omega))
      rw [dd]
      clear hd
      go_wp2
      go_ret
      exact ⟨by rw [R.out]; rfl, HG2.out⟩
theorem swo_stR : SWO (ltOf cmpR) where
  irrefl x := decide_eq_false (lt_irrefl'R x)
  trans x y z h h' := decide_eq_true (lt_trans'R (of_decide_eq_true h) (of_decide_eq_true h'))
  ntrans x y z h h' := by
    have h1 := of_decide_eq_false h
    have h2 := of_decide_eq_false h'
    have n1 := wcmp_rl.neg x y
    have n2 := wcmp_rl.neg y z
    have n3 := wcmp_rl.neg x z
    obtain ⟨a, _⟩ := wcmp_rl.le z y x (by omega) (by omega)
    exact decide_eq_false (by omega)
theorem tot_stR (x y : Rl) (h : ltOf cmpR x y = false) (h' : ltOf cmpR y x = false) : x = y := by
  have h1 := of_decide_eq_false h
  have h2 := of_decide_eq_false h'
  have n1 := wcmp_rl.neg x y
  exact (cmpR_zero x y).1 (by omega)
def sortSR (l : List Rl) : List Rl := l.mergeSort fun x y => !(ltOf cmpR) y x
theorem sort_leR (l : List Rl) : (sortSR l).Pairwise fun x y => cmpR x y ≤ 0 := by
  have h : (sortSR l).Pairwise fun x y => (!(ltOf cmpR) y x) = true := by
    refine List.pairwise_mergeSort ?_ ?_ l
    · intro a b c h1 h2
      simp only [Bool.not_eq_true'] at h1 h2 ⊢
      exact swo_stR.ntrans c b a h2 h1
    · intro a b
      cases h : ltOf cmpR b a with
      | false => simp
      | true => simp [swo_stR.asymmA h]
  refine h.imp fun {x y} h => ?_
  simp only [Bool.not_eq_true'] at h
  have h1 := of_decide_eq_false h
  have n1 := wcmp_rl.neg x y
  omega
theorem dedup_sortR (l : List Rl) : dedupR (sortSR l) = insAllR [] l := by
  refine asc_uniqueR _ _ (dedup_ascR _ (sort_leR l)) (insAll_ascR l [] List.Pairwise.nil) fun z => ?_
  rw [dedup_memR, insAll_memR]
  simp [sortSR]
theorem sort_lenR (l : List Rl) : (sortSR l).length = l.length := by simp [sortSR]
theorem cmpLays_stR (blk off size : Nat) (w : World) : CmpLays Tryz.prog 64 #[] Rl.cells 2 cmpR blk off size w :=
  fun _ _ _ _ x y => (pol_Sort1 x y _).mono fun _ _ ⟨he, hg⟩ => ⟨he, gr_grow hg⟩
theorem flatK_getR (l : List Rl) (j : Nat) (u : Value) (h : (l.flatMap Rl.cells)[j]? = some u) : j < l.length * 2 ∧ (flatK Rl.cells 2 l.toArray)[j]! = u := by
  have hj : j < l.length * 2 := by rw [← flat_len Rl.cells 2 Rl.cells_len l]; exact (List.getElem?_eq_some_iff.1 h).1
  refine ⟨hj, ?_⟩
  have hi : j / 2 < l.length := by omega
  have hf : j % 2 < 2 := Nat.mod_lt _ (by decide)
  rw [get_flatK _ _ _ _ (by simpa using hj)]
  have e : j = j / 2 * 2 + j % 2 := by omega
  have h' := h
  rw [e, flat_get Rl.cells 2 Rl.cells_len l (j / 2) (j % 2) hf _ (List.getElem?_eq_getElem hi)] at h'
  have e1 : l.toArray[j / 2]! = l[j / 2] := by rw [getElem!_pos l.toArray (j / 2) (by simpa using hi)]; simp
  rw [e1, List.getElem!_eq_getElem?_getD, h']
  rfl
theorem holds_stR {w : World} {b o : Nat} {l : List Rl} (hx : ∀ j u, (l.flatMap Rl.cells)[j]? = some u → w.cell? ⟨b, o + j, none⟩ = some u) (hf : ∀ i, w.frozen? ⟨b, i, none⟩ = false) : HoldsK Rl.cells 2 w b o l.toArray := by
  intro j hj
  rw [size_flatK] at hj
  have hj' : j < (l.flatMap Rl.cells).length := by rw [flat_len Rl.cells 2 Rl.cells_len]; simpa using hj
  have hu := List.getElem?_eq_getElem hj'
  refine ⟨?_, hf _⟩
  rw [hx j _ hu, ← (flatK_getR l j _ hu).2]
  rfl
theorem cells_stR {w : World} {b o : Nat} {l : List Rl} (h : HoldsK Rl.cells 2 w b o l.toArray) (j : Nat) (u : Value) (hu : (l.flatMap Rl.cells)[j]? = some u) : w.cell? ⟨b, o + j, none⟩ = some u := by
  obtain ⟨hj, he⟩ := flatK_getR l j u hu
  have := (h j (by rw [size_flatK]; simpa using hj)).1
  rw [he] at this
  exact this
theorem sort_grownR (w : World) (blk off n : Nat) (d : Array Rl) (os : Array Obj) : w.grownBy (sortWorldK Rl.cells 2 w blk off n d os) (some blk) := by
  refine ⟨rfl, rfl, rfl, ?_, fun k hk hne => ?_⟩
  · unfold sortWorldK; rw [Go.Sort.size_grow, size_putRowK]; exact Nat.le_add_right _ _
  · have hkb : ¬ blk = k := fun e => hne (by rw [e])
    show ((w.heap.modify blk _) ++ os)[k]? = w.heap[k]?
    rw [Array.getElem?_append_left (by simpa using hk)]
    simp [Array.getElem?_modify, hkb]
theorem sort_frozenR (w : World) (blk off n : Nat) (d : Array Rl) (os : Array Obj) (hb : blk < w.heap.size) (i : Nat) : (sortWorldK Rl.cells 2 w blk off n d os).frozen? ⟨blk, i, none⟩ = w.frozen? ⟨blk, i, none⟩ := by
  unfold sortWorldK
  rw [Go.Sort.frozen?_grow _ _ _ (by rw [size_putRowK]; exact hb)]
  unfold putRowK
  rw [frozen?_putRow]
  rfl
theorem st_SortFuncR (b o cap : Nat) (l : List Rl) (w : World) (hl : l.length ≤ 1000) (hb : b < w.heap.size)
    (hx : ∀ j u, (l.flatMap Rl.cells)[j]? = some u → w.cell? ⟨b, o + j, none⟩ = some u) (hf : ∀ i, w.frozen? ⟨b, i, none⟩ = false) :
    Calls Tryz.prog 63 #[.slice (some ⟨b, o, none⟩) l.length cap, .func (.func 64) #[] #[]] w fun e w' =>
      e = .returned (.tuple #[]) ∧ (∀ j u, ((sortSR l).flatMap Rl.cells)[j]? = some u → w'.cell? ⟨b, o + j, none⟩ = some u) ∧ (∀ i, w'.frozen? ⟨b, i, none⟩ = false) ∧ w.grownBy w' (some b) ∧ ShK w w' b := by
  have eg : ∀ args w, (callFunc 64 args).run Tryz.prog w = .ok (.enter 64 args) w := enters_of Tryz.func64 (by kernel_rfl) rfl
  have hH := holds_stR hx hf
  have h := AnyQ.slices_SortFunc_total (α := Rl) Tryz.sortR 2 Tryz.isAgg54 Tryz.sizeOf54 Rl.cells Rl.cells_len rlc_one cmpR swo_stR 64 #[] b o cap l.toArray w eg (cmpLays_stR b o _ w) hH hb (by simp; omega) tot_stR
  have hs : l.toArray.size = l.length := by simp
  rw [hs] at h
  refine h.mono ?_
  rintro e w' ⟨he, n, os, rfl⟩
  refine ⟨he, ?_, fun i => (sort_frozenR w b o n _ os hb i).trans (hf i), sort_grownR w b o n _ os, sh_sort _ _ _ _ _ _ _ _ _⟩
  exact cells_stR (holdsK_sortWorldK_c Rl.cells 2 w b o l.toArray _ n os hH hb (by simp))
theorem st_SortFunc_noneR (p : Option Addr) (cap : Nat) (fv : Value) (w : World) : Calls Tryz.prog 63 #[.slice p 0 cap, fv] w fun e w' => e = .returned (.tuple #[]) ∧ w' = w :=
  AnyF.slices_SortFunc_none Tryz.sortR p cap fv w
theorem st_Compact_nilR (cap : Nat) (w : World) : Calls Tryz.prog 66 #[.slice none 0 cap] w fun e w' => e = .returned (.slice none 0 cap) ∧ w' = w := by
  go_enter Tryz.func66, Tryz.ntmps66
  go_wp2
  go_ret
  exact ⟨rfl, rfl⟩
set_option maxRecDepth 100000 in
theorem st_CloneRW (va : Value) (l : List Rl) (w : World) (ha : SlA w 2 va l.length (l.flatMap Rl.cells)) (hl : l.length ≤ 1000) :
    Calls Tryz.prog 62 #[va] w fun e w' => Below w.heap.size w w' ∧ ∃ v, e = .returned v ∧ w'.ownsRow w.heap.size 54 2 v l.length (l.flatMap Rl.cells) := by
  have hmax : maxLen = 9223372036854775807 := by decide
  rcases ha with ha | ⟨⟨a, c, rfl⟩, hn, -⟩
  case inr =>
    obtain rfl : l = [] := List.eq_nil_of_length_eq_zero hn
    obtain ⟨inf, hinf, hz0, hz1, hz2⟩ := info_parts rl_info'
    have HINF := Lib.hid hinf
    have q22 : ∀ (w : World) (a : Option Addr) (n c n' c' : Nat), (binOp .eql 23 (.slice a n c) (.slice none n' c')).run Tryz.prog w = .ok (.bool a.isNone) w := fun w a n c n' c' => Lib.run_eql_slice_nil w _ _ a n c n' c' Tryz.underlying23
    clear hn hl hinf
    go_enter Tryz.func62, Tryz.ntmps62
    go_wp2_with (at_builtin; refine halt_ ?_)
    unfold Halt_
    refine app_zero _ rfl _ _ 23 rfl 54 inf Tryz.underlying23 HINF.out (some ⟨w.heap.size, 0, none⟩) 0 0 (Nat.le_refl _) rfl _ _ rfl ?_
    go_wp2
    go_ret
    exact ⟨(Below.refl _ _).alloc (Nat.le_refl _) _, _, rfl, by simp, .inr ⟨w.heap.size, 0, #[], rfl, Nat.le_refl _, heap_new1 _ _, Nat.le_refl _, by omega, by simp, by simp⟩⟩
  rcases ha.2.2 with ⟨rfl, h0⟩ | ⟨b, off, cap, rfl, hc, hm, hlt, hx⟩
  · refine (AnyE.slices_Clone_nil Tryz.cloneR 0 0 w).mono ?_
    rintro e w' ⟨rfl, rfl⟩
    exact ⟨Below.refl _ _, _, rfl, by obtain rfl : l = [] := List.eq_nil_of_length_eq_zero h0; exact World.ownsRow_nil _ _ _ _⟩
  · obtain ⟨inf, hinf, hz0, hz1, hz2⟩ := info_parts rl_info'
    refine (AnyE.slices_Clone Tryz.cloneR inf _ 2 32 hinf hz0 hz1 hz2 rfl (by decide) Tryz.sizeOf54 b off l.length cap (l.flatMap Rl.cells) w (flat_len _ _ Rl.cells_len _) ha.2.1 (by omega) hx (rls_one l)).mono ?_
    rintro e w' ⟨v', rfl, hown, hnn, hb⟩
    exact ⟨hb, v', rfl, hown⟩

set_option maxRecDepth 100000 in
set_option maxHeartbeats 4000000 in
theorem pol_SortRolesO (va : Value) (l : List Rl) (w : World) (ha : SlA w 2 va l.length (l.flatMap Rl.cells)) (hl : l.length ≤ 1000) :
    Calls Tryz.prog 27 #[va] w fun e w' => ∃ v, e = .returned v ∧ w'.ownsRow w.heap.size 54 2 v (insAllR [] l).length ((insAllR [] l).flatMap Rl.cells) ∧ Below w.heap.size w w' := by
  have hmax : maxLen = 9223372036854775807 := by decide
  have C := Lib.hid (st_CloneRW va l w ha hl)
  have F := Lib.hid (fun g cap W h1 h2 h3 => st_SortFuncR g 0 cap l W hl h1 h2 h3)
  have K := Lib.hid (fun g cap W => rl_Compact g 0 cap (sortSR l) W)
  have DS := dedup_sortR l
  have DL := dedup_lenR (sortSR l)
  rw [sort_lenR, DS] at DL
  simp only [sort_lenR, DS] at K
  clear DS ha
  go_enter Tryz.func27, Tryz.ntmps27
  go_wp2_with fail
  refine C.out.mono ?_
  rintro e w1 ⟨hb1, v1, rfl, hr⟩
  have HB1 := Lib.hid hb1
  have HOWN := Lib.hid hr
  rcases hr.2 with ⟨rfl, hr0⟩ | ⟨g, cap, cur, rfl, hwg, hgc, hlc, hcm, hcs, _⟩
  · obtain rfl : l = [] := List.eq_nil_of_length_eq_zero hr0
    clear hb1 hr hr0 HOWN
    go_wp2_with fail
    refine (st_SortFunc_noneR _ _ _ _).mono ?_
    rintro e w2 ⟨rfl, rfl⟩
    go_wp2_with fail
    refine (st_Compact_nilR _ _).mono ?_
    rintro e w2 ⟨rfl, rfl⟩
    go_wp2
    go_ret
    exact ⟨_, rfl, World.ownsRow_nil _ _ _ _, HB1.out⟩
  · have hg : g < w1.heap.size := (Array.getElem?_eq_some_iff.1 hgc).1
    rw [hmax] at hcm
    have HX := Lib.hid (show ∀ j u, (l.flatMap Rl.cells)[j]? = some u → w1.cell? ⟨g, 0 + j, none⟩ = some u from fun j u hu => by
      have := hr.cells (g := g) rfl j u hu
      rwa [addr_add] at this)
    have HF := Lib.hid (show ∀ i, w1.frozen? ⟨g, i, none⟩ = false from fun i => by simp [World.frozen?, hgc])
    have HGC := Lib.hid hgc
    have HCS := Lib.hid hcs
    clear hb1 hr hgc hcs HOWN
    go_wp2_with fail
    refine (F.out g cap _ hg HX.out HF.out).mono ?_
    rintro e w2 ⟨rfl, hx2, hf2, hg2, hs2⟩
    have HS2 := Lib.hid hs2
    clear hs2
    have HX2 := Lib.hid hx2
    have HF2 := Lib.hid hf2
    have HG2 := Lib.hid hg2
    clear hx2 hf2 hg2
    go_wp2_with fail
    refine (K.out g cap _ hl hlc hcm (Nat.lt_of_lt_of_le hg HG2.out.size) HX2.out HF2.out).mono ?_
    rintro e w3 ⟨rfl, hx3, hg3, hf3, hs3⟩
    have HS3 := Lib.hid (HS2.out.trans hs3)
    clear hs3
    have HF3 := Lib.hid hf3
    have HX3 := Lib.hid hx3
    have HG3 := Lib.hid (gb_trans HG2.out hg3)
    clear hx3 hg3 hf3
    go_wp2
    go_ret
    exact ⟨_, rfl, own_of_sh HGC.out HCS.out HS3.out hwg (by omega) (by rw [hmax]; omega) (flat_len _ _ Rl.cells_len _) HX3.out, HB1.out.grown HG3.out HB1.out.size (by rintro k ⟨⟩; exact hwg)⟩
end Go.Proofs.YtnhkgfgbhedphaaGreatDoor
namespace Go.Proofs.YtnhkgfgbhedphaaGreatDoor
open Go.RowKit Go.Shelf

theorem pairwise_adj {α : Type} {c : α → α → Int} (ht : ∀ x y z, c x y < 0 → c y z < 0 → c x z < 0) {l : List α} (h : ∀ i (hi : i + 1 < l.length), c l[i] l[i + 1] < 0) : l.Pairwise (fun x y => c x y < 0) := by
  rw [List.pairwise_iff_getElem]
  have key : ∀ d i (hi : i + d + 1 < l.length), c l[i] l[i + d + 1] < 0 := by
    intro d
    induction d with
    | zero => intro i hi; exact h i hi
    | succ d ih => intro i hi; exact ht _ _ _ (ih i (by omega)) (h (i + d + 1) hi)
  intro i j hi hj hij
  obtain ⟨d, rfl⟩ : ∃ d, j = i + d + 1 := ⟨j - i - 1, by omega⟩
  exact key d i hj
def okR (l : List Rl) (i : Nat) : Bool := isRole (l.getD i noR) && (decide (i = 0) || decide (cmpR (l.getD (i - 1) noR) (l.getD i noR) < 0))
def sortedR (l : List Rl) : Bool := (List.range l.length).all (okR l)
theorem getD_in {α : Type} {l : List α} {i : Nat} {d : α} (h : i < l.length) : l.getD i d = l[i] := by rw [List.getD_eq_getElem?_getD, List.getElem?_eq_getElem h]; rfl
theorem sortedR_iff {l : List Rl} : sortedR l = true ↔ (∀ x ∈ l, isRole x = true) ∧ l = insAllR [] l := by
  unfold sortedR
  rw [List.all_eq_true]
  constructor
  · intro h
    have h' : ∀ i (hi : i < l.length), isRole l[i] = true ∧ (i = 0 ∨ cmpR (l.getD (i - 1) noR) l[i] < 0) := by
      intro i hi
      have := h i (List.mem_range.2 hi)
      unfold okR at this
      rw [getD_in hi, Bool.and_eq_true, Bool.or_eq_true, decide_eq_true_iff, decide_eq_true_iff] at this
      exact this
    refine ⟨fun x hx => ?_, ?_⟩
    · obtain ⟨i, hi, rfl⟩ := List.getElem_of_mem hx
      exact (h' i hi).1
    · refine (asc_ordR (pairwise_adj (c := cmpR) (fun _ _ _ => lt_trans'R) (fun i hi => ?_))).symm
      rcases (h' (i + 1) hi).2 with h0 | h0
      · omega
      · rw [show i + 1 - 1 = i by omega, getD_in (show i < l.length by omega)] at h0
        exact h0
  · rintro ⟨h1, h2⟩ i hi
    have hi' := List.mem_range.1 hi
    unfold okR
    rw [getD_in hi', h1 _ (List.getElem_mem hi'), Bool.true_and, Bool.or_eq_true, decide_eq_true_iff, decide_eq_true_iff]
    by_cases h0 : i = 0
    · exact .inl h0
    · refine .inr ?_
      have ha : AscR l := by rw [h2]; exact ord_ascR l
      rw [getD_in (show i - 1 < l.length by omega)]
      exact List.pairwise_iff_getElem.1 ha (i - 1) i (by omega) hi' (by omega)
def okS (l : List St) (i : Nat) : Bool := rightS (l.getD i noS) && (decide (i = 0) || decide (cmpSt (l.getD (i - 1) noS) (l.getD i noS) < 0))
def sortedS (l : List St) : Bool := (List.range l.length).all (okS l)
theorem lt_transSt {x y z : St} (h : cmpSt x y < 0) (h' : cmpSt y z < 0) : cmpSt x z < 0 := by
  have := wcmp_st.le x y z (by omega) (by omega)
  omega
theorem sortedS_iff {l : List St} : sortedS l = true ↔ (∀ x ∈ l, rightS x = true) ∧ l = insAll [] l := by
  unfold sortedS
  rw [List.all_eq_true]
  constructor
  · intro h
    have h' : ∀ i (hi : i < l.length), rightS l[i] = true ∧ (i = 0 ∨ cmpSt (l.getD (i - 1) noS) l[i] < 0) := by
      intro i hi
      have := h i (List.mem_range.2 hi)
      unfold okS at this
      rw [getD_in hi, Bool.and_eq_true, Bool.or_eq_true, decide_eq_true_iff, decide_eq_true_iff] at this
      exact this
    refine ⟨fun x hx => ?_, ?_⟩
    · obtain ⟨i, hi, rfl⟩ := List.getElem_of_mem hx
      exact (h' i hi).1
    · refine (asc_ord (pairwise_adj (c := cmpSt) (fun _ _ _ => lt_transSt) (fun i hi => ?_))).symm
      rcases (h' (i + 1) hi).2 with h0 | h0
      · omega
      · rw [show i + 1 - 1 = i by omega, getD_in (show i < l.length by omega)] at h0
        exact h0
  · rintro ⟨h1, h2⟩ i hi
    have hi' := List.mem_range.1 hi
    unfold okS
    rw [getD_in hi', h1 _ (List.getElem_mem hi'), Bool.true_and, Bool.or_eq_true, decide_eq_true_iff, decide_eq_true_iff]
    by_cases h0 : i = 0
    · exact .inl h0
    · refine .inr ?_
      have ha : Asc l := by rw [h2]; exact ord_asc l
      rw [getD_in (show i - 1 < l.length by omega)]
      exact List.pairwise_iff_getElem.1 ha (i - 1) i (by omega) hi' (by omega)
theorem all_range_no {f : Nat → Bool} {n k : Nat} (hk : k < n) (h : f k = false) : (List.range n).all f = false := by
  rw [List.all_eq_false]
  exact ⟨k, List.mem_range.2 hk, by rw [h]; exact Bool.false_ne_true⟩
theorem all_range_yes {f : Nat → Bool} {n k : Nat} (hk : ¬ k < n) (h : ∀ j, j < k → f j = true) : (List.range n).all f = true := by
  rw [List.all_eq_true]
  intro j hj
  exact h j (by have := List.mem_range.1 hj; omega)
structure RdAt2 (w0 w : World) (A : Array Value) (wx : World) : Prop where
  a : Blk wx w.heap.size A
  low : Below w.heap.size w wx
  low0 : Below w0.heap.size w0 wx
theorem RdAt2.later {w0 w wx w' : World} {A : Array Value} (h : RdAt2 w0 w A wx) (hb : Below wx.heap.size wx w') : RdAt2 w0 w A w' := ⟨h.a.below hb, h.low.trans (hb.mono h.low.size), h.low0.trans (hb.mono h.low0.size)⟩
theorem RdAt2.drew {w0 w wx : World} {A : Array Value} (h : RdAt2 w0 w A wx) : RdAt2 w0 w A wx.drew := h.later (below_drew (Below.refl _ _))
theorem syn_LessB (x y : Rl) (w : World) : Calls Tryz.prog 65 #[rv x, rv y] w fun e w' => e = .returned (.bool (decide (cmpR x y < 0))) ∧ Below w.heap.size w w' := syn_Less x y w
theorem syn_OrderB (s t : St) (w : World) : Calls Tryz.prog 76 #[sv s, sv t] w fun e w' => e = .returned (.int .i64 (cmpSt s t)) ∧ Below w.heap.size w w' := (syn_Order s t w).mono fun _ _ ⟨he, hg⟩ => ⟨he, hg.below⟩
set_option maxRecDepth 100000 in
set_option maxHeartbeats 4000000 in
theorem policy_sorted (v : Value) (l : List Rl) (w : World) (ha : SlA w 2 v l.length (l.flatMap Rl.cells)) (hle : ∀ x ∈ l, x.le 4294967) : Calls Tryz.prog 79 #[v] w fun e w' => e = .returned (.bool (sortedR l)) ∧ Below w.heap.size w w' := by
  have HA := Lib.hid ha
  have HLE := Lib.hid hle
  have hmax := ha.max
  obtain ⟨ao, ac, rfl⟩ := ha.form
  clear ha hle
  have RY := Lib.hid (fun k (hk : ¬ k < l.length) (h : ∀ j, j < k → okR l j = true) => show sortedR l = true from all_range_yes hk h)
  have RN := Lib.hid (fun k (hk : k < l.length) (h : okR l k = false) => show sortedR l = false from all_range_no hk h)
  generalize sortedR l = res at RY RN ⊢
  go_enter Tryz.func79, Tryz.ntmps79
  go_wp2_with fail
  go_loopw [7] (fun i wr => ∃ k : Nat, k ≤ l.length ∧ i = .int .i64 k ∧ Hid (Below w.heap.size w wr) ∧ Hid (∀ j, j < k → okR l j = true)) (fun i _ => l.length - (intOf i).toNat)
  case atStart => exact ⟨0, by omega, rfl, Lib.hid (Below.refl _ _), Lib.hid (fun j h => absurd h (by omega))⟩
  case round =>
    obtain ⟨k, hk, rfl, HB, HJ⟩ := hrel
    by_cases hlt : k < l.length
    · obtain ⟨b1, o1, c1, he1, hc1, hm1, hb1, hx1⟩ := HA.out.pos (by omega)
      simp only [Value.slice.injEq, true_and] at he1
      obtain ⟨rfl, rfl⟩ := he1
      have HXW := Lib.hid (fun j u hu => (HB.out.cell (p := ⟨b1, o1 + j, none⟩) hb1).trans (hx1 j u hu))
      obtain ⟨p0, p1⟩ := rl_cell (w := wr) HXW.out k hlt
      have hbr : b1 < wr.heap.size := Nat.lt_of_lt_of_le hb1 HB.out.size
      have IR := Lib.hid (fun W => syn_IsRole l[k] W (HLE.out _ (List.getElem_mem hlt)))
      have HOK := Lib.hid (show okR l k = (isRole l[k] && (decide (k = 0) || decide (cmpR (l.getD (k - 1) noR) l[k] < 0))) by unfold okR; rw [getD_in hlt])
      have HJS : Hid (okR l k = true → ∀ j, j < k + 1 → okR l j = true) := Lib.hid (fun h j hj => by
        by_cases e : j = k
        · rw [e]; exact h
        · exact HJ.out j (by omega))
      have HNO := Lib.hid (fun (h : okR l k = false) => RN.out k hlt h)
      have HT1 := Lib.hid (show RdAt2 wr wr #[.string l[k].o, .string l[k].n] (wr.alloc (.cells #[.string l[k].o, .string l[k].n] 54)) from ⟨Blk.new _ _ _, (Below.refl _ _).alloc (Nat.le_refl _) _, (Below.refl _ _).alloc (Nat.le_refl _) _⟩)
      clear hx1
      generalize isRole l[k] = ri at IR HOK
      by_cases hk0 : k = 0
      · have dk : decide (0 < k) = false := by (rw [decide_eq_false_iff_not]; omega)
        rw [decide_eq_true hk0, Bool.true_or, Bool.and_true] at HOK
        clear hk0
        generalize l[k] = x at *
        obtain ⟨x1, x2⟩ := x
        cases ri with
        | false =>
          have R := Lib.hid (HNO.out HOK.out)
          go_wp2_with fail
          refine wp_region_held_drew (S := (fun W => ∀ o, W.cell? ⟨wr.heap.size, o, none⟩ = (#[.string x1, .string x2] : Array Value)[o]?)) (by kernel_rfl) HT1.out.drew.a.1 (fun hHeld => ?_)
          have HT := HT1.out.drew
          obtain ⟨wk, hwk⟩ : ∃ W, W = (wr.alloc (.cells #[.string x1, .string x2] 54)).drew := ⟨_, rfl⟩
          rw [← hwk] at HT hHeld ⊢
          clear hwk
          (refine hyes 0 ?_); (try simp only [Act.put, List.setIfInBounds_toArray, List.set])
          (refine held_call 1 rfl (by kernel_rfl) (fun K hK => ?_); go_simp)
          go_at_call 102; refine (IR.out _).mono ?_; rintro e wz1 ⟨rfl, hbq⟩
          have HT := HT.later hbq
          clear hbq
          (refine hK.out _ _ (HT.a.1) (fun hHeld => ?_); clear hK K; (try simp only [Act.put, List.setIfInBounds_toArray, List.set]))
          (refine hyes 2 ?_); (refine hyes 3 ?_); (try simp only [Act.put, List.setIfInBounds_toArray, List.set])
          (refine hno 4 ?_); (try simp only [Act.put, List.setIfInBounds_toArray, List.set])
          (refine hno 5 ?_); (try simp only [Act.put, List.setIfInBounds_toArray, List.set])
          (refine hno 6 ?_); (try simp only [Act.put, List.setIfInBounds_toArray, List.set])
          (refine hno 7 ?_); (refine hno 8 ?_); (refine hno 12 ?_); (try simp only [Act.put, List.setIfInBounds_toArray, List.set])
          (refine hno 9 ?_); (try simp only [Act.put, List.setIfInBounds_toArray, List.set])
          (refine hno 10 ?_); (try simp only [Act.put, List.setIfInBounds_toArray, List.set])
          (refine hno 11 ?_); (try simp only [Act.put, List.setIfInBounds_toArray, List.set])
          (refine hno 13 ?_); (try simp only [Act.put, List.setIfInBounds_toArray, List.set])
          (refine hno 14 ?_); (try simp only [Act.put, List.setIfInBounds_toArray, List.set])
          (refine hno 15 ?_); (try simp only [Act.put, List.setIfInBounds_toArray, List.set])
          (refine hyes 16 ?_); (try simp only [Act.put, List.setIfInBounds_toArray, List.set])
          refine wpAnyH_done (by kernel_rfl) ?_ _
          have HTr := Lib.hid HT
          clear HT
          go_wp2_with fail
          go_ret
          exact ⟨ret_b R.out.symm, HB.out.trans (HTr.out.low.mono HB.out.size)⟩
        | true =>
          have HS := Lib.hid (HJS.out HOK.out)
          go_wp2_with fail
          refine wp_region_held_drew (S := (fun W => ∀ o, W.cell? ⟨wr.heap.size, o, none⟩ = (#[.string x1, .string x2] : Array Value)[o]?)) (by kernel_rfl) HT1.out.drew.a.1 (fun hHeld => ?_)
          have HT := HT1.out.drew
          obtain ⟨wk, hwk⟩ : ∃ W, W = (wr.alloc (.cells #[.string x1, .string x2] 54)).drew := ⟨_, rfl⟩
          rw [← hwk] at HT hHeld ⊢
          clear hwk
          (refine hyes 0 ?_); (try simp only [Act.put, List.setIfInBounds_toArray, List.set])
          (refine held_call 1 rfl (by kernel_rfl) (fun K hK => ?_); go_simp)
          go_at_call 102; refine (IR.out _).mono ?_; rintro e wz1 ⟨rfl, hbq⟩
          have HT := HT.later hbq
          clear hbq
          (refine hK.out _ _ (HT.a.1) (fun hHeld => ?_); clear hK K; (try simp only [Act.put, List.setIfInBounds_toArray, List.set]))
          (refine hyes 2 ?_); (refine hyes 3 ?_); (refine hyes 4 ?_); (refine hyes 5 ?_); (refine hyes 6 ?_); (try simp only [Act.put, List.setIfInBounds_toArray, List.set])
          (refine hno 7 ?_); (refine hno 8 ?_); (refine hno 12 ?_); (try simp only [Act.put, List.setIfInBounds_toArray, List.set])
          (refine hno 9 ?_); (try simp only [Act.put, List.setIfInBounds_toArray, List.set])
          (refine hno 10 ?_); (try simp only [Act.put, List.setIfInBounds_toArray, List.set])
          (refine hno 11 ?_); (try simp only [Act.put, List.setIfInBounds_toArray, List.set])
          (refine hno 13 ?_); (try simp only [Act.put, List.setIfInBounds_toArray, List.set])
          (refine hno 14 ?_); (try simp only [Act.put, List.setIfInBounds_toArray, List.set])
          (refine hyes 15 ?_); (refine hyes 16 ?_); (try simp only [Act.put, List.setIfInBounds_toArray, List.set])
          refine wpAnyH_done (by kernel_rfl) ?_ _
          have HTr := Lib.hid HT
          clear HT
          go_wp2_with fail
          exact ⟨⟨k + 1, by omega, by go_num, Lib.hid (HB.out.trans (HTr.out.low.mono HB.out.size)), HS⟩, by simp [intOf]; omega⟩
      · obtain ⟨m, hm⟩ : ∃ m, k = m + 1 := ⟨k - 1, by omega⟩
        have dk : decide (0 < k) = true := by (rw [decide_eq_true_iff]; omega)
        have hw1 : IntKind.i64.wrap ((k : Int) - 1) = (m : Int) := by rw [show (k : Int) - 1 = (m : Int) by omega]; exact Go.IntWalk.i64_in _ (by omega)
        have hml : m < l.length := by omega
        have hmi : (0 : Int) ≤ (m : Int) := by omega
        obtain ⟨q0, q1⟩ := rl_cell (w := wr) HXW.out m hml
        rw [decide_eq_false hk0, Bool.false_or, show k - 1 = m by omega, getD_in hml] at HOK
        have LS := Lib.hid (fun W => syn_LessB l[m] l[k] W)
        generalize hcm : decide (cmpR l[m] l[k] < 0) = cm at *
        clear hcm hk0 hm
        generalize l[k] = x at *
        obtain ⟨x1, x2⟩ := x
        generalize l[m] = y at *
        obtain ⟨y1, y2⟩ := y
        cases ri with
        | false =>
          have R := Lib.hid (HNO.out (by rw [HOK.out]; rfl))
          go_wp2_with fail
          refine wp_region_held_drew (S := (fun W => ∀ o, W.cell? ⟨wr.heap.size, o, none⟩ = (#[.string x1, .string x2] : Array Value)[o]?)) (by kernel_rfl) HT1.out.drew.a.1 (fun hHeld => ?_)
          have HT := HT1.out.drew
          obtain ⟨wk, hwk⟩ : ∃ W, W = (wr.alloc (.cells #[.string x1, .string x2] 54)).drew := ⟨_, rfl⟩
          rw [← hwk] at HT hHeld ⊢
          clear hwk
          (refine hyes 0 ?_); (try simp only [Act.put, List.setIfInBounds_toArray, List.set])
          (refine held_call 1 rfl (by kernel_rfl) (fun K hK => ?_); go_simp)
          go_at_call 102; refine (IR.out _).mono ?_; rintro e wz1 ⟨rfl, hbq⟩
          have HT := HT.later hbq
          clear hbq
          (refine hK.out _ _ (HT.a.1) (fun hHeld => ?_); clear hK K; (try simp only [Act.put, List.setIfInBounds_toArray, List.set]))
          (refine hyes 2 ?_); (refine hyes 3 ?_); (try simp only [Act.put, List.setIfInBounds_toArray, List.set])
          (refine hno 4 ?_); (try simp only [Act.put, List.setIfInBounds_toArray, List.set])
          (refine hno 5 ?_); (try simp only [Act.put, List.setIfInBounds_toArray, List.set])
          (refine hno 6 ?_); (try simp only [Act.put, List.setIfInBounds_toArray, List.set])
          (refine hno 7 ?_); (refine hno 8 ?_); (refine hno 12 ?_); (try simp only [Act.put, List.setIfInBounds_toArray, List.set])
          (refine hno 9 ?_); (try simp only [Act.put, List.setIfInBounds_toArray, List.set])
          (refine hno 10 ?_); (try simp only [Act.put, List.setIfInBounds_toArray, List.set])
          (refine hno 11 ?_); (try simp only [Act.put, List.setIfInBounds_toArray, List.set])
          (refine hno 13 ?_); (try simp only [Act.put, List.setIfInBounds_toArray, List.set])
          (refine hno 14 ?_); (try simp only [Act.put, List.setIfInBounds_toArray, List.set])
          (refine hno 15 ?_); (try simp only [Act.put, List.setIfInBounds_toArray, List.set])
          (refine hyes 16 ?_); (try simp only [Act.put, List.setIfInBounds_toArray, List.set])
          refine wpAnyH_done (by kernel_rfl) ?_ _
          have HTr := Lib.hid HT
          clear HT
          go_wp2_with fail
          go_ret
          exact ⟨ret_b R.out.symm, HB.out.trans (HTr.out.low.mono HB.out.size)⟩
        | true =>
          cases cm with
          | false =>
            have R := Lib.hid (HNO.out (by rw [HOK.out]; rfl))
            go_wp2_with fail
            refine wp_region_held_drew (S := (fun W => (∀ o, W.cell? ⟨wr.heap.size, o, none⟩ = (#[.string x1, .string x2] : Array Value)[o]?) ∧ W.cell? ⟨b1, o1 + m * 2, none⟩ = some (.string y1) ∧ W.cell? ⟨b1, o1 + m * 2 + 1, none⟩ = some (.string y2))) (by kernel_rfl) ⟨HT1.out.drew.a.1, (HT1.out.drew.low0.cell (p := ⟨b1, o1 + m * 2, none⟩) hbr).trans q0, (HT1.out.drew.low0.cell (p := ⟨b1, o1 + m * 2 + 1, none⟩) hbr).trans q1⟩ (fun hHeld => ?_)
            have HT := HT1.out.drew
            obtain ⟨wk, hwk⟩ : ∃ W, W = (wr.alloc (.cells #[.string x1, .string x2] 54)).drew := ⟨_, rfl⟩
            rw [← hwk] at HT hHeld ⊢
            clear hwk
            (refine hyes 0 ?_); (try simp only [Act.put, List.setIfInBounds_toArray, List.set])
            (refine held_call 1 rfl (by kernel_rfl) (fun K hK => ?_); go_simp)
            go_at_call 102; refine (IR.out _).mono ?_; rintro e wz1 ⟨rfl, hbq⟩
            have HT := HT.later hbq
            clear hbq
            (refine hK.out _ _ (⟨HT.a.1, (HT.low0.cell (p := ⟨b1, o1 + m * 2, none⟩) hbr).trans q0, (HT.low0.cell (p := ⟨b1, o1 + m * 2 + 1, none⟩) hbr).trans q1⟩) (fun hHeld => ?_); clear hK K; (try simp only [Act.put, List.setIfInBounds_toArray, List.set]))
            (refine hyes 2 ?_); (refine hyes 3 ?_); (refine hyes 4 ?_); (refine hyes 5 ?_); (refine hyes 6 ?_); (refine hyes 7 ?_); (refine hyes 8 ?_); (refine hyes 9 ?_); (refine hyes 10 ?_); (refine hyes 11 ?_); (refine hyes 12 ?_); (try simp only [Act.put, List.setIfInBounds_toArray, List.set])
            (refine held_call 13 rfl (by kernel_rfl) (fun K hK => ?_); go_simp)
            go_at_call 65; refine (LS.out _).mono ?_; rintro e wz13 ⟨rfl, hbq⟩
            have HT := HT.later hbq
            clear hbq
            (refine hK.out _ _ (⟨HT.a.1, (HT.low0.cell (p := ⟨b1, o1 + m * 2, none⟩) hbr).trans q0, (HT.low0.cell (p := ⟨b1, o1 + m * 2 + 1, none⟩) hbr).trans q1⟩) (fun hHeld => ?_); clear hK K; (try simp only [Act.put, List.setIfInBounds_toArray, List.set]))
            (refine hyes 14 ?_); (refine hyes 15 ?_); (refine hyes 16 ?_); (try simp only [Act.put, List.setIfInBounds_toArray, List.set])
            refine wpAnyH_done (by kernel_rfl) ?_ _
            have HTr := Lib.hid HT
            clear HT
            go_wp2_with fail
            go_ret
            exact ⟨ret_b R.out.symm, HB.out.trans (HTr.out.low.mono HB.out.size)⟩
          | true =>
            have HS := Lib.hid (HJS.out (by rw [HOK.out]; rfl))
            go_wp2_with fail
            refine wp_region_held_drew (S := (fun W => (∀ o, W.cell? ⟨wr.heap.size, o, none⟩ = (#[.string x1, .string x2] : Array Value)[o]?) ∧ W.cell? ⟨b1, o1 + m * 2, none⟩ = some (.string y1) ∧ W.cell? ⟨b1, o1 + m * 2 + 1, none⟩ = some (.string y2))) (by kernel_rfl) ⟨HT1.out.drew.a.1, (HT1.out.drew.low0.cell (p := ⟨b1, o1 + m * 2, none⟩) hbr).trans q0, (HT1.out.drew.low0.cell (p := ⟨b1, o1 + m * 2 + 1, none⟩) hbr).trans q1⟩ (fun hHeld => ?_)
            have HT := HT1.out.drew
            obtain ⟨wk, hwk⟩ : ∃ W, W = (wr.alloc (.cells #[.string x1, .string x2] 54)).drew := ⟨_, rfl⟩
            rw [← hwk] at HT hHeld ⊢
            clear hwk
            (refine hyes 0 ?_); (try simp only [Act.put, List.setIfInBounds_toArray, List.set])
            (refine held_call 1 rfl (by kernel_rfl) (fun K hK => ?_); go_simp)
            go_at_call 102; refine (IR.out _).mono ?_; rintro e wz1 ⟨rfl, hbq⟩
            have HT := HT.later hbq
            clear hbq
            (refine hK.out _ _ (⟨HT.a.1, (HT.low0.cell (p := ⟨b1, o1 + m * 2, none⟩) hbr).trans q0, (HT.low0.cell (p := ⟨b1, o1 + m * 2 + 1, none⟩) hbr).trans q1⟩) (fun hHeld => ?_); clear hK K; (try simp only [Act.put, List.setIfInBounds_toArray, List.set]))
            (refine hyes 2 ?_); (refine hyes 3 ?_); (refine hyes 4 ?_); (refine hyes 5 ?_); (refine hyes 6 ?_); (refine hyes 7 ?_); (refine hyes 8 ?_); (refine hyes 9 ?_); (refine hyes 10 ?_); (refine hyes 11 ?_); (refine hyes 12 ?_); (try simp only [Act.put, List.setIfInBounds_toArray, List.set])
            (refine held_call 13 rfl (by kernel_rfl) (fun K hK => ?_); go_simp)
            go_at_call 65; refine (LS.out _).mono ?_; rintro e wz13 ⟨rfl, hbq⟩
            have HT := HT.later hbq
            clear hbq
            (refine hK.out _ _ (⟨HT.a.1, (HT.low0.cell (p := ⟨b1, o1 + m * 2, none⟩) hbr).trans q0, (HT.low0.cell (p := ⟨b1, o1 + m * 2 + 1, none⟩) hbr).trans q1⟩) (fun hHeld => ?_); clear hK K; (try simp only [Act.put, List.setIfInBounds_toArray, List.set]))
            (refine hyes 14 ?_); (refine hyes 15 ?_); (refine hyes 16 ?_); (try simp only [Act.put, List.setIfInBounds_toArray, List.set])
            refine wpAnyH_done (by kernel_rfl) ?_ _
            have HTr := Lib.hid HT
            clear HT
            go_wp2_with fail
            exact ⟨⟨k + 1, by omega, by go_num, Lib.hid (HB.out.trans (HTr.out.low.mono HB.out.size)), HS⟩, by simp [intOf]; omega⟩
    · have R := Lib.hid (RY.out k hlt HJ.out)
      go_wp2_with fail
      go_ret
      exact ⟨ret_b R.out.symm, HB.out⟩
theorem rightP_iff {l : List St} {g h : List Rl} {qs : List Qv} {F : Qv → List ByteArray} : RightP l g h qs F ↔ sortedS l = true ∧ sortedR g = true ∧ sortedR h = true ∧ qs.any (fun q => !rightQ q (F q)) = false ∧ fitsP l g h qs F = true := by
  unfold RightP
  rw [sortedS_iff, sortedR_iff, sortedR_iff, List.any_eq_false]
  constructor
  · rintro ⟨h1, h2, h3, h4, h5, h6, h7⟩
    exact ⟨⟨h1, h4⟩, ⟨fun x hx => h2 x (List.mem_append.2 (.inl hx)), h5⟩, ⟨fun x hx => h2 x (List.mem_append.2 (.inr hx)), h6⟩, fun q hq => by rw [h3 q hq]; exact Bool.false_ne_true, h7⟩
  · rintro ⟨⟨h1, h4⟩, ⟨h2, h5⟩, ⟨h2', h6⟩, h3, h7⟩
    refine ⟨h1, fun x hx => (List.mem_append.1 hx).elim (h2 x) (h2' x), fun q hq => ?_, h4, h5, h6, h7⟩
    have := h3 q hq
    cases hr : rightQ q (F q) with
    | true => rfl
    | false => rw [hr] at this; exact absurd rfl this
set_option maxRecDepth 100000 in
set_option maxHeartbeats 4000000 in
theorem policy_FitsL (v0 v1 v2 v3 : Value) (l : List St) (g h : List Rl) (qs : List Qv) (w : World) (hp : PolAt w v0 v1 v2 v3 l g h qs) (hl : l.length ≤ 80) (hg : g.length ≤ 40) (hh : h.length ≤ 40) (hq : qs.length ≤ 100) (F : Qv → List ByteArray) (hF : WhoF w qs F) :
    Calls Tryz.prog 33 #[pv v0 v1 v2 v3] w fun e w' => e = .returned (.bool (fitsP l g h qs F)) ∧ Below w.heap.size w w' := by
  have PR := Lib.hid (fun W (hb : Below w.heap.size w W) => policy_Prins v0 v1 v2 v3 l g h qs W (hp.below hb) (by omega) (by omega) (by omega) hq F (hF.below hb))
  have NA := Lib.hid (fun W (hb : Below w.heap.size w W) => policy_Names v0 v1 v2 v3 l g h qs W (hp.below hb) (by omega) (by omega) (by omega) hq)
  have RES := Lib.hid (show fitsP l g h qs F = (decide (qs.length ≤ 16) && (decide ((newB (allPrins l g h qs F)).length ≤ 16) && decide ((newB (allNames l g h qs)).length ≤ 12))) from rfl)
  generalize fitsP l g h qs F = res at RES ⊢
  generalize newB (allPrins l g h qs F) = PS at *
  generalize newB (allNames l g h qs) = NS at *
  obtain ⟨a0, c0, rfl⟩ := hp.rs.form
  obtain ⟨a1, c1, rfl⟩ := hp.rg.form
  obtain ⟨a2, c2, rfl⟩ := hp.rh.form
  obtain ⟨a3, c3, rfl⟩ := hp.rq.form
  have HT := Lib.hid (show OneAt w #[.slice a0 l.length c0, .slice a1 g.length c1, .slice a2 h.length c2, .slice a3 qs.length c3] (w.alloc (.cells #[.slice a0 l.length c0, .slice a1 g.length c1, .slice a2 h.length c2, .slice a3 qs.length c3] 26)) from ⟨Blk.new w _ _, (Below.refl _ _).alloc (Nat.le_refl _) _⟩)
  have d0 : decide ((l.length : Int) ≤ 80) = true := decide_eq_true (by omega)
  have d1 : decide ((g.length : Int) ≤ 40) = true := decide_eq_true (by omega)
  have d2 : decide ((h.length : Int) ≤ 40) = true := decide_eq_true (by omega)
  clear hp hF
  go_enter Tryz.func33, Tryz.ntmps33
  by_cases t3 : qs.length ≤ 16
  · have d3 : decide ((qs.length : Int) ≤ 16) = true := decide_eq_true (by omega)
    rw [decide_eq_true t3, Bool.true_and] at RES
    go_wp2_with fail
    refine (PR.out _ HT.out.low).mono ?_
    rintro e w1 ⟨vp, rfl, ho1, _, hb1⟩
    obtain ⟨pa, pc, rfl⟩ := own_form ho1
    have HT := Lib.hid (HT.out.later hb1)
    clear ho1 hb1 PR
    by_cases t6 : PS.length ≤ 16
    · have d6 : decide ((PS.length : Int) ≤ 16) = true := decide_eq_true (by omega)
      rw [decide_eq_true t6, Bool.true_and] at RES
      obtain ⟨ca, fa, za⟩ := HT.out.a
      go_wp2_with fail
      refine (NA.out _ HT.out.low).mono ?_
      rintro e w2 ⟨vn, rfl, ho2, _, hb2⟩
      obtain ⟨na, nc, rfl⟩ := own_form ho2
      have HT := Lib.hid (HT.out.later hb2)
      clear ho2 hb2 NA ca fa za
      by_cases t7 : NS.length ≤ 12
      · have d7 : decide ((NS.length : Int) ≤ 12) = true := decide_eq_true (by omega)
        have R := Lib.hid (show res = true by rw [RES.out, decide_eq_true t7])
        go_wp2_with fail
        go_ret
        exact ⟨ret_b R.out.symm, HT.out.low⟩
      · have d7 : decide ((NS.length : Int) ≤ 12) = false := decide_eq_false (by omega)
        have R := Lib.hid (show res = false by rw [RES.out, decide_eq_false t7])
        go_wp2_with fail
        go_ret
        exact ⟨ret_b R.out.symm, HT.out.low⟩
    · have d6 : decide ((PS.length : Int) ≤ 16) = false := decide_eq_false (by omega)
      have R := Lib.hid (show res = false by rw [RES.out, decide_eq_false t6]; rfl)
      go_wp2_with fail
      go_ret
      exact ⟨ret_b R.out.symm, HT.out.low⟩
  · have d3 : decide ((qs.length : Int) ≤ 16) = false := decide_eq_false (by omega)
    have R := Lib.hid (show res = false by rw [RES.out, decide_eq_false t3]; rfl)
    go_wp2_with fail
    go_ret
    exact ⟨ret_b R.out.symm, HT.out.low⟩
set_option maxHeartbeats 1000000 in
theorem policy_Right1 (q : Qv) (us : List ByteArray) (w : World) (hla : q.a.le 4294967) (hlb : q.b.le 4294967) (hu1 : SlA w 1 q.w us.length (strs us)) (hu3 : ∀ s ∈ us, s.size ≤ 9223372036854775807) : Calls Tryz.prog 77 #[qv q] w fun e w' => e = .returned (.bool (!rightQ q us)) ∧ Below w.heap.size w w' := by
  have QR := Lib.hid (fun W (hb : Below w.heap.size w W) => query_RightL q us W hla hlb (hu1.below hb) hu3)
  generalize rightQ q us = r at *
  obtain ⟨xk, ⟨x1, x2⟩, ⟨x3, x4⟩, wv⟩ := q
  obtain ⟨wo, wc, hwv⟩ := hu1.form
  dsimp only at hwv
  subst hwv
  have HB := Lib.hid ((Below.refl _ w).alloc (Nat.le_refl _) (.cells #[.int .i64 xk, .string x1, .string x2, .string x3, .string x4, .slice wo us.length wc] 66))
  clear hu1
  go_enter Tryz.func77, Tryz.ntmps77
  go_wp2_with fail
  refine (QR.out _ HB.out).mono ?_
  rintro e w1 ⟨rfl, hb1⟩
  have HB1 := Lib.hid (HB.out.trans (hb1.mono HB.out.size))
  clear hb1
  go_wp2
  go_ret
  exact ⟨rfl, HB1.out⟩
set_option maxRecDepth 100000 in
set_option maxHeartbeats 8000000 in
theorem policy_RightL (v0 v1 v2 v3 : Value) (l : List St) (g h : List Rl) (qs : List Qv) (w : World) (hp : PolAt w v0 v1 v2 v3 l g h qs) (hl : l.length ≤ 80) (hg : g.length ≤ 40) (hh : h.length ≤ 40) (hq : qs.length ≤ 100) (hl4 : allLe l 4294967) (hgh : ∀ x ∈ g ++ h, x.le 4294967) (hqr : ∀ q ∈ qs, q.a.le 4294967 ∧ q.b.le 4294967)
    (F : Qv → List ByteArray) (hF : WhoF w qs F) (hFs : ∀ q ∈ qs, ∀ s ∈ F q, s.size ≤ 9223372036854775807) :
    Calls Tryz.prog 31 #[pv v0 v1 v2 v3] w fun e w' => RightI l g h qs F e ∧ Below w.heap.size w w' := by
  have eg : ∀ args w, (callFunc 77 args).run Tryz.prog w = .ok (.enter 77 args) w := enters_of Tryz.func77 (by kernel_rfl) rfl
  have FI := Lib.hid (fun W (hb : Below w.heap.size w W) => policy_FitsL v0 v1 v2 v3 l g h qs W (hp.below hb) hl hg hh hq F (hF.below hb))
  have SG := Lib.hid (fun W (hb : Below w.heap.size w W) => policy_sorted v1 g W (hp.rg.below hb) (fun x hx => hgh x (List.mem_append.2 (.inl hx))))
  have SH := Lib.hid (fun W (hb : Below w.heap.size w W) => policy_sorted v2 h W (hp.rh.below hb) (fun x hx => hgh x (List.mem_append.2 (.inr hx))))
  have CF := Lib.hid (fun W (hb : Below w.heap.size w W) => q_ContainsFunc v3 qs W (hp.rq.below hb) 77 #[] (fun q => !rightQ q (F q)) eg (fun x V hx hV => by
    simpa using policy_Right1 x (F x) V (hqr x hx).1 (hqr x hx).2 ((hF x hx).1.below (hb.trans (hV.mono hb.size))) (hFs x hx)))
  have HL := Lib.hid hp.rs
  have HL4 := Lib.hid hl4
  have hmax := hp.rs.max
  have RY := Lib.hid (fun k (hk : ¬ k < l.length) (h : ∀ j, j < k → okS l j = true) => show sortedS l = true from all_range_yes hk h)
  have RN := Lib.hid (fun k (hk : k < l.length) (h : okS l k = false) => show sortedS l = false from all_range_no hk h)
  have HI := Lib.hid (rightP_iff (l := l) (g := g) (h := h) (qs := qs) (F := F))
  have IFF := Lib.hid (show ∀ b : Bool, (b = true ↔ RightP l g h qs F) → RightI l g h qs F (.returned (.bool b)) from fun b h => ⟨b, rfl, h⟩)
  have HN0 := Lib.hid (show ∀ (_ : sortedS l = false), RightI l g h qs F (.returned (.bool false)) from fun hf => IFF.out false ⟨(fun e => by cases e), fun hr => by have := (HI.out.1 hr).1; rw [hf] at this; cases this⟩)
  generalize sortedS l = s0 at *
  generalize sortedR g = s1 at *
  generalize sortedR h = s2 at *
  generalize qs.any (fun q => !rightQ q (F q)) = s3 at *
  generalize fitsP l g h qs F = s4 at *
  obtain ⟨a0, c0, rfl⟩ := hp.rs.form
  obtain ⟨a1, c1, rfl⟩ := hp.rg.form
  obtain ⟨a2, c2, rfl⟩ := hp.rh.form
  obtain ⟨a3, c3, rfl⟩ := hp.rq.form
  have HT := Lib.hid (show OneAt w #[.slice a0 l.length c0, .slice a1 g.length c1, .slice a2 h.length c2, .slice a3 qs.length c3] (w.alloc (.cells #[.slice a0 l.length c0, .slice a1 g.length c1, .slice a2 h.length c2, .slice a3 qs.length c3] 26)) from ⟨Blk.new w _ _, (Below.refl _ _).alloc (Nat.le_refl _) _⟩)
  clear hp hF eg hl4 hgh hqr hFs
  go_enter Tryz.func31, Tryz.ntmps31
  go_wp2_with fail
  go_loopw [9] (fun i wr => ∃ k : Nat, k ≤ l.length ∧ i = .int .i64 k ∧ Hid (OneAt w #[.slice a0 l.length c0, .slice a1 g.length c1, .slice a2 h.length c2, .slice a3 qs.length c3] wr) ∧ Hid (∀ j, j < k → okS l j = true)) (fun i _ => l.length - (intOf i).toNat)
  case atStart => exact ⟨0, by omega, rfl, HT, Lib.hid (fun j h => absurd h (by omega))⟩
  case round =>
    clear HT
    obtain ⟨k, hk, rfl, HT0, HJ⟩ := hrel
    by_cases hlt : k < l.length
    · obtain ⟨b1, o1, c1', he1, hc1, hm1, hb1, hx1⟩ := HL.out.pos (by omega)
      simp only [Value.slice.injEq, true_and] at he1
      obtain ⟨rfl, rfl⟩ := he1
      have HXW := Lib.hid (fun j u hu => (HT0.out.low.cell (p := ⟨b1, o1 + j, none⟩) hb1).trans (hx1 j u hu))
      have HXL := Lib.hid hx1
      obtain ⟨p0, p1, p2, p3, p4, p5, p6, p7, p8⟩ := st_cell (w := wr) HXW.out k hlt
      have hbr : b1 < wr.heap.size := Nat.lt_of_lt_of_le hb1 HT0.out.low.size
      have RI := Lib.hid (fun W => syn_Right l[k] W (HL4.out _ (List.getElem_mem hlt)))
      have HOK := Lib.hid (show okS l k = (rightS l[k] && (decide (k = 0) || decide (cmpSt (l.getD (k - 1) noS) l[k] < 0))) by unfold okS; rw [getD_in hlt])
      have HJS : Hid (okS l k = true → ∀ j, j < k + 1 → okS l j = true) := Lib.hid (fun h j hj => by
        by_cases e : j = k
        · rw [e]; exact h
        · exact HJ.out j (by omega))
      have HNO := Lib.hid (fun (h : okS l k = false) => HN0.out (RN.out k hlt h))
      clear hx1
      generalize rightS l[k] = ri at RI HOK
      by_cases hk0 : k = 0
      · have dk : decide (0 < k) = false := by (rw [decide_eq_false_iff_not]; omega)
        rw [decide_eq_true hk0, Bool.true_or, Bool.and_true] at HOK
        clear hk0
        generalize l[k] = x at *
        obtain ⟨xk, ⟨x1, x2⟩, xw, ⟨x3, x4⟩, ⟨x5, x6⟩, xv⟩ := x
        have hba : Below wr.heap.size wr (wr.alloc (.cells #[.int .i64 xk, .string x1, .string x2, .string xw, .string x3, .string x4, .string x5, .string x6, .string xv] 63)) := (Below.refl _ _).alloc (Nat.le_refl _) _
        have HT1 := Lib.hid (HT0.out.later hba)
        have HX1 := Lib.hid (Blk.new wr #[.int .i64 xk, .string x1, .string x2, .string xw, .string x3, .string x4, .string x5, .string x6, .string xv] 63)
        clear hba
        cases ri with
        | false =>
          have R := Lib.hid (HNO.out HOK.out)
          go_wp2_with fail
          refine wp_region_held_drew (S := (fun W => (∀ o, W.cell? ⟨w.heap.size, o, none⟩ = (#[.slice (some ⟨b1, o1, none⟩) l.length c0, .slice a1 g.length c1, .slice a2 h.length c2, .slice a3 qs.length c3] : Array Value)[o]?) ∧ (∀ o, W.cell? ⟨wr.heap.size, o, none⟩ = (#[.int .i64 xk, .string x1, .string x2, .string xw, .string x3, .string x4, .string x5, .string x6, .string xv] : Array Value)[o]?))) (by kernel_rfl) ⟨HT1.out.drew.a.1, (HX1.out.below (below_drew (Below.refl _ _))).1⟩ (fun hHeld => ?_)
          have HT := HT1.out.drew
          have HX := HX1.out.below (below_drew (Below.refl _ _))
          obtain ⟨wk, hwk⟩ : ∃ W, W = (wr.alloc (.cells #[.int .i64 xk, .string x1, .string x2, .string xw, .string x3, .string x4, .string x5, .string x6, .string xv] 63)).drew := ⟨_, rfl⟩
          rw [← hwk] at HT HX hHeld ⊢
          clear hwk
          (refine hyes 0 ?_); (try simp only [Act.put, List.setIfInBounds_toArray, List.set])
          (refine held_call 1 rfl (by kernel_rfl) (fun K hK => ?_); go_simp)
          go_at_call 75; refine (RI.out _).mono ?_; rintro e wz1 ⟨rfl, hbq⟩
          have HT := HT.later hbq
          have HX := HX.below hbq
          clear hbq
          (refine hK.out _ _ (⟨HT.a.1, HX.1⟩) (fun hHeld => ?_); clear hK K; (try simp only [Act.put, List.setIfInBounds_toArray, List.set]))
          (refine hyes 2 ?_); (refine hyes 3 ?_); (try simp only [Act.put, List.setIfInBounds_toArray, List.set])
          (refine hno 4 ?_); (try simp only [Act.put, List.setIfInBounds_toArray, List.set])
          (refine hno 5 ?_); (try simp only [Act.put, List.setIfInBounds_toArray, List.set])
          (refine hno 6 ?_); (try simp only [Act.put, List.setIfInBounds_toArray, List.set])
          (refine hno 7 ?_); (refine hno 9 ?_); (refine hno 13 ?_); (try simp only [Act.put, List.setIfInBounds_toArray, List.set])
          (refine hno 8 ?_); (refine hno 10 ?_); (try simp only [Act.put, List.setIfInBounds_toArray, List.set])
          (refine hno 11 ?_); (try simp only [Act.put, List.setIfInBounds_toArray, List.set])
          (refine hno 12 ?_); (try simp only [Act.put, List.setIfInBounds_toArray, List.set])
          (refine hno 14 ?_); (try simp only [Act.put, List.setIfInBounds_toArray, List.set])
          (refine hno 15 ?_); (try simp only [Act.put, List.setIfInBounds_toArray, List.set])
          (refine hno 16 ?_); (try simp only [Act.put, List.setIfInBounds_toArray, List.set])
          (refine hyes 17 ?_); (try simp only [Act.put, List.setIfInBounds_toArray, List.set])
          refine wpAnyH_done (by kernel_rfl) ?_ _
          have HTr := Lib.hid HT
          clear HT HX
          go_wp2_with fail
          go_ret
          exact ⟨R.out, HTr.out.low⟩
        | true =>
          have HS := Lib.hid (HJS.out HOK.out)
          go_wp2_with fail
          refine wp_region_held_drew (S := (fun W => (∀ o, W.cell? ⟨w.heap.size, o, none⟩ = (#[.slice (some ⟨b1, o1, none⟩) l.length c0, .slice a1 g.length c1, .slice a2 h.length c2, .slice a3 qs.length c3] : Array Value)[o]?) ∧ (∀ o, W.cell? ⟨wr.heap.size, o, none⟩ = (#[.int .i64 xk, .string x1, .string x2, .string xw, .string x3, .string x4, .string x5, .string x6, .string xv] : Array Value)[o]?))) (by kernel_rfl) ⟨HT1.out.drew.a.1, (HX1.out.below (below_drew (Below.refl _ _))).1⟩ (fun hHeld => ?_)
          have HT := HT1.out.drew
          have HX := HX1.out.below (below_drew (Below.refl _ _))
          obtain ⟨wk, hwk⟩ : ∃ W, W = (wr.alloc (.cells #[.int .i64 xk, .string x1, .string x2, .string xw, .string x3, .string x4, .string x5, .string x6, .string xv] 63)).drew := ⟨_, rfl⟩
          rw [← hwk] at HT HX hHeld ⊢
          clear hwk
          (refine hyes 0 ?_); (try simp only [Act.put, List.setIfInBounds_toArray, List.set])
          (refine held_call 1 rfl (by kernel_rfl) (fun K hK => ?_); go_simp)
          go_at_call 75; refine (RI.out _).mono ?_; rintro e wz1 ⟨rfl, hbq⟩
          have HT := HT.later hbq
          have HX := HX.below hbq
          clear hbq
          (refine hK.out _ _ (⟨HT.a.1, HX.1⟩) (fun hHeld => ?_); clear hK K; (try simp only [Act.put, List.setIfInBounds_toArray, List.set]))
          (refine hyes 2 ?_); (refine hyes 3 ?_); (refine hyes 4 ?_); (refine hyes 5 ?_); (refine hyes 6 ?_); (try simp only [Act.put, List.setIfInBounds_toArray, List.set])
          (refine hno 7 ?_); (refine hno 9 ?_); (refine hno 13 ?_); (try simp only [Act.put, List.setIfInBounds_toArray, List.set])
          (refine hno 8 ?_); (refine hno 10 ?_); (try simp only [Act.put, List.setIfInBounds_toArray, List.set])
          (refine hno 11 ?_); (try simp only [Act.put, List.setIfInBounds_toArray, List.set])
          (refine hno 12 ?_); (try simp only [Act.put, List.setIfInBounds_toArray, List.set])
          (refine hno 14 ?_); (try simp only [Act.put, List.setIfInBounds_toArray, List.set])
          (refine hno 15 ?_); (try simp only [Act.put, List.setIfInBounds_toArray, List.set])
          (refine hyes 16 ?_); (refine hyes 17 ?_); (try simp only [Act.put, List.setIfInBounds_toArray, List.set])
          refine wpAnyH_done (by kernel_rfl) ?_ _
          have HTr := Lib.hid HT
          clear HT HX
          go_wp2_with fail
          exact ⟨⟨k + 1, by omega, by go_num, HTr, HS⟩, by simp [intOf]; omega⟩
      · obtain ⟨m, hm⟩ : ∃ m, k = m + 1 := ⟨k - 1, by omega⟩
        have dk : decide (0 < k) = true := by (rw [decide_eq_true_iff]; omega)
        have hw1 : IntKind.i64.wrap ((k : Int) - 1) = (m : Int) := by rw [show (k : Int) - 1 = (m : Int) by omega]; exact Go.IntWalk.i64_in _ (by omega)
        have hml : m < l.length := by omega
        have hmi : (0 : Int) ≤ (m : Int) := by omega
        obtain ⟨q0, q1, q2, q3, q4, q5, q6, q7, q8⟩ := st_cell (w := w) HXL.out m hml
        rw [decide_eq_false hk0, Bool.false_or, show k - 1 = m by omega, getD_in hml] at HOK
        have OR := Lib.hid (fun W => syn_OrderB l[m] l[k] W)
        generalize cmpSt l[m] l[k] = cm at *
        clear hk0 hm
        generalize l[k] = x at *
        obtain ⟨xk, ⟨x1, x2⟩, xw, ⟨x3, x4⟩, ⟨x5, x6⟩, xv⟩ := x
        generalize l[m] = y at *
        obtain ⟨yk, ⟨y1, y2⟩, yw, ⟨y3, y4⟩, ⟨y5, y6⟩, yv⟩ := y
        have hba : Below wr.heap.size wr (wr.alloc (.cells #[.int .i64 xk, .string x1, .string x2, .string xw, .string x3, .string x4, .string x5, .string x6, .string xv] 63)) := (Below.refl _ _).alloc (Nat.le_refl _) _
        have HT1 := Lib.hid (HT0.out.later hba)
        have HX1 := Lib.hid (Blk.new wr #[.int .i64 xk, .string x1, .string x2, .string xw, .string x3, .string x4, .string x5, .string x6, .string xv] 63)
        clear hba
        cases ri with
        | false =>
          have R := Lib.hid (HNO.out (by rw [HOK.out]; rfl))
          go_wp2_with fail
          refine wp_region_held_drew (S := (fun W => (∀ o, W.cell? ⟨w.heap.size, o, none⟩ = (#[.slice (some ⟨b1, o1, none⟩) l.length c0, .slice a1 g.length c1, .slice a2 h.length c2, .slice a3 qs.length c3] : Array Value)[o]?) ∧ (∀ o, W.cell? ⟨wr.heap.size, o, none⟩ = (#[.int .i64 xk, .string x1, .string x2, .string xw, .string x3, .string x4, .string x5, .string x6, .string xv] : Array Value)[o]?))) (by kernel_rfl) ⟨HT1.out.drew.a.1, (HX1.out.below (below_drew (Below.refl _ _))).1⟩ (fun hHeld => ?_)
          have HT := HT1.out.drew
          have HX := HX1.out.below (below_drew (Below.refl _ _))
          obtain ⟨wk, hwk⟩ : ∃ W, W = (wr.alloc (.cells #[.int .i64 xk, .string x1, .string x2, .string xw, .string x3, .string x4, .string x5, .string x6, .string xv] 63)).drew := ⟨_, rfl⟩
          rw [← hwk] at HT HX hHeld ⊢
          clear hwk
          (refine hyes 0 ?_); (try simp only [Act.put, List.setIfInBounds_toArray, List.set])
          (refine held_call 1 rfl (by kernel_rfl) (fun K hK => ?_); go_simp)
          go_at_call 75; refine (RI.out _).mono ?_; rintro e wz1 ⟨rfl, hbq⟩
          have HT := HT.later hbq
          have HX := HX.below hbq
          clear hbq
          (refine hK.out _ _ (⟨HT.a.1, HX.1⟩) (fun hHeld => ?_); clear hK K; (try simp only [Act.put, List.setIfInBounds_toArray, List.set]))
          (refine hyes 2 ?_); (refine hyes 3 ?_); (try simp only [Act.put, List.setIfInBounds_toArray, List.set])
          (refine hno 4 ?_); (try simp only [Act.put, List.setIfInBounds_toArray, List.set])
          (refine hno 5 ?_); (try simp only [Act.put, List.setIfInBounds_toArray, List.set])
          (refine hno 6 ?_); (try simp only [Act.put, List.setIfInBounds_toArray, List.set])
          (refine hno 7 ?_); (refine hno 9 ?_); (refine hno 13 ?_); (try simp only [Act.put, List.setIfInBounds_toArray, List.set])
          (refine hno 8 ?_); (refine hno 10 ?_); (try simp only [Act.put, List.setIfInBounds_toArray, List.set])
          (refine hno 11 ?_); (try simp only [Act.put, List.setIfInBounds_toArray, List.set])
          (refine hno 12 ?_); (try simp only [Act.put, List.setIfInBounds_toArray, List.set])
          (refine hno 14 ?_); (try simp only [Act.put, List.setIfInBounds_toArray, List.set])
          (refine hno 15 ?_); (try simp only [Act.put, List.setIfInBounds_toArray, List.set])
          (refine hno 16 ?_); (try simp only [Act.put, List.setIfInBounds_toArray, List.set])
          (refine hyes 17 ?_); (try simp only [Act.put, List.setIfInBounds_toArray, List.set])
          refine wpAnyH_done (by kernel_rfl) ?_ _
          have HTr := Lib.hid HT
          clear HT HX
          go_wp2_with fail
          go_ret
          exact ⟨R.out, HTr.out.low⟩
        | true =>
          by_cases hcm : cm < 0
          · have dcm : decide (0 ≤ cm) = false := decide_eq_false (by omega)
            have HS := Lib.hid (HJS.out (by rw [HOK.out, decide_eq_true hcm]; rfl))
            clear hcm
            go_wp2_with fail
            refine wp_region_held_drew (S := (fun W => (∀ o, W.cell? ⟨w.heap.size, o, none⟩ = (#[.slice (some ⟨b1, o1, none⟩) l.length c0, .slice a1 g.length c1, .slice a2 h.length c2, .slice a3 qs.length c3] : Array Value)[o]?) ∧ (∀ o, W.cell? ⟨wr.heap.size, o, none⟩ = (#[.int .i64 xk, .string x1, .string x2, .string xw, .string x3, .string x4, .string x5, .string x6, .string xv] : Array Value)[o]?) ∧ W.cell? ⟨b1, o1 + m * 9, none⟩ = some (.int .i64 yk) ∧ W.cell? ⟨b1, o1 + m * 9 + 1, none⟩ = some (.string y1) ∧ W.cell? ⟨b1, o1 + m * 9 + 2, none⟩ = some (.string y2) ∧ W.cell? ⟨b1, o1 + m * 9 + 3, none⟩ = some (.string yw) ∧ W.cell? ⟨b1, o1 + m * 9 + 4, none⟩ = some (.string y3) ∧ W.cell? ⟨b1, o1 + m * 9 + 5, none⟩ = some (.string y4) ∧ W.cell? ⟨b1, o1 + m * 9 + 6, none⟩ = some (.string y5) ∧ W.cell? ⟨b1, o1 + m * 9 + 7, none⟩ = some (.string y6) ∧ W.cell? ⟨b1, o1 + m * 9 + 8, none⟩ = some (.string yv))) (by kernel_rfl) ⟨HT1.out.drew.a.1, (HX1.out.below (below_drew (Below.refl _ _))).1, (HT1.out.drew.low.cell (p := ⟨b1, o1 + m * 9, none⟩) hb1).trans q0, (HT1.out.drew.low.cell (p := ⟨b1, o1 + m * 9 + 1, none⟩) hb1).trans q1, (HT1.out.drew.low.cell (p := ⟨b1, o1 + m * 9 + 2, none⟩) hb1).trans q2, (HT1.out.drew.low.cell (p := ⟨b1, o1 + m * 9 + 3, none⟩) hb1).trans q3, (HT1.out.drew.low.cell (p := ⟨b1, o1 + m * 9 + 4, none⟩) hb1).trans q4, (HT1.out.drew.low.cell (p := ⟨b1, o1 + m * 9 + 5, none⟩) hb1).trans q5, (HT1.out.drew.low.cell (p := ⟨b1, o1 + m * 9 + 6, none⟩) hb1).trans q6, (HT1.out.drew.low.cell (p := ⟨b1, o1 + m * 9 + 7, none⟩) hb1).trans q7, (HT1.out.drew.low.cell (p := ⟨b1, o1 + m * 9 + 8, none⟩) hb1).trans q8⟩ (fun hHeld => ?_)
            have HT := HT1.out.drew
            have HX := HX1.out.below (below_drew (Below.refl _ _))
            obtain ⟨wk, hwk⟩ : ∃ W, W = (wr.alloc (.cells #[.int .i64 xk, .string x1, .string x2, .string xw, .string x3, .string x4, .string x5, .string x6, .string xv] 63)).drew := ⟨_, rfl⟩
            rw [← hwk] at HT HX hHeld ⊢
            clear hwk
            (refine hyes 0 ?_); (try simp only [Act.put, List.setIfInBounds_toArray, List.set])
            (refine held_call 1 rfl (by kernel_rfl) (fun K hK => ?_); go_simp)
            go_at_call 75; refine (RI.out _).mono ?_; rintro e wz1 ⟨rfl, hbq⟩
            have HT := HT.later hbq
            have HX := HX.below hbq
            clear hbq
            (refine hK.out _ _ (⟨HT.a.1, HX.1, (HT.low.cell (p := ⟨b1, o1 + m * 9, none⟩) hb1).trans q0, (HT.low.cell (p := ⟨b1, o1 + m * 9 + 1, none⟩) hb1).trans q1, (HT.low.cell (p := ⟨b1, o1 + m * 9 + 2, none⟩) hb1).trans q2, (HT.low.cell (p := ⟨b1, o1 + m * 9 + 3, none⟩) hb1).trans q3, (HT.low.cell (p := ⟨b1, o1 + m * 9 + 4, none⟩) hb1).trans q4, (HT.low.cell (p := ⟨b1, o1 + m * 9 + 5, none⟩) hb1).trans q5, (HT.low.cell (p := ⟨b1, o1 + m * 9 + 6, none⟩) hb1).trans q6, (HT.low.cell (p := ⟨b1, o1 + m * 9 + 7, none⟩) hb1).trans q7, (HT.low.cell (p := ⟨b1, o1 + m * 9 + 8, none⟩) hb1).trans q8⟩) (fun hHeld => ?_); clear hK K; (try simp only [Act.put, List.setIfInBounds_toArray, List.set]))
            (refine hyes 2 ?_); (refine hyes 3 ?_); (refine hyes 4 ?_); (refine hyes 5 ?_); (refine hyes 6 ?_); (refine hyes 7 ?_); (refine hyes 8 ?_); (refine hyes 9 ?_); (refine hyes 10 ?_); (refine hyes 11 ?_); (refine hyes 12 ?_); (refine hyes 13 ?_); (try simp only [Act.put, List.setIfInBounds_toArray, List.set])
            (refine held_call 14 rfl (by kernel_rfl) (fun K hK => ?_); go_simp)
            go_at_call 76; refine (OR.out _).mono ?_; rintro e wz14 ⟨rfl, hbq⟩
            have HT := HT.later hbq
            have HX := HX.below hbq
            clear hbq
            (refine hK.out _ _ (⟨HT.a.1, HX.1, (HT.low.cell (p := ⟨b1, o1 + m * 9, none⟩) hb1).trans q0, (HT.low.cell (p := ⟨b1, o1 + m * 9 + 1, none⟩) hb1).trans q1, (HT.low.cell (p := ⟨b1, o1 + m * 9 + 2, none⟩) hb1).trans q2, (HT.low.cell (p := ⟨b1, o1 + m * 9 + 3, none⟩) hb1).trans q3, (HT.low.cell (p := ⟨b1, o1 + m * 9 + 4, none⟩) hb1).trans q4, (HT.low.cell (p := ⟨b1, o1 + m * 9 + 5, none⟩) hb1).trans q5, (HT.low.cell (p := ⟨b1, o1 + m * 9 + 6, none⟩) hb1).trans q6, (HT.low.cell (p := ⟨b1, o1 + m * 9 + 7, none⟩) hb1).trans q7, (HT.low.cell (p := ⟨b1, o1 + m * 9 + 8, none⟩) hb1).trans q8⟩) (fun hHeld => ?_); clear hK K; (try simp only [Act.put, List.setIfInBounds_toArray, List.set]))
            (refine hyes 15 ?_); (refine hyes 16 ?_); (refine hyes 17 ?_); (try simp only [Act.put, List.setIfInBounds_toArray, List.set])
            refine wpAnyH_done (by kernel_rfl) ?_ _
            have HTr := Lib.hid HT
            clear HT HX
            go_wp2_with fail
            exact ⟨⟨k + 1, by omega, by go_num, HTr, HS⟩, by simp [intOf]; omega⟩
          · have dcm : decide (0 ≤ cm) = true := decide_eq_true (by omega)
            have R := Lib.hid (HNO.out (by rw [HOK.out, decide_eq_false hcm]; rfl))
            clear hcm
            go_wp2_with fail
            refine wp_region_held_drew (S := (fun W => (∀ o, W.cell? ⟨w.heap.size, o, none⟩ = (#[.slice (some ⟨b1, o1, none⟩) l.length c0, .slice a1 g.length c1, .slice a2 h.length c2, .slice a3 qs.length c3] : Array Value)[o]?) ∧ (∀ o, W.cell? ⟨wr.heap.size, o, none⟩ = (#[.int .i64 xk, .string x1, .string x2, .string xw, .string x3, .string x4, .string x5, .string x6, .string xv] : Array Value)[o]?) ∧ W.cell? ⟨b1, o1 + m * 9, none⟩ = some (.int .i64 yk) ∧ W.cell? ⟨b1, o1 + m * 9 + 1, none⟩ = some (.string y1) ∧ W.cell? ⟨b1, o1 + m * 9 + 2, none⟩ = some (.string y2) ∧ W.cell? ⟨b1, o1 + m * 9 + 3, none⟩ = some (.string yw) ∧ W.cell? ⟨b1, o1 + m * 9 + 4, none⟩ = some (.string y3) ∧ W.cell? ⟨b1, o1 + m * 9 + 5, none⟩ = some (.string y4) ∧ W.cell? ⟨b1, o1 + m * 9 + 6, none⟩ = some (.string y5) ∧ W.cell? ⟨b1, o1 + m * 9 + 7, none⟩ = some (.string y6) ∧ W.cell? ⟨b1, o1 + m * 9 + 8, none⟩ = some (.string yv))) (by kernel_rfl) ⟨HT1.out.drew.a.1, (HX1.out.below (below_drew (Below.refl _ _))).1, (HT1.out.drew.low.cell (p := ⟨b1, o1 + m * 9, none⟩) hb1).trans q0, (HT1.out.drew.low.cell (p := ⟨b1, o1 + m * 9 + 1, none⟩) hb1).trans q1, (HT1.out.drew.low.cell (p := ⟨b1, o1 + m * 9 + 2, none⟩) hb1).trans q2, (HT1.out.drew.low.cell (p := ⟨b1, o1 + m * 9 + 3, none⟩) hb1).trans q3, (HT1.out.drew.low.cell (p := ⟨b1, o1 + m * 9 + 4, none⟩) hb1).trans q4, (HT1.out.drew.low.cell (p := ⟨b1, o1 + m * 9 + 5, none⟩) hb1).trans q5, (HT1.out.drew.low.cell (p := ⟨b1, o1 + m * 9 + 6, none⟩) hb1).trans q6, (HT1.out.drew.low.cell (p := ⟨b1, o1 + m * 9 + 7, none⟩) hb1).trans q7, (HT1.out.drew.low.cell (p := ⟨b1, o1 + m * 9 + 8, none⟩) hb1).trans q8⟩ (fun hHeld => ?_)
            have HT := HT1.out.drew
            have HX := HX1.out.below (below_drew (Below.refl _ _))
            obtain ⟨wk, hwk⟩ : ∃ W, W = (wr.alloc (.cells #[.int .i64 xk, .string x1, .string x2, .string xw, .string x3, .string x4, .string x5, .string x6, .string xv] 63)).drew := ⟨_, rfl⟩
            rw [← hwk] at HT HX hHeld ⊢
            clear hwk
            (refine hyes 0 ?_); (try simp only [Act.put, List.setIfInBounds_toArray, List.set])
            (refine held_call 1 rfl (by kernel_rfl) (fun K hK => ?_); go_simp)
            go_at_call 75; refine (RI.out _).mono ?_; rintro e wz1 ⟨rfl, hbq⟩
            have HT := HT.later hbq
            have HX := HX.below hbq
            clear hbq
            (refine hK.out _ _ (⟨HT.a.1, HX.1, (HT.low.cell (p := ⟨b1, o1 + m * 9, none⟩) hb1).trans q0, (HT.low.cell (p := ⟨b1, o1 + m * 9 + 1, none⟩) hb1).trans q1, (HT.low.cell (p := ⟨b1, o1 + m * 9 + 2, none⟩) hb1).trans q2, (HT.low.cell (p := ⟨b1, o1 + m * 9 + 3, none⟩) hb1).trans q3, (HT.low.cell (p := ⟨b1, o1 + m * 9 + 4, none⟩) hb1).trans q4, (HT.low.cell (p := ⟨b1, o1 + m * 9 + 5, none⟩) hb1).trans q5, (HT.low.cell (p := ⟨b1, o1 + m * 9 + 6, none⟩) hb1).trans q6, (HT.low.cell (p := ⟨b1, o1 + m * 9 + 7, none⟩) hb1).trans q7, (HT.low.cell (p := ⟨b1, o1 + m * 9 + 8, none⟩) hb1).trans q8⟩) (fun hHeld => ?_); clear hK K; (try simp only [Act.put, List.setIfInBounds_toArray, List.set]))
            (refine hyes 2 ?_); (refine hyes 3 ?_); (refine hyes 4 ?_); (refine hyes 5 ?_); (refine hyes 6 ?_); (refine hyes 7 ?_); (refine hyes 8 ?_); (refine hyes 9 ?_); (refine hyes 10 ?_); (refine hyes 11 ?_); (refine hyes 12 ?_); (refine hyes 13 ?_); (try simp only [Act.put, List.setIfInBounds_toArray, List.set])
            (refine held_call 14 rfl (by kernel_rfl) (fun K hK => ?_); go_simp)
            go_at_call 76; refine (OR.out _).mono ?_; rintro e wz14 ⟨rfl, hbq⟩
            have HT := HT.later hbq
            have HX := HX.below hbq
            clear hbq
            (refine hK.out _ _ (⟨HT.a.1, HX.1, (HT.low.cell (p := ⟨b1, o1 + m * 9, none⟩) hb1).trans q0, (HT.low.cell (p := ⟨b1, o1 + m * 9 + 1, none⟩) hb1).trans q1, (HT.low.cell (p := ⟨b1, o1 + m * 9 + 2, none⟩) hb1).trans q2, (HT.low.cell (p := ⟨b1, o1 + m * 9 + 3, none⟩) hb1).trans q3, (HT.low.cell (p := ⟨b1, o1 + m * 9 + 4, none⟩) hb1).trans q4, (HT.low.cell (p := ⟨b1, o1 + m * 9 + 5, none⟩) hb1).trans q5, (HT.low.cell (p := ⟨b1, o1 + m * 9 + 6, none⟩) hb1).trans q6, (HT.low.cell (p := ⟨b1, o1 + m * 9 + 7, none⟩) hb1).trans q7, (HT.low.cell (p := ⟨b1, o1 + m * 9 + 8, none⟩) hb1).trans q8⟩) (fun hHeld => ?_); clear hK K; (try simp only [Act.put, List.setIfInBounds_toArray, List.set]))
            (refine hyes 15 ?_); (refine hyes 16 ?_); (refine hyes 17 ?_); (try simp only [Act.put, List.setIfInBounds_toArray, List.set])
            refine wpAnyH_done (by kernel_rfl) ?_ _
            have HTr := Lib.hid HT
            clear HT HX
            go_wp2_with fail
            go_ret
            exact ⟨R.out, HTr.out.low⟩
    · have HI := Lib.hid (show RightP l g h qs F ↔ s1 = true ∧ s2 = true ∧ s3 = false ∧ s4 = true by rw [HI.out, RY.out k hlt HJ.out]; simp)
      have NOI := Lib.hid (show ¬ RightP l g h qs F → RightI l g h qs F (.returned (.bool false)) from rightI_no)
      have HT := HT0
      obtain ⟨ca, fa, za⟩ := HT.out.a
      go_wp2_with fail
      refine (SG.out _ HT.out.low).mono ?_
      rintro e w1 ⟨rfl, hb1⟩
      have HT := Lib.hid (HT.out.later hb1)
      clear hb1 ca fa za SG
      cases s1 with
      | false =>
        have R := Lib.hid (NOI.out (fun hr => by have := (HI.out.1 hr).1; cases this))
        go_wp2_with fail
        go_ret
        exact ⟨R.out, HT.out.low⟩
      | true =>
      obtain ⟨ca, fa, za⟩ := HT.out.a
      go_wp2_with fail
      refine (SH.out _ HT.out.low).mono ?_
      rintro e w2 ⟨rfl, hb1⟩
      have HT := Lib.hid (HT.out.later hb1)
      clear hb1 ca fa za SH
      cases s2 with
      | false =>
        have R := Lib.hid (NOI.out (fun hr => by have := (HI.out.1 hr).2.1; cases this))
        go_wp2_with fail
        go_ret
        exact ⟨R.out, HT.out.low⟩
      | true =>
      obtain ⟨ca, fa, za⟩ := HT.out.a
      go_wp2_with fail
      refine (CF.out _ HT.out.low).mono ?_
      rintro e w3 ⟨rfl, hb1⟩
      have HT := Lib.hid (HT.out.later hb1)
      clear hb1 ca fa za CF
      cases s3 with
      | true =>
        have R := Lib.hid (NOI.out (fun hr => by have := (HI.out.1 hr).2.2.1; cases this))
        go_wp2_with fail
        go_ret
        exact ⟨R.out, HT.out.low⟩
      | false =>
      obtain ⟨ca, fa, za⟩ := HT.out.a
      go_wp2_with fail
      refine (FI.out _ HT.out.low).mono ?_
      rintro e w4 ⟨rfl, hb1⟩
      have HT := Lib.hid (HT.out.later hb1)
      have R := Lib.hid (IFF.out s4 ⟨fun e => HI.out.2 ⟨by trivial, by trivial, by trivial, e⟩, fun hr => (HI.out.1 hr).2.2.2⟩)
      clear hb1 ca fa za FI
      go_wp2_with fail
      go_ret
      exact ⟨R.out, HT.out.low⟩
end Go.Proofs.YtnhkgfgbhedphaaGreatDoor
