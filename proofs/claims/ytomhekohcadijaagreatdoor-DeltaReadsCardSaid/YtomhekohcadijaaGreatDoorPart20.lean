/- Policies among a law's arguments: opened. Texts among a law's arguments, opened. -/
import Derived.Test.YtomhekohcadijaaGreatDoorPart19
import Derived.Test.YtomhekohcadijaaGreatDoorPart5
namespace Go.Proofs.YtomhekohcadijaaGreatDoor
open Go.ChangeShapes Go.WideShapes Go.ChangeAt Go.RowKit Go.Deep

section
variable {H : Type} {enc : TypeId × Value → H} {w : World} {base : Nat} {held : Bool}
theorem open_rowOf {α : Type} [Inhabited α] (cells : α → List Value) (k : Nat) (hk : 0 < k) (hlen : ∀ x, (cells x).length = k) {t e : TypeId} (ht : Tryz.prog.underlying t = some (.slice e)) (hc : Tryz.prog.cellsOf e = k) (p : α → Prop)
    (each : ∀ n cs y, DataW.trod enc Tryz.prog w base (fun _ => true) held n e cs = some y → ∃ x : α, cs = cells x ∧ p x) {fuel : Nat} {c : Value} {y : DataW H × List MemPlace}
    (hf : DataW.trod enc Tryz.prog w base (fun _ => true) held fuel t [c] = some y) : ∃ l : List α, SlA w k c l.length (l.flatMap cells) ∧ ∀ x ∈ l, p x := by
  rcases open_slice ht hf with ⟨hcs, _⟩ | ⟨a, len, cap, m, n, D, Pl, hcs, _, hl, hm, hmm, _, hx⟩
  · simp only [List.cons.injEq, and_true] at hcs
    subst hcs
    exact ⟨[], (Sl.nil _ _).a, fun s hs => by cases hs⟩
  · simp only [List.cons.injEq, and_true] at hcs
    subst hcs
    simp only [if_true] at hmm
    subst hmm
    rw [hc] at hx
    have hex : ∀ i, i < m → ∃ s : α, w.cells? base (a.add (i * k)) k = some (cells s) ∧ p s := by
      intro i hi
      obtain ⟨cs', h1, h2⟩ := hx i hi
      obtain ⟨s, rfl, hs⟩ := each _ _ _ h2
      exact ⟨s, h1, hs⟩
    obtain ⟨S, hS⟩ := choose_lt hex
    obtain ⟨b, off, spot⟩ := a
    by_cases h0 : 0 < len
    · have hk0 : 0 < (cells (S 0)).length := by rw [hlen]; exact hk
      have c0 := (World.cells?_some (hS 0 (by omega)).1).2.2 0 hk
      rw [List.getElem?_eq_getElem hk0] at c0
      have hspot : spot = none := by simpa [Addr.add] using World.cell?_spot c0
      subst hspot
      have hlenl : ((List.range len).map S).length = len := by simp
      have hcell : ∀ j u, (((List.range len).map S).flatMap cells)[j]? = some u → w.cell? ⟨b, off + j, none⟩ = some u := by
        intro j u hu
        have hj : j < len * k := by
          have := (List.getElem?_eq_some_iff.1 hu).1
          rwa [flat_len cells k hlen, hlenl] at this
        have hf9 : j % k < k := Nat.mod_lt _ hk
        have hi : j / k < len := Nat.div_lt_of_lt_mul (by rwa [Nat.mul_comm])
        have e : j = j / k * k + j % k := by rw [Nat.mul_comm]; exact (Nat.div_add_mod j k).symm
        rw [e, flat_get cells k hlen _ (j / k) (j % k) hf9 (S (j / k)) (by simp [hi])] at hu
        have h1 := (World.cells?_some (hS (j / k) (by omega)).1).2.2 (j % k) hf9
        rw [add_add, add_plain, ← e] at h1
        exact h1.trans hu
      refine ⟨(List.range len).map S, .inl ?_, fun s hs => ?_⟩
      · rw [hlenl]
        refine ⟨by rw [flat_len cells k hlen, hlenl], by omega, .inr ⟨b, off, m, rfl, hl, hm, ?_, hcell⟩⟩
        rw [add_add, add_plain] at c0
        exact World.block_lt_of_cell? _ _ c0
      · obtain ⟨i, hi, rfl⟩ := List.mem_map.1 hs
        exact (hS i (by have := List.mem_range.1 hi; omega)).2
    · have hl0 : len = 0 := by omega
      subst hl0
      exact ⟨[], .inr ⟨⟨_, _, rfl⟩, rfl, rfl⟩, fun s hs => by cases hs⟩

theorem maxLen_eq : maxLen = 9223372036854775807 := by decide
theorem le_max {s : St} (h : s.fits) : s.le 9223372036854775807 := by have := h.1; rwa [maxLen_eq] at this
theorem rle_max {r : Rl} (h : r.le maxLen) : r.le 9223372036854775807 := by rwa [maxLen_eq] at h
instance : Inhabited Rl := ⟨noR⟩
theorem open_stsC {fuel : Nat} {c : Value} {y : DataW H × List MemPlace} (hf : DataW.trod enc Tryz.prog w base (fun _ => true) held fuel 22 [c] = some y) :
    ∃ l : List St, SlA w 9 c l.length (l.flatMap St.cells) ∧ allLe l 9223372036854775807 :=
  open_rowOf St.cells 9 (by decide) St.cells_len Tryz.underlying22 (by kernel_rfl) (fun s => s.le 9223372036854775807)
    (fun _ _ _ h => by obtain ⟨s, e, _, hs⟩ := trod_stmt h; exact ⟨s, e, le_max hs⟩) hf
theorem open_rls {fuel : Nat} {c : Value} {y : DataW H × List MemPlace} (hf : DataW.trod enc Tryz.prog w base (fun _ => true) held fuel 23 [c] = some y) :
    ∃ l : List Rl, SlA w 2 c l.length (l.flatMap Rl.cells) ∧ ∀ x ∈ l, x.le 9223372036854775807 :=
  open_rowOf Rl.cells 2 (by decide) Rl.cells_len Tryz.underlying23 (by kernel_rfl) (fun s => s.le 9223372036854775807)
    (fun _ _ _ h => by obtain ⟨s, e, _, hs⟩ := trod_role h; exact ⟨s, e, rle_max hs⟩) hf
theorem strs_flat (l : List ByteArray) : (l.flatMap fun s => [Value.string s]) = strs l := by
  induction l with
  | nil => rfl
  | cons a r ih => rw [List.flatMap_cons, ih]; rfl
theorem open_strsC {fuel : Nat} {c : Value} {y : DataW H × List MemPlace} (hf : DataW.trod enc Tryz.prog w base (fun _ => true) held fuel 27 [c] = some y) :
    ∃ l : List ByteArray, SlA w 1 c l.length (strs l) ∧ ∀ x ∈ l, x.size ≤ 9223372036854775807 := by
  obtain ⟨l, h1, h2⟩ := open_rowOf (fun s : ByteArray => [Value.string s]) 1 (by decide) (fun _ => rfl) Tryz.underlying27 (by kernel_rfl) (fun s => s.size ≤ 9223372036854775807)
    (fun _ cs _ h => by obtain ⟨s, e, _, hs⟩ := DataW.trod_string Tryz.underlying9 h; exact ⟨s, e, by rwa [maxLen_eq] at hs⟩) hf
  exact ⟨l, by rwa [strs_flat] at h1, h2⟩

theorem six_of {cs : List Value} (h : cs.length = 6) : ∃ a b c d e f, cs = [a, b, c, d, e, f] := by
  match cs, h with
  | [a, b, c, d, e, f], _ => exact ⟨a, b, c, d, e, f, rfl⟩
theorem trod_query {fuel : Nat} {cs : List Value} {x : DataW H × List MemPlace} (h : DataW.trod enc Tryz.prog w base (fun _ => true) held fuel 83 cs = some x) : ∃ q : Qv, cs = q.cells ∧ q.ok w := by
  obtain ⟨xs, n, _, rfl, hl, hlen, hf⟩ := DataW.trod_struct Tryz.underlying83 h
  have hc : Tryz.prog.cellsOf 83 = 6 := by kernel_rfl
  have hr : Tryz.prog.cellsOf 78 = 2 := by kernel_rfl
  have hi : Tryz.prog.cellsOf 3 = 1 := by kernel_rfl
  have hs : Tryz.prog.cellsOf 27 = 1 := by kernel_rfl
  rw [hc] at hl
  obtain ⟨c0, c1, c2, c3, c4, c5, rfl⟩ := six_of hl
  have f0 : DataW.trod enc Tryz.prog w base (fun _ => true) held n 3 [c0] = xs[0]? := by simpa [hi] using hf 0 _ rfl
  have f1 : DataW.trod enc Tryz.prog w base (fun _ => true) held n 78 [c1, c2] = xs[1]? := by simpa [hr] using hf 1 _ rfl
  have f2 : DataW.trod enc Tryz.prog w base (fun _ => true) held n 78 [c3, c4] = xs[2]? := by simpa [hr] using hf 2 _ rfl
  have f3 : DataW.trod enc Tryz.prog w base (fun _ => true) held n 27 [c5] = xs[3]? := by simpa [hs] using hf 3 _ rfl
  match xs, hlen with
  | [y0, y1, y2, y3], _ =>
    simp only [List.getElem?_cons_zero, List.getElem?_cons_succ] at f0 f1 f2 f3
    obtain ⟨k, e0, _, _⟩ := DataW.trod_int Tryz.underlying3 f0
    obtain ⟨r1, e1, _, l1⟩ := trod_role f1
    obtain ⟨r2, e2, _, l2⟩ := trod_role f2
    obtain ⟨ss, s3, l3⟩ := open_strsC f3
    simp only [Rl.cells, List.cons.injEq, and_true] at e0 e1 e2
    obtain ⟨rfl, rfl⟩ := e1
    obtain ⟨rfl, rfl⟩ := e2
    subst e0
    exact ⟨⟨k, r1, r2, c5⟩, rfl, rle_max l1, rle_max l2, ss, s3, l3⟩
theorem open_qs {fuel : Nat} {c : Value} {y : DataW H × List MemPlace} (hf : DataW.trod enc Tryz.prog w base (fun _ => true) held fuel 24 [c] = some y) :
    ∃ l : List Qv, SlA w 6 c l.length (l.flatMap Qv.cells) ∧ ∀ x ∈ l, x.ok w :=
  open_rowOf Qv.cells 6 (by decide) Qv.cells_len Tryz.underlying24 (by kernel_rfl) (fun q => q.ok w) (fun _ _ _ h => trod_query h) hf
theorem four_of {cs : List Value} (h : cs.length = 4) : ∃ a b c d, cs = [a, b, c, d] := by
  match cs, h with
  | [a, b, c, d], _ => exact ⟨a, b, c, d, rfl⟩
set_option maxRecDepth 100000 in
theorem open_pol {r : Reach} {b0 : Nat} {v : Value} {d : DataW H} {ps : List MemPlace} (hval : Value.okWide Tryz.prog w r b0 26 v) (hd : DataW.Trod enc Tryz.prog w base (fun _ => true) held 26 v d ps) :
    ∃ v0 v1 v2 v3 l g h qs, v = pv v0 v1 v2 v3 ∧ PolAt w v0 v1 v2 v3 l g h qs := by
  obtain ⟨cs, rfl, _⟩ := okWide_struct Tryz.underlying26 hval
  obtain ⟨fuel, hf⟩ := hd
  obtain ⟨xs, n, _, _, hl, hlen, hf'⟩ := DataW.trod_struct Tryz.underlying26 hf
  have hc : Tryz.prog.cellsOf 26 = 4 := by kernel_rfl
  have h0 : Tryz.prog.cellsOf 22 = 1 := by kernel_rfl
  have h1 : Tryz.prog.cellsOf 23 = 1 := by kernel_rfl
  have h2 : Tryz.prog.cellsOf 24 = 1 := by kernel_rfl
  rw [hc] at hl
  obtain ⟨c0, c1, c2, c3, hcs⟩ := four_of hl
  rw [hcs] at hf'
  have f0 : DataW.trod enc Tryz.prog w base (fun _ => true) held n 22 [c0] = xs[0]? := by simpa [h0] using hf' 0 _ rfl
  have f1 : DataW.trod enc Tryz.prog w base (fun _ => true) held n 23 [c1] = xs[1]? := by simpa [h1] using hf' 1 _ rfl
  have f2 : DataW.trod enc Tryz.prog w base (fun _ => true) held n 23 [c2] = xs[2]? := by simpa [h1] using hf' 2 _ rfl
  have f3 : DataW.trod enc Tryz.prog w base (fun _ => true) held n 24 [c3] = xs[3]? := by simpa [h2] using hf' 3 _ rfl
  match xs, hlen with
  | [y0, y1, y2, y3], _ =>
    simp only [List.getElem?_cons_zero, List.getElem?_cons_succ] at f0 f1 f2 f3
    obtain ⟨l, s0, l0⟩ := open_stsC f0
    obtain ⟨g, s1, l1⟩ := open_rls f1
    obtain ⟨h, s2, l2⟩ := open_rls f2
    obtain ⟨qs, s3, l3⟩ := open_qs f3
    refine ⟨c0, c1, c2, c3, l, g, h, qs, ?_, ⟨s0, s1, s2, s3, l0, l1, l2, l3⟩⟩
    obtain ⟨cl⟩ := cs
    simp only [Value.cells] at hcs
    have : cl = [c0, c1, c2, c3] := by simpa using hcs
    rw [this]
end
end Go.Proofs.YtomhekohcadijaaGreatDoor
namespace Go.Proofs.YtomhekohcadijaaGreatDoor
open Go.ChangeShapes Go.WideShapes Go.ChangeAt Go.RowKit
section
variable {H : Type} {enc : TypeId × Value → H} {w : World} {base b0 : Nat} {held : Bool} {r : Reach} {v : Value} {d : DataW H} {ps : List MemPlace}
set_option maxRecDepth 100000 in
theorem open_strsQ (hval : Value.okWide Tryz.prog w r b0 27 v) (hd : DataW.Trod enc Tryz.prog w base (fun _ => true) held 27 v d ps) : ∃ l : List ByteArray, SlA w 1 v l.length (strs l) ∧ ∀ x ∈ l, x.size ≤ 9223372036854775807 := by
  obtain ⟨a0, len, cap, rfl⟩ := okWide_slice Tryz.underlying27 hval
  obtain ⟨fuel, hf⟩ := hd
  exact open_strsC hf
end
end Go.Proofs.YtomhekohcadijaaGreatDoor
