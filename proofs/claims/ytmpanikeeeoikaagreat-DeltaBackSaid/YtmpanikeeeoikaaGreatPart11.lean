/- slices.IndexFunc and slices.DeleteFunc at rows of roles. crupperref10.Of. The statement StateRows: the walk of the law. The statement StateParts: the walk of the law. How two policies differ, in plain Lean. Package delta: without, with, Back, Empty, Same. Two blocks of a call's own that stand whole. Whether two differences are the same (printed by gen_dlsame.py). -/
import Derived.Test.YtmpanikeeeoikaaGreatPart10
import Derived.Test.YtmpanikeeeoikaaGreatPart6
import Derived.Test.YtmpanikeeeoikaaGreatPart7
import Derived.Test.YtmpanikeeeoikaaGreatPart8
import Derived.Test.YtmpanikeeeoikaaGreatPart3
namespace Go.Proofs.YtmpanikeeeoikaaGreat
open Go.RowKit Go.Shelf

/-- The place of the first of which p is so; -1: there is none. -/
def IdxP (l : List Rl) (p : Rl → Bool) (i : Int) : Prop :=
  (i = -1 ∧ ∀ x ∈ l, p x = false) ∨ ∃ k : Nat, ∃ hk : k < l.length, i = k ∧ p l[k] = true ∧ ∀ j (hj : j < l.length), j < k → p l[j] = false

set_option maxRecDepth 100000 in
set_option maxHeartbeats 2000000 in
theorem rl_IndexFunc (va : Value) (l : List Rl) (w : World) (ha : SlA w 2 va l.length (l.flatMap Rl.cells)) (g : Nat) (cb : Array Value) (p : Rl → Bool)
    (eg : ∀ args w, (callFunc g args).run Tryz.prog w = .ok (.enter g args) w)
    (hp : ∀ x W, x ∈ l → Below w.heap.size w W → Calls Tryz.prog g (#[rv x] ++ cb) W fun e w' => e = .returned (.bool (p x)) ∧ Below W.heap.size W w') :
    Calls Tryz.prog 70 #[va, .func (.func g) #[] cb] w fun e w' => (∃ i : Int, e = .returned (.int .i64 i) ∧ IdxP l p i) ∧ Below w.heap.size w w' := by
  have HP := Lib.hid hp
  have HA := Lib.hid ha
  have hmax := ha.max
  obtain ⟨ao, cap, hva⟩ := ha.form
  subst hva
  clear ha hp
  go_enter Tryz.func70, Tryz.ntmps70
  go_wp2
  go_loopw [8] (fun i wr => ∃ k : Nat, k ≤ l.length ∧ i = .int .i64 k ∧ Hid (Below w.heap.size w wr) ∧ Hid (∀ j (hj : j < l.length), j < k → p l[j] = false)) (fun i _ => l.length - (intOf i).toNat)
  case atStart => exact ⟨0, by omega, rfl, Lib.hid (Below.refl _ _), Lib.hid (fun _ _ h => absurd h (by omega))⟩
  case round =>
    obtain ⟨k, hk, rfl, HB, HJ⟩ := hrel
    by_cases hlt : k < l.length
    · obtain ⟨b1, o1, c1, he1, hc1, hm1, hb1, hx1⟩ := HA.out.pos (by omega)
      simp only [Value.slice.injEq, true_and] at he1
      obtain ⟨rfl, rfl⟩ := he1
      obtain ⟨p0, p1⟩ := rl_cell (w := wr) (fun j u hu => (HB.out.cell (p := ⟨b1, o1 + j, none⟩) hb1).trans (hx1 j u hu)) k hlt
      have hbr : b1 < wr.heap.size := Nat.lt_of_lt_of_le hb1 HB.out.size
      have PC := Lib.hid (fun W h => HP.out l[k] W (List.getElem_mem hlt) h)
      have YES : Hid (p l[k] = true → IdxP l p k) := Lib.hid (fun h => .inr ⟨k, hlt, rfl, h, HJ.out⟩)
      have HJ2 : Hid (p l[k] = false → ∀ j (hj : j < l.length), j < k + 1 → p l[j] = false) := Lib.hid (fun hpk j hj hjk => by
        by_cases h : j < k
        · exact HJ.out j hj h
        · obtain rfl : j = k := by omega
          exact hpk)
      clear hx1
      generalize p l[k] = px at PC YES HJ2
      generalize l[k] = x at *
      obtain ⟨x1, x2⟩ := x
      go_wp2_with fail
      refine (PC.out _ HB.out).mono ?_
      rintro e w2 ⟨rfl, hb2⟩
      have HB2 := Lib.hid (HB.out.trans (hb2.mono HB.out.size))
      clear hb2
      cases px with
      | true =>
        have R := Lib.hid (YES.out rfl)
        go_wp2
        go_ret
        exact ⟨⟨(k : Int), rfl, R.out⟩, HB2.out⟩
      | false =>
        have HJ3 := Lib.hid (HJ2.out rfl)
        go_wp2
        exact ⟨⟨k + 1, by omega, by go_num, HB2, HJ3⟩, by simp [intOf]; omega⟩
    · have R : Hid (IdxP l p (-1)) := Lib.hid (.inl ⟨rfl, fun x hx => by
        obtain ⟨j, hj, rfl⟩ := List.getElem_of_mem hx
        exact HJ.out j hj (by omega)⟩)
      go_wp2
      go_ret
      exact ⟨⟨-1, rfl, R.out⟩, HB.out⟩

/-- The first i cells of a row that DeleteFunc works on are those of its first j that stay; the rest is as it was. -/
structure HalfF (w : World) (b o : Nat) (l : List Rl) (np : Rl → Bool) (j i : Nat) : Prop where
  len : ((l.take j).filter np).length = i
  low : ∀ k (hk : k < ((l.take j).filter np).length), Two w b (o + k * 2) ((l.take j).filter np)[k]
  high : ∀ k (hk : k < l.length), j ≤ k → Two w b (o + k * 2) l[k]
  all : ∀ k, k < l.length → ∃ s0, Two w b (o + k * 2) s0
theorem HalfF.move {w w' : World} {b o j i : Nat} {l : List Rl} {np : Rl → Bool} (h : HalfF w b o l np j i) (hw : ∀ i, w'.cell? ⟨b, i, none⟩ = w.cell? ⟨b, i, none⟩) : HalfF w' b o l np j i :=
  ⟨h.len, fun k hk => (h.low k hk).drop1 (fun _ _ _ => hw _), fun k hk hj => (h.high k hk hj).drop1 (fun _ _ _ => hw _), fun k hk => (h.all k hk).elim fun s0 h0 => ⟨s0, h0.drop1 (fun _ _ _ => hw _)⟩⟩
theorem HalfF.skip {w : World} {b o j i : Nat} {l : List Rl} {np : Rl → Bool} (h : HalfF w b o l np j i) (hj : j < l.length) (e : np l[j] = false) : HalfF w b o l np (j + 1) i := by
  have hd := filter_noR hj e
  exact ⟨by rw [hd]; exact h.len, fun k hk => by simp only [hd]; exact h.low k (by rw [← hd]; exact hk), fun k hk hjk => h.high k hk (by omega), h.all⟩
theorem HalfF.put {w : World} {b o j i : Nat} {l : List Rl} {np : Rl → Bool} (h : HalfF w b o l np j i) (hj : j < l.length) (hij : i ≤ j) (e : np l[j] = true) : HalfF (W2 w b (o + i * 2) l[j]) b o l np (j + 1) (i + 1) := by
  have hd := filter_yesR hj e
  refine ⟨by rw [hd, List.length_append, h.len]; rfl, fun k hk => ?_, fun k hk hjk => ?_, fun k hk => ?_⟩
  · rw [hd, List.length_append, h.len] at hk
    simp only [List.length_cons, List.length_nil] at hk
    by_cases hik : k < i
    · have e1 : ((l.take (j + 1)).filter np)[k]'(by rw [hd, List.length_append, h.len]; simp; omega) = ((l.take j).filter np)[k]'(by rw [h.len]; exact hik) := by
        simp only [hd]; rw [List.getElem_append_left]
      rw [e1]
      exact (h.low k (by rw [h.len]; exact hik)).drop1 (fun _ _ _ => w2_far _ _ _ _ _ (by omega))
    · obtain rfl : k = i := by omega
      have e1 : ((l.take (j + 1)).filter np)[k]'(by rw [hd, List.length_append, h.len]; simp) = l[j] := by
        simp only [hd]; rw [List.getElem_append_right (by rw [h.len]; exact Nat.le_refl _)]; simp [h.len]
      rw [e1]
      obtain ⟨s0, h0⟩ := h.all k (by omega)
      exact w2_new _ _ h0
  · exact (h.high k hk (by omega)).drop1 (fun _ _ _ => w2_far _ _ _ _ _ (by omega))
  · obtain ⟨s0, h0⟩ := h.all k hk
    by_cases hik : k = i
    · subst hik; exact ⟨_, w2_new _ _ h0⟩
    · exact ⟨s0, h0.drop1 (fun _ _ _ => w2_far _ _ _ _ _ (by omega))⟩
theorem HalfF.start {w : World} {b o k : Nat} {l : List Rl} {np : Rl → Bool} (hx : ∀ j u, (l.flatMap Rl.cells)[j]? = some u → w.cell? ⟨b, o + j, none⟩ = some u) (hk : k < l.length) (h0 : np l[k] = false) (h1 : ∀ j (hj : j < l.length), j < k → np l[j] = true) : HalfF w b o l np (k + 1) k := by
  have hd : (l.take (k + 1)).filter np = l.take k := by
    rw [filter_noR hk h0, List.filter_eq_self]
    intro x hx
    obtain ⟨j, hj, rfl⟩ := List.getElem_of_mem hx
    rw [List.getElem_take]
    rw [List.length_take] at hj
    exact h1 j (by omega) (by omega)
  refine ⟨by rw [hd, List.length_take]; omega, fun i hi => ?_, fun i hi _ => rl_cell (w := w) hx i hi, fun i hi => ⟨_, rl_cell (w := w) hx i hi⟩⟩
  have hi' : i < l.length := by rw [hd, List.length_take] at hi; omega
  have e : ((l.take (k + 1)).filter np)[i] = l[i] := by simp only [hd, List.getElem_take]
  rw [e]
  exact rl_cell (w := w) hx i hi'
theorem HalfF.done {w : World} {b o j i : Nat} {l : List Rl} {np : Rl → Bool} (h : HalfF w b o l np j i) (hj : j = l.length) : (l.filter np).length = i ∧ ∀ k (hk : k < (l.filter np).length), Two w b (o + k * 2) (l.filter np)[k] := by
  subst hj
  obtain ⟨h1, h2, _, _⟩ := h
  simp only [List.take_of_length_le (Nat.le_refl _)] at h1 h2
  exact ⟨h1, h2⟩
theorem HalfF.some {w : World} {b o j i : Nat} {l : List Rl} {np : Rl → Bool} (h : HalfF w b o l np j i) (hi : i ≤ l.length) : ∀ k, k < (l.length - i) * 2 → (w.cell? ⟨b, o + i * 2 + k, none⟩).isSome = true := by
  intro k hk
  obtain ⟨s0, h0⟩ := h.all (i + k / 2) (by omega)
  have := two_someR h0 (k % 2) (Nat.mod_lt _ (by decide))
  rwa [show o + (i + k / 2) * 2 + k % 2 = o + i * 2 + k by omega] at this
set_option maxRecDepth 100000 in
set_option maxHeartbeats 8000000 in
/-- slices.DeleteFunc at a row of roles of the call's own. -/
theorem rl_DeleteFunc (b o cap : Nat) (l : List Rl) (w : World) (hl : l.length ≤ 1000) (hc : l.length ≤ cap) (hcm : cap ≤ 9223372036854775807) (hb : b < w.heap.size)
    (hx : ∀ j u, (l.flatMap Rl.cells)[j]? = some u → w.cell? ⟨b, o + j, none⟩ = some u) (hf : ∀ i, w.frozen? ⟨b, i, none⟩ = false)
    (g : Nat) (cb : Array Value) (p : Rl → Bool) (eg : ∀ args w, (callFunc g args).run Tryz.prog w = .ok (.enter g args) w)
    (hp : ∀ x W, w.grownBy W (some b) → Calls Tryz.prog g (#[rv x] ++ cb) W fun e w' => e = .returned (.bool (p x)) ∧ Below W.heap.size W w') :
    Calls Tryz.prog 53 #[.slice (some ⟨b, o, none⟩) l.length cap, .func (.func g) #[] cb] w fun e w' =>
      e = .returned (.slice (some ⟨b, o, none⟩) (l.filter fun x => !p x).length cap) ∧ (∀ j u, ((l.filter fun x => !p x).flatMap Rl.cells)[j]? = some u → w'.cell? ⟨b, o + j, none⟩ = some u) ∧ w.grownBy w' (some b) := by
  have hmax : maxLen = 9223372036854775807 := by decide
  have HX := Lib.hid hx
  have HP := Lib.hid hp
  have HF := Lib.hid hf
  have IDX := Lib.hid (rl_IndexFunc (.slice (some ⟨b, o, none⟩) l.length cap) l w (Sl.a ⟨flat_len _ _ Rl.cells_len _, by omega, .inr ⟨b, o, cap, rfl, hc, by omega, hb, hx⟩⟩) g cb p eg (fun x W _ hW => hp x W (grown_of_below hW _)))
  clear hx hp hf
  go_enter Tryz.func53, Tryz.ntmps53
  go_wp2_with fail
  refine IDX.out.mono ?_
  rintro e w1 ⟨⟨i, rfl, hidx⟩, hb1⟩
  have HB1 := Lib.hid hb1
  rcases hidx with ⟨rfl, hno⟩ | ⟨k, hk, rfl, hyes, hbef⟩
  · have R := Lib.hid (show (l.filter fun x => !p x) = l by rw [List.filter_eq_self]; intro x hx; rw [hno x hx]; rfl)
    clear hno hb1
    go_wp2
    go_ret
    exact ⟨by rw [R.out]; rfl, by rw [R.out]; exact fun j u hu => (HB1.out.cell (p := ⟨b, o + j, none⟩) hb).trans (HX.out j u hu), grown_of_below HB1.out _⟩
  · have d1 : ((k : Int) == -1) = false := by rw [beq_eq_false_iff_ne]; omega
    have H0 := Lib.hid (HalfF.start (np := fun x => !p x) (w := w1) (b := b) (o := o) (fun j u hu => (HB1.out.cell (p := ⟨b, o + j, none⟩) hb).trans (HX.out j u hu)) hk (by rw [hyes]; rfl) (fun j hj hjk => by rw [hbef j hj hjk]; rfl))
    have F0 := Lib.hid (fun i => (HB1.out.frozen (p := ⟨b, i, none⟩) hb).trans (HF.out i))
    have hb1s : b < w1.heap.size := Nat.lt_of_lt_of_le hb HB1.out.size
    clear hyes hbef hb1
    go_wp2_with fail
    go_loopw [5, 6] (fun iv jv wr => ∃ i j : Nat, i < j ∧ j ≤ l.length ∧ iv = .int .i64 i ∧ jv = .int .i64 j ∧ Hid (HalfF wr b o l (fun x => !p x) j i) ∧ Hid (w.grownBy wr (some b)) ∧ Hid (∀ i, wr.frozen? ⟨b, i, none⟩ = false) ∧ b < wr.heap.size) (fun _ jv _ => l.length - (intOf jv).toNat)
    case atStart => exact ⟨k, k + 1, by omega, by omega, rfl, by go_num, H0, Lib.hid (grown_of_below HB1.out _), F0, hb1s⟩
    case round =>
      obtain ⟨i, j, hij, hj, rfl, rfl, HH, HG, HFR, hbr⟩ := hrel
      by_cases hlt : j < l.length
      · obtain ⟨p0, p1⟩ := HH.out.high j hlt (Nat.le_refl _)
        have hil : i < l.length := by omega
        obtain ⟨s0, q0, q1⟩ := HH.out.all i hil
        have PC := Lib.hid (fun W h => HP.out l[j] W h)
        have YES : Hid (∀ W, HalfF W b o l (fun x => !p x) j i → p l[j] = false → HalfF (W2 W b (o + i * 2) l[j]) b o l (fun x => !p x) (j + 1) (i + 1)) := Lib.hid (fun W h e => h.put hlt (by omega) (by rw [e]; rfl))
        have NO : Hid (∀ W, HalfF W b o l (fun x => !p x) j i → p l[j] = true → HalfF W b o l (fun x => !p x) (j + 1) i) := Lib.hid (fun W h e => h.skip hlt (by rw [e]; rfl))
        generalize p l[j] = px at PC YES NO
        generalize l[j] = x at *
        obtain ⟨x1, x2⟩ := x
        have HGA := Lib.hid (gb_alloc HG.out (.cells #[.string x1, .string x2] 50))
        go_wp2_with fail
        refine (PC.out _ HGA.out).mono ?_
        rintro e w2 ⟨rfl, hb2a⟩
        have HBK := Lib.hid (keep1 hb2a)
        have hb2 : Below wr.heap.size wr w2 := ((Below.refl _ _).alloc (Nat.le_refl _) _).trans (hb2a.mono (by simp))
        have HB2 := Lib.hid hb2
        obtain ⟨cx, fx, zx⟩ := HBK.out
        have hc2 := Lib.hid (fun i => hb2.cell (p := ⟨b, i, none⟩) hbr)
        have f2 : ∀ i, w2.frozen? ⟨b, i, none⟩ = false := fun i => (hb2.frozen (p := ⟨b, i, none⟩) hbr).trans (HFR.out i)
        have p0' := (hc2.out _).trans p0
        have p1' := (hc2.out _).trans p1
        have q0' := (hc2.out _).trans q0
        have q1' := (hc2.out _).trans q1
        have hbr2 : b < w2.heap.size := Nat.lt_of_lt_of_le hbr hb2.size
        have HG2 := Lib.hid (gb_trans HG.out (gb_of_below (r := some b) hb2))
        have HM := Lib.hid (HH.out.move hc2.out)
        clear hb2 hb2a p0 p1 q0 q1
        cases px with
        | true =>
          have R := Lib.hid (NO.out _ HM.out rfl)
          go_wp2
          exact ⟨⟨i, j + 1, by omega, by omega, rfl, by go_num, R, HG2, Lib.hid f2, hbr2⟩, by simp [intOf]; omega⟩
        | false =>
          have R := Lib.hid (YES.out _ HM.out rfl)
          go_wp2
          refine ⟨⟨i + 1, j + 1, by omega, by omega, by go_num, by go_num, Lib.hid ?_, Lib.hid ?_, Lib.hid ?_, ?_⟩, by simp [intOf]; omega⟩
          · have h := R.out
            unfold W2 at h
            with_reducible exact h
          · have h := grown_w9R (b := b) (a := o + i * 2) (s := ⟨x1, x2⟩) HG2.out
            unfold W2 at h
            with_reducible exact h
          · intro i
            simpa using f2 i
          · simpa using hbr2
      · obtain ⟨hlen, hlow⟩ := HH.out.done (by omega)
        have HLEN := Lib.hid hlen
        have HLOW := Lib.hid hlow
        have hil : i < l.length := by omega
        have hic : i < cap := by omega
        obtain ⟨W', hW, hclr⟩ : ∃ W', W' = wr.setCells b (o + i * 2) (Builtin.zeroCells zeroRl.cells (l.length - i)).toList ∧ ∀ ty, Sem.run Tryz.prog (Builtin.clear_ #[23] ty #[.slice (some ⟨b, o + i * 2, none⟩) (l.length - i) (cap - i)]) wr = .ok (.tuple #[]) W' :=
          ⟨_, rfl, fun ty => run_clear2R wr _ 50 ty zeroRl Tryz.underlying23 rl_zero b (o + i * 2) (l.length - i) (cap - i) (by omega) rfl (HH.out.some (by omega)) (fun j => HFR.out _) (zero_oneR _)⟩
        have HOUT : Hid (∀ k, k < o + i * 2 → W'.cell? ⟨b, k, none⟩ = wr.cell? ⟨b, k, none⟩) := Lib.hid (fun k hk => by rw [hW]; exact World.cell?_setCells_out b _ _ _ _ (fun _ _ => .inl hk))
        have HGW : Hid (w.grownBy W' (some b)) := Lib.hid (by rw [hW]; exact grown_sets _ _ _ HG.out)
        clear hlen hlow hW
        go_wp2_with fail
        go_ret
        refine ⟨by rw [HLEN.out]; rfl, ?_, HGW.out⟩
        refine two_cellsR (fun k hk => (HLOW.out k hk).drop1 (fun j h1 h2 => HOUT.out j ?_))
        have := HLEN.out
        omega
set_option maxHeartbeats 1000000 in
theorem rl_DeleteNil (w : World) (g : Nat) (cb : Array Value) (eg : ∀ args w, (callFunc g args).run Tryz.prog w = .ok (.enter g args) w) :
    Calls Tryz.prog 53 #[.slice none 0 0, .func (.func g) #[] cb] w fun e w' => e = .returned (.slice none 0 0) ∧ Below w.heap.size w w' := by
  have IDX := Lib.hid (rl_IndexFunc (.slice none 0 0) [] w (Sl.nil _ _).a g cb (fun _ => false) eg (fun x W hx _ => by cases hx))
  go_enter Tryz.func53, Tryz.ntmps53
  go_wp2_with fail
  refine IDX.out.mono ?_
  rintro e w1 ⟨⟨i, rfl, hidx⟩, hb1⟩
  have HB1 := Lib.hid hb1
  rcases hidx with ⟨rfl, _⟩ | ⟨k, hk, _⟩
  · clear hb1
    go_wp2
    go_ret
    exact ⟨rfl, HB1.out⟩
  · exact absurd hk (by simp)
end Go.Proofs.YtmpanikeeeoikaaGreat
namespace Go.Proofs.YtmpanikeeeoikaaGreat
open Go.RowKit Go.Shelf

set_option maxRecDepth 100000 in
set_option maxHeartbeats 4000000 in
/-- crupperref10.Of: those of a row in order that aren't in another one, in a row of its own. -/
theorem ref10_OfO (va vb : Value) (l0 m : List St) (w : World) (ha0 : SlA w 9 va l0.length (l0.flatMap St.cells)) (hb0 : SlA w 9 vb m.length (m.flatMap St.cells)) (hl0 : l0.length ≤ 1000) :
    Calls Tryz.prog 27 #[va, vb, .bool false] w fun e w' => ∃ v base, e = .returned v ∧ w.heap.size ≤ base ∧ base ≤ w'.heap.size ∧ w'.ownsRow base 52 9 v ((ord l0).filter fun x => !hasS m x).length (((ord l0).filter fun x => !hasS m x).flatMap St.cells) ∧ Below w.heap.size w w' := by
  have RS := Lib.hid (ref3_Sort va l0 w ha0 hl0)
  have hlen := ord_len l0
  have HBM := Lib.hid hb0
  obtain ⟨bo, bc, hvb⟩ := hb0.form
  subst hvb
  have RH := Lib.hid (fun x W h => ref3_Has (.slice bo m.length bc) m x W h)
  obtain ⟨a0, ac0, hva⟩ := ha0.form
  subst hva
  change Hid (Calls Tryz.prog 34 _ w fun e w' => ∃ v, e = .returned v ∧ Sl w' 9 v (ord l0).length ((ord l0).flatMap St.cells) ∧ Below w.heap.size w w') at RS
  generalize ord l0 = l at RS hlen ⊢
  generalize hp : (fun x => !hasS m x) = p
  have PE := Lib.hid (show ∀ x, p x = !hasS m x from fun x => by rw [← hp])
  clear ha0 hb0 hp
  go_enter Tryz.func27, Tryz.ntmps27
  go_wp2_with fail
  refine RS.out.mono ?_
  rintro e w1 ⟨va, rfl, hs1, hb1⟩
  have HA := Lib.hid hs1
  have HB0 := Lib.hid hb1
  have HBM := Lib.hid (HBM.out.below hb1)
  have hmax := hs1.max
  obtain ⟨ao, cap, hva⟩ := hs1.form
  subst hva
  clear hs1 hb1
  go_wp2_with fail
  go_loopw [7, 13] (fun vo i wr => ∃ k : Nat, k ≤ l.length ∧ i = .int .i64 k ∧ Hid (Below w1.heap.size w1 wr) ∧ Hid (wr.ownsRow w1.heap.size 52 9 vo ((l.take k).filter p).length (((l.take k).filter p).flatMap St.cells))) (fun _ i _ => l.length - (intOf i).toNat)
  case atStart => exact ⟨0, by omega, rfl, Lib.hid (Below.refl _ _), Lib.hid (World.ownsRow_nil _ _ _ _)⟩
  case round =>
    obtain ⟨k, hk, rfl, HB, HO⟩ := hrel
    obtain ⟨oo, oc, rfl⟩ := own_form HO.out
    by_cases hlt : k < l.length
    · obtain ⟨b1, o1, c1, he1, hc1, hm1, hb1, hx1⟩ := HA.out.pos (by omega)
      simp only [Value.slice.injEq, true_and] at he1
      obtain ⟨rfl, rfl⟩ := he1
      obtain ⟨p0, p1, p2, p3, p4, p5, p6, p7, p8⟩ := st_cell (w := wr) (fun j u hu => (HB.out.cell (p := ⟨b1, o1 + j, none⟩) hb1).trans (hx1 j u hu)) k hlt
      have hbr : b1 < wr.heap.size := Nat.lt_of_lt_of_le hb1 HB.out.size
      have PC := Lib.hid (fun W h => RH.out l[k] W h)
      have PX := Lib.hid (PE.out l[k])
      have FY := Lib.hid (fun h => filter_yes (p := p) hlt h)
      have FN := Lib.hid (fun h => filter_no (p := p) hlt h)
      have hlk : ((l.take k).filter p).length ≤ l.length := Nat.le_trans (List.length_filter_le _ _) (by simp; omega)
      have hek : l[k] = ⟨l[k].k, ⟨l[k].h.o, l[k].h.n⟩, l[k].who, ⟨l[k].a.o, l[k].a.n⟩, ⟨l[k].b.o, l[k].b.n⟩, l[k].via⟩ := rfl
      generalize l[k] = x at *
      obtain ⟨xk, ⟨x1, x2⟩, xw, ⟨x3, x4⟩, ⟨x5, x6⟩, xv⟩ := x
      rw [PX.out] at FY FN
      generalize hasS m ⟨xk, ⟨x1, x2⟩, xw, ⟨x3, x4⟩, ⟨x5, x6⟩, xv⟩ = px at PC FY FN
      clear PX
      clear hek hx1
      have HB1 := Lib.hid (HB.out.alloc HB.out.size (.cells #[.int .i64 xk, .string x1, .string x2, .string xw, .string x3, .string x4, .string x5, .string x6, .string xv] 52))
      go_wp2_with fail
      refine (PC.out _ (HBM.out.below HB1.out)).mono ?_
      rintro e w2 ⟨rfl, hb2⟩
      have HB2 := Lib.hid (HB1.out.trans (hb2.mono HB1.out.size))
      have HBK := Lib.hid (keep1 hb2)
      have HO2 := Lib.hid (own_below (own_below HO.out ((Below.refl _ _).alloc (Nat.le_refl _) _)) hb2)
      obtain ⟨cx, fx, zx⟩ := HBK.out
      have hz2 := HB2.out.size
      clear hb2
      cases px with
      | true =>
        have e := Lib.hid (FN.out rfl)
        clear FY FN
        go_wp2_with fail
        exact ⟨⟨k + 1, by omega, by go_num, HB2, Lib.hid (by rw [e.out]; exact HO2.out)⟩, by simp [intOf]; omega⟩
      | false =>
        have e := Lib.hid (FY.out rfl)
        clear FY FN
        have hown := HO2.out
        go_wp2_with (at_builtin; refine halt_ ?_)
        unfold Halt_
        refine app_own Tryz.underlying22 st_info rfl (by decide) (by decide) rfl _ _ rfl w1.heap.size rfl (hown.alloc _) [.int .i64 xk, .string x1, .string x2, .string xw, .string x3, .string x4, .string x5, .string x6, .string xv] rfl (heap_new1 _ _) rfl (st_one ⟨xk, ⟨x1, x2⟩, xw, ⟨x3, x4⟩, ⟨x5, x6⟩, xv⟩) ?_ ?_ ?_
        · omega
        · simp; omega
        intro a' cap' w3 hown' hgrow
        have HO3 := Lib.hid (show w3.ownsRow w1.heap.size 52 9 _ (((l.take (k + 1)).filter p).length) (((l.take (k + 1)).filter p).flatMap St.cells) by rw [e.out, flat_snoc, List.length_append]; exact hown')
        have HB3 := Lib.hid (below_own (HB2.out.alloc HB2.out.size (.cells #[.int .i64 xk, .string x1, .string x2, .string xw, .string x3, .string x4, .string x5, .string x6, .string xv] 52)) (hown.alloc _) hgrow (by simp; omega) (Nat.le_refl _))
        clear hown' hgrow hown
        go_wp2_with fail
        refine ⟨⟨k + 1, by omega, by go_num, HB3, ?_⟩, by simp [intOf]; omega⟩
        rw [e.out, List.length_append] at HO3
        rw [e.out, List.length_append]
        exact HO3
    · have e := Lib.hid (show l.take k = l by rw [List.take_of_length_le (by omega)])
      go_wp2_with fail
      go_ret
      exact ⟨_, w1.heap.size, rfl, HB0.out.size, HB.out.size, by have := HO.out; rw [e.out] at this ⊢; exact this, HB0.out.trans (HB.out.mono HB0.out.size)⟩
theorem ref10_Of (va vb : Value) (l0 m : List St) (w : World) (ha0 : SlA w 9 va l0.length (l0.flatMap St.cells)) (hb0 : SlA w 9 vb m.length (m.flatMap St.cells)) (hl0 : l0.length ≤ 1000) :
    Calls Tryz.prog 27 #[va, vb, .bool false] w fun e w' => ∃ v, e = .returned v ∧ Sl w' 9 v ((ord l0).filter fun x => !hasS m x).length (((ord l0).filter fun x => !hasS m x).flatMap St.cells) ∧ Below w.heap.size w w' :=
  (ref10_OfO va vb l0 m w ha0 hb0 hl0).mono fun _ _ ⟨v, _, he, _, _, ho, hb⟩ => ⟨v, he, Sl.of_own ho, hb⟩
end Go.Proofs.YtmpanikeeeoikaaGreat
namespace Go.Proofs.YtmpanikeeeoikaaGreat
open Go.RowKit Go.Shelf

def rightK (l : List St) (k : Nat) : Bool := decide (l = ord l) && (l.take k).all rightS
theorem rightK_step (l : List St) (k : Nat) (h : k < l.length) : rightK l (k + 1) = (rightK l k && rightS l[k]) := by
  unfold rightK
  rw [List.take_succ_eq_append_getElem h, List.all_append, Bool.and_assoc]
  simp
theorem rightK_zero (l : List St) : rightK l 0 = decide (l = ord l) := by simp [rightK]
theorem rightK_end (l : List St) : rightK l l.length = isS l := by
  unfold rightK
  rw [List.take_length, Bool.eq_iff_iff, isS_iff, Bool.and_eq_true, decide_eq_true_iff, List.all_eq_true]
  constructor
  · rintro ⟨h1, h2⟩
    exact ⟨h2, by rw [h1]; exact ord_asc l⟩
  · rintro ⟨h1, h2⟩
    exact ⟨(asc_ord h2).symm, h1⟩
theorem ref3_SameT (va vb : Value) (l : List St) (w : World) (ha : SlA w 9 va l.length (l.flatMap St.cells)) (hb : SlA w 9 vb l.length (l.flatMap St.cells)) :
    Calls Tryz.prog 29 #[va, vb] w fun e w' => e = .returned (.bool true) ∧ Below w.heap.size w w' :=
  (ref3_Same va vb l l w ha hb).mono fun e w' ⟨he, n, hn⟩ => ⟨by rw [he, decide_eq_true rfl], by rw [hn]; exact below_of_drewN n⟩

theorem ref3_SameB (va vb : Value) (l m : List St) (w : World) (ha : SlA w 9 va l.length (l.flatMap St.cells)) (hb : SlA w 9 vb m.length (m.flatMap St.cells)) :
    Calls Tryz.prog 29 #[va, vb] w fun e w' => e = .returned (.bool (decide (l = m))) ∧ Below w.heap.size w w' :=
  (ref3_Same va vb l m w ha hb).mono fun e w' ⟨he, n, hn⟩ => ⟨he, by rw [hn]; exact below_of_drewN n⟩
theorem state_SameB (va vb : Value) (l m : List St) (w : World) (ha : SlA w 9 va l.length (l.flatMap St.cells)) (hb : SlA w 9 vb m.length (m.flatMap St.cells)) :
    Calls Tryz.prog 41 #[va, vb] w fun e w' => e = .returned (.bool (decide (l = m))) ∧ Below w.heap.size w w' :=
  (state_Same va vb l m w ha hb).mono fun e w' ⟨he, n, hn⟩ => ⟨he, by rw [hn]; exact below_of_drewN n⟩

end Go.Proofs.YtmpanikeeeoikaaGreat
namespace Go.Proofs.YtmpanikeeeoikaaGreat
open Go.RowKit Go.Shelf

def minusS (l m : List St) : List St := ord (l.filter fun x => !hasS m x)
def unionS (l m : List St) : List St := ord (l ++ m)
theorem minus_mem (l m : List St) (x : St) : x ∈ minusS l m ↔ x ∈ l ∧ ¬ x ∈ m := by
  unfold minusS
  rw [ord_mem, List.mem_filter, Bool.not_eq_true', ← Bool.not_eq_true, hasS_mem]
theorem union_mem (l m : List St) (x : St) : x ∈ unionS l m ↔ x ∈ l ∨ x ∈ m := by
  unfold unionS; rw [ord_mem, List.mem_append]
theorem minus_asc (l m : List St) : Asc (minusS l m) := ord_asc _
theorem union_asc (l m : List St) : Asc (unionS l m) := ord_asc _
theorem minus_len (l m : List St) : (minusS l m).length ≤ l.length := Nat.le_trans (ord_len _) (List.length_filter_le _ _)
theorem union_len (l m : List St) : (unionS l m).length ≤ l.length + m.length := by have := ord_len (l ++ m); rwa [List.length_append] at this
theorem parts1 (l m : List St) : unionS (minusS l (minusS l m)) (minusS l m) = unionS l [] := by
  refine asc_unique _ _ (union_asc _ _) (union_asc _ _) fun x => ?_
  simp only [union_mem, minus_mem, List.not_mem_nil, or_false]
  by_cases h1 : x ∈ l <;> by_cases h2 : x ∈ m <;> simp [h1, h2]
theorem parts2 (l m : List St) : minusS m (minusS m l) = minusS l (minusS l m) := by
  refine asc_unique _ _ (minus_asc _ _) (minus_asc _ _) fun x => ?_
  simp only [minus_mem]
  by_cases h1 : x ∈ l <;> by_cases h2 : x ∈ m <;> simp [h1, h2]
theorem parts3 (l m : List St) : unionS (minusS l (minusS l m)) (minusS m l) = unionS m [] := by
  refine asc_unique _ _ (union_asc _ _) (union_asc _ _) fun x => ?_
  simp only [union_mem, minus_mem, List.not_mem_nil, or_false]
  by_cases h1 : x ∈ l <;> by_cases h2 : x ∈ m <;> simp [h1, h2]
theorem parts4 (l : List St) : minusS l l = [] := by
  refine asc_unique _ _ (minus_asc _ _) List.Pairwise.nil fun x => ?_
  simp only [minus_mem, List.not_mem_nil]
  simp
theorem parts5 {l m : List St} {x : St} (h : x ∈ minusS l (minusS l m)) : hasS l x = true ∧ hasS m x = true := by
  rw [hasS_mem, hasS_mem]
  simp only [minus_mem] at h
  by_cases h2 : x ∈ m
  · exact ⟨h.1, h2⟩
  · exact absurd ⟨h.1, h2⟩ h.2

theorem stMinus (va vb : Value) (l m : List St) (w : World) (ha : SlA w 9 va l.length (l.flatMap St.cells)) (hb : SlA w 9 vb m.length (m.flatMap St.cells)) (hl : l.length ≤ 1000) :
    Calls Tryz.prog 25 #[va, vb] w fun e w' => ∃ v, e = .returned v ∧ Sl w' 9 v (minusS l m).length ((minusS l m).flatMap St.cells) ∧ Below w.heap.size w w' := state_Minus va vb l m w ha hb hl
theorem stUnion (va vb : Value) (l m : List St) (w : World) (ha : SlA w 9 va l.length (l.flatMap St.cells)) (hb : SlA w 9 vb m.length (m.flatMap St.cells)) (hl : l.length ≤ 400) (hm : m.length ≤ 400) :
    Calls Tryz.prog 32 #[va, vb] w fun e w' => ∃ v, e = .returned v ∧ Sl w' 9 v (unionS l m).length ((unionS l m).flatMap St.cells) ∧ Below w.heap.size w w' := state_Union va vb l m w ha hb hl hm

end Go.Proofs.YtmpanikeeeoikaaGreat
namespace Go.Proofs.YtmpanikeeeoikaaGreat
open Go.RowKit Go.Shelf

/-- How two policies differ. -/
structure Dl where
  more : List St
  gone : List St
  grow : List Rl
  ungrow : List Rl
  shrink : List Rl
  unshrink : List Rl
/-- Roles that aren't among others, in order; roles and others, in order. -/
def outR (a b : List Rl) : List Rl := (ordR a).filter fun x => !hasR b x
def withR (a b : List Rl) : List Rl := ordR (a ++ b)
def Dl.of (l1 : List St) (g1 h1 : List Rl) (l2 : List St) (g2 h2 : List Rl) : Dl := ⟨minusS l2 l1, minusS l1 l2, outR g2 g1, outR g1 g2, outR h2 h1, outR h1 h2⟩
def Dl.back (d : Dl) : Dl := ⟨d.gone, d.more, d.ungrow, d.grow, d.unshrink, d.shrink⟩
def Dl.sames (d : Dl) (l : List St) : List St := unionS (minusS l d.gone) d.more
def Dl.grows (d : Dl) (g : List Rl) : List Rl := withR (outR g d.ungrow) d.grow
def Dl.shrinks (d : Dl) (h : List Rl) : List Rl := withR (outR h d.unshrink) d.shrink
theorem out_memR (a b : List Rl) (x : Rl) : x ∈ outR a b ↔ x ∈ a ∧ ¬ x ∈ b := by
  unfold outR
  rw [List.mem_filter, ord_memR, Bool.not_eq_true', ← Bool.not_eq_true, hasR_mem]
theorem out_ascR (a b : List Rl) : AscR (outR a b) := (ord_ascR a).filter _
theorem with_memR (a b : List Rl) (x : Rl) : x ∈ withR a b ↔ x ∈ a ∨ x ∈ b := by
  unfold withR
  rw [ord_memR, List.mem_append]
theorem with_ascR (a b : List Rl) : AscR (withR a b) := ord_ascR _
theorem out_lenR (a b : List Rl) : (outR a b).length ≤ a.length := Nat.le_trans (List.length_filter_le _ _) (ord_lenR a)
theorem with_lenR (a b : List Rl) : (withR a b).length ≤ a.length + b.length := by have := ord_lenR (a ++ b); rwa [List.length_append] at this
/-- Each policy is what the other one is, with how they differ. -/
theorem out_with {a b : List Rl} : withR (outR a (outR a b)) (outR b a) = ordR b := by
  refine asc_uniqueR _ _ (with_ascR _ _) (ord_ascR _) fun x => ?_
  rw [with_memR, out_memR, out_memR, out_memR, ord_memR]
  by_cases h1 : x ∈ a <;> by_cases h2 : x ∈ b <;> simp [h1, h2]
theorem out_self (a : List Rl) : outR a a = [] := by
  refine List.eq_nil_iff_forall_not_mem.2 fun x hx => ?_
  have := (out_memR a a x).1 hx
  exact this.2 this.1
theorem minus_union (a b : List St) : unionS (minusS a (minusS a b)) (minusS b a) = ord b := by
  refine asc_unique _ _ (union_asc _ _) (ord_asc _) fun x => ?_
  rw [union_mem, minus_mem, minus_mem, minus_mem, ord_mem]
  by_cases h1 : x ∈ a <;> by_cases h2 : x ∈ b <;> simp [h1, h2]
theorem Dl.of_self (l : List St) (g h : List Rl) : Dl.of l g h l g h = ⟨[], [], [], [], [], []⟩ := by
  unfold Dl.of; rw [parts4, out_self, out_self]
theorem Dl.apply_of (l1 : List St) (g1 h1 : List Rl) (l2 : List St) (g2 h2 : List Rl) :
    (Dl.of l1 g1 h1 l2 g2 h2).sames l1 = ord l2 ∧ (Dl.of l1 g1 h1 l2 g2 h2).grows g1 = ordR g2 ∧ (Dl.of l1 g1 h1 l2 g2 h2).shrinks h1 = ordR h2 := ⟨minus_union _ _, out_with, out_with⟩
theorem Dl.of_back (l1 : List St) (g1 h1 : List Rl) (l2 : List St) (g2 h2 : List Rl) : (Dl.of l1 g1 h1 l2 g2 h2).back = Dl.of l2 g2 h2 l1 g1 h1 := rfl
/-- The marks of lines; a difference's lines. -/
def mk0 : ByteArray := ⟨#[45, 32]⟩
def mk1 : ByteArray := ⟨#[43, 32]⟩
def mk2 : ByteArray := ⟨#[45, 32, 103, 114, 111, 119, 32]⟩
def mk3 : ByteArray := ⟨#[43, 32, 103, 114, 111, 119, 32]⟩
def mk4 : ByteArray := ⟨#[45, 32, 115, 104, 114, 105, 110, 107, 32]⟩
def mk5 : ByteArray := ⟨#[43, 32, 115, 104, 114, 105, 110, 107, 32]⟩
def lnS (m : ByteArray) (l : List St) : List ByteArray := l.map fun s => m ++ printS s
def lnR (m : ByteArray) (l : List Rl) : List ByteArray := l.map fun r => m ++ roleT r
def Dl.lines (d : Dl) : List ByteArray := lnS mk0 d.gone ++ lnS mk1 d.more ++ lnR mk2 d.ungrow ++ lnR mk3 d.grow ++ lnR mk4 d.unshrink ++ lnR mk5 d.shrink
/-- The six slices of a difference in a world. -/
structure DlAt (w : World) (v0 v1 v2 v3 v4 v5 : Value) (d : Dl) : Prop where
  a0 : SlA w 9 v0 d.more.length (d.more.flatMap St.cells)
  a1 : SlA w 9 v1 d.gone.length (d.gone.flatMap St.cells)
  a2 : SlA w 2 v2 d.grow.length (d.grow.flatMap Rl.cells)
  a3 : SlA w 2 v3 d.ungrow.length (d.ungrow.flatMap Rl.cells)
  a4 : SlA w 2 v4 d.shrink.length (d.shrink.flatMap Rl.cells)
  a5 : SlA w 2 v5 d.unshrink.length (d.unshrink.flatMap Rl.cells)
theorem DlAt.below {w w' : World} {v0 v1 v2 v3 v4 v5 : Value} {d : Dl} (h : DlAt w v0 v1 v2 v3 v4 v5 d) (hb : Below w.heap.size w w') : DlAt w' v0 v1 v2 v3 v4 v5 d :=
  ⟨h.a0.below hb, h.a1.below hb, h.a2.below hb, h.a3.below hb, h.a4.below hb, h.a5.below hb⟩
theorem DlAt.back {w : World} {v0 v1 v2 v3 v4 v5 : Value} {d : Dl} (h : DlAt w v0 v1 v2 v3 v4 v5 d) : DlAt w v1 v0 v3 v2 v5 v4 d.back := ⟨h.a1, h.a0, h.a3, h.a2, h.a5, h.a4⟩
/-- A difference's value. -/
abbrev dv (v0 v1 v2 v3 v4 v5 : Value) : Value := .agg #[v0, v1, v2, v3, v4, v5]
/-- A value is a difference in a world. -/
def DlV (w : World) (v : Value) (d : Dl) : Prop := ∃ v0 v1 v2 v3 v4 v5, v = dv v0 v1 v2 v3 v4 v5 ∧ DlAt w v0 v1 v2 v3 v4 v5 d
theorem DlV.below {w w' : World} {v : Value} {d : Dl} (h : DlV w v d) (hb : Below w.heap.size w w') : DlV w' v d := by
  obtain ⟨v0, v1, v2, v3, v4, v5, rfl, h⟩ := h
  exact ⟨v0, v1, v2, v3, v4, v5, rfl, h.below hb⟩
/-- Each row of a difference is short, and so are its texts. -/
structure Dl.le (d : Dl) (n m : Nat) : Prop where
  n0 : d.more.length ≤ n
  n1 : d.gone.length ≤ n
  n2 : d.grow.length ≤ n
  n3 : d.ungrow.length ≤ n
  n4 : d.shrink.length ≤ n
  n5 : d.unshrink.length ≤ n
  t0 : allLe d.more m
  t1 : allLe d.gone m
  t2 : ∀ x ∈ d.grow, x.le m
  t3 : ∀ x ∈ d.ungrow, x.le m
  t4 : ∀ x ∈ d.shrink, x.le m
  t5 : ∀ x ∈ d.unshrink, x.le m
end Go.Proofs.YtmpanikeeeoikaaGreat
namespace Go.Proofs.YtmpanikeeeoikaaGreat
open Go.RowKit Go.Shelf

set_option maxHeartbeats 1000000 in
theorem delta_without1 (c : Nat) (vb : Value) (m : List Rl) (x : Rl) (w : World) (hc : w.cell? ⟨c, 0, none⟩ = some vb) (hb : SlA w 2 vb m.length (m.flatMap Rl.cells)) :
    Calls Tryz.prog 55 #[rv x, .pointer (some ⟨c, 0, none⟩)] w fun e w' => e = .returned (.bool (hasR m x)) ∧ Below w.heap.size w w' := by
  have H := Lib.hid (fun W h => policy_Has vb m x W h)
  have HB := Lib.hid hb
  have hlt : c < w.heap.size := World.block_lt_of_cell? w _ hc
  generalize hasR m x = r at H ⊢
  obtain ⟨bo, bc, hvb⟩ := hb.form
  subst hvb
  obtain ⟨x1, x2⟩ := x
  clear hb
  go_enter Tryz.func55, Tryz.ntmps55
  go_wp2_with fail
  refine (H.out _ (HB.out.below ((Below.refl _ _).alloc (Nat.le_refl _) _))).mono ?_
  rintro e w1 ⟨rfl, hb1⟩
  have HB1 := Lib.hid (((Below.refl _ w).alloc (Nat.le_refl _) _).trans (hb1.mono (by simp)) : Below w.heap.size w w1)
  clear hb1
  go_wp2
  go_ret
  exact ⟨rfl, HB1.out⟩
theorem below_of_grown {w a b : World} {g : Nat} (h : Below w.heap.size w a) (hg : w.heap.size ≤ g) (hr : a.grownBy b (some g)) : Below w.heap.size w b :=
  h.grown hr h.size (by rintro k ⟨⟩; exact hg)
set_option maxHeartbeats 2000000 in
/-- Roles that aren't among others, in order. -/
theorem delta_without (va vb : Value) (l m : List Rl) (w : World) (ha : SlA w 2 va l.length (l.flatMap Rl.cells)) (hb : SlA w 2 vb m.length (m.flatMap Rl.cells)) (hl : l.length ≤ 1000) :
    Calls Tryz.prog 26 #[va, vb] w fun e w' => ∃ v, e = .returned v ∧ Sl w' 2 v (outR l m).length ((outR l m).flatMap Rl.cells) ∧ Below w.heap.size w w' := by
  have hmax : maxLen = 9223372036854775807 := by decide
  have eg : ∀ args w, (callFunc 55 args).run Tryz.prog w = .ok (.enter 55 args) w := enters_of Tryz.func55 (by kernel_rfl) rfl
  have hw : Below w.heap.size w (w.alloc (.cells #[vb] 23)) := (Below.refl _ _).alloc (Nat.le_refl _) _
  have SO := Lib.hid (pol_SortRoles va l (w.alloc (.cells #[vb] 23)) (ha.below hw) hl)
  have BK := Lib.hid (Blk.new w #[vb] 23)
  have HBM := Lib.hid (hb.below hw)
  have HW := Lib.hid hw
  have HL := Lib.hid (ord_lenR l)
  change Hid (Calls Tryz.prog 54 _ _ fun e w' => ∃ v, e = .returned v ∧ OwnR _ w' v (ordR l) ∧ Below _ _ w') at SO
  have DF := Lib.hid (fun W b cap (h0 : w.heap.size < W.heap.size) (hlow : Below (w.alloc (.cells #[vb] 23)).heap.size (w.alloc (.cells #[vb] 23)) W) (hne : (w.alloc (.cells #[vb] 23)).heap.size ≤ b) (hc : (ordR l).length ≤ cap) (hcm : cap ≤ 9223372036854775807) (hbs : b < W.heap.size) hx hf =>
    rl_DeleteFunc b 0 cap (ordR l) W (Nat.le_trans HL.out hl) hc hcm hbs hx hf 55 #[.pointer (some ⟨w.heap.size, 0, none⟩)] (hasR m) eg (fun x V hV => by
      have hlo : Below (w.alloc (.cells #[vb] 23)).heap.size (w.alloc (.cells #[vb] 23)) V := hlow.grown hV hlow.size (by rintro k ⟨⟩; exact hne)
      exact delta_without1 w.heap.size vb m x V (((BK.out.below hlo).1 0).trans rfl) (HBM.out.below hlo)))
  have DN := Lib.hid (fun W (h0 : ordR l = []) (hlow : Below (w.alloc (.cells #[vb] 23)).heap.size (w.alloc (.cells #[vb] 23)) W) =>
    rl_DeleteNil W 55 #[.pointer (some ⟨w.heap.size, 0, none⟩)] eg)
  have FL := Lib.hid (show (ordR l).filter (fun x => !hasR m x) = outR l m from rfl)
  have FN := Lib.hid (fun (h0 : ordR l = []) => show outR l m = [] by unfold outR; rw [h0]; rfl)
  obtain ⟨ao, ac, hva⟩ := ha.form
  obtain ⟨bo, bc, hvb⟩ := hb.form
  subst hva hvb
  clear ha hb hw eg
  go_enter Tryz.func26, Tryz.ntmps26
  go_wp2_with fail
  refine SO.out.mono ?_
  rintro e w1 ⟨v, rfl, ho, hb1⟩
  have HB1 := Lib.hid hb1
  have HW1 := Lib.hid (HW.out.trans (hb1.mono HW.out.size))
  have hz1 : w.heap.size < w1.heap.size := Nat.lt_of_lt_of_le (by simp) hb1.size
  rcases ho with ⟨rfl, h0⟩ | ⟨g, cap, rfl, h1, h2, h3, h4, h5, h6⟩
  · have D := Lib.hid (DN.out w1 h0 HB1.out)
    have F := Lib.hid (FN.out h0)
    clear hb1 h0 DN DF SO FN FL
    go_wp2_with fail
    refine D.out.mono ?_
    rintro e w2 ⟨rfl, hb2⟩
    have HB2 := Lib.hid (HW1.out.trans (hb2.mono HW1.out.size))
    clear hb2
    go_wp2
    go_ret
    exact ⟨_, rfl, by rw [F.out]; exact Sl.nil _ _, HB2.out⟩
  · have D := Lib.hid (DF.out w1 g cap hz1 HB1.out h1 h3 h4 h2 h5 h6)
    have hwg : w.heap.size ≤ g := Nat.le_trans (by simp) h1
    have LX := Lib.hid (Nat.le_trans (show (outR l m).length ≤ (ordR l).length from List.length_filter_le _ _) h3)
    rw [FL.out] at D
    clear hb1 DN DF SO FN FL h5 h6
    generalize ordR l = ol at *
    go_wp2_with fail
    refine D.out.mono ?_
    rintro e w2 ⟨rfl, hx, hg2⟩
    have HX := Lib.hid hx
    have HG := Lib.hid hg2
    clear hx hg2
    go_wp2
    go_ret
    exact ⟨_, rfl, ⟨flat_len _ _ Rl.cells_len _, by have := LX.out; omega, .inr ⟨g, 0, cap, rfl, LX.out, by omega, Nat.lt_of_lt_of_le h2 HG.out.size, HX.out⟩⟩, below_of_grown HW1.out hwg HG.out⟩
set_option maxHeartbeats 2000000 in
/-- Roles, and others, in order. -/
theorem delta_with (va vb : Value) (l m : List Rl) (w : World) (ha : SlA w 2 va l.length (l.flatMap Rl.cells)) (hb : SlA w 2 vb m.length (m.flatMap Rl.cells)) (hl : l.length ≤ 400) (hm : m.length ≤ 400) :
    Calls Tryz.prog 33 #[va, vb] w fun e w' => ∃ v, e = .returned v ∧ Sl w' 2 v (withR l m).length ((withR l m).flatMap Rl.cells) ∧ Below w.heap.size w w' := by
  have hw : Below w.heap.size w (w.alloc (.cells #[va, vb] 23)) := (Below.refl _ _).alloc (Nat.le_refl _) _
  have C := Lib.hid (rl_Concat w.heap.size va vb l m (w.alloc (.cells #[va, vb] 23)) (Blk.new w _ _) (ha.below hw) (hb.below hw) (by omega) (by omega))
  have SO := Lib.hid (fun v W h => pol_SortRoles v (l ++ m) W h (by rw [List.length_append]; omega))
  have HW := Lib.hid hw
  obtain ⟨ao, ac, hva⟩ := ha.form
  obtain ⟨bo, bc, hvb⟩ := hb.form
  subst hva hvb
  clear ha hb hw
  go_enter Tryz.func33, Tryz.ntmps33
  go_wp2_with fail
  refine C.out.mono ?_
  rintro e w1 ⟨v1, rfl, hs1, hb1⟩
  have HS1 := Lib.hid hs1
  have HB1 := Lib.hid (HW.out.trans (hb1.mono HW.out.size))
  clear hs1 hb1
  go_wp2_with fail
  refine (SO.out _ _ HS1.out.a).mono ?_
  rintro e w2 ⟨v2, rfl, hs2, hb2⟩
  have HS2 := Lib.hid hs2.sl
  have HB2 := Lib.hid (HB1.out.trans (hb2.mono HB1.out.size))
  clear hs2 hb2
  go_wp2
  go_ret
  exact ⟨_, rfl, HS2.out, HB2.out⟩
set_option maxHeartbeats 1000000 in
theorem delta_Back (v0 v1 v2 v3 v4 v5 : Value) (d : Dl) (w : World) (h : DlAt w v0 v1 v2 v3 v4 v5 d) :
    Calls Tryz.prog 10 #[dv v0 v1 v2 v3 v4 v5] w fun e w' => e = .returned (dv v1 v0 v3 v2 v5 v4) ∧ Below w.heap.size w w' := by
  obtain ⟨a0, c0, rfl⟩ := h.a0.form
  obtain ⟨a1, c1, rfl⟩ := h.a1.form
  obtain ⟨a2, c2, rfl⟩ := h.a2.form
  obtain ⟨a3, c3, rfl⟩ := h.a3.form
  obtain ⟨a4, c4, rfl⟩ := h.a4.form
  obtain ⟨a5, c5, rfl⟩ := h.a5.form
  have HB := Lib.hid (Below.refl w.heap.size w)
  clear h
  go_enter Tryz.func10, Tryz.ntmps10
  go_wp2
  refine bodyPost_ret (v := dv _ _ _ _ _ _) (by simp [results, Tryz.results10, go_sem]) rfl ⟨rfl, ?_⟩
  exact ((Below.refl _ _).alloc (Nat.le_refl _) _).alloc (by simp) _
/-- A difference has no rows. -/
def Dl.none (d : Dl) : Bool := decide (d.more.length + d.gone.length + d.grow.length + d.ungrow.length + d.shrink.length + d.unshrink.length = 0)
def Dl.tight (d : Dl) : Bool := decide (d.more.length + d.gone.length + d.ungrow.length + d.unshrink.length = 0)
set_option maxHeartbeats 1000000 in
theorem delta_Empty (v0 v1 v2 v3 v4 v5 : Value) (d : Dl) (n m : Nat) (w : World) (h : DlAt w v0 v1 v2 v3 v4 v5 d) (hd : d.le 1000 m) :
    Calls Tryz.prog 11 #[dv v0 v1 v2 v3 v4 v5] w fun e w' => e = .returned (.bool d.none) ∧ Below w.heap.size w w' := by
  obtain ⟨a0, c0, rfl⟩ := h.a0.form
  obtain ⟨a1, c1, rfl⟩ := h.a1.form
  obtain ⟨a2, c2, rfl⟩ := h.a2.form
  obtain ⟨a3, c3, rfl⟩ := h.a3.form
  obtain ⟨a4, c4, rfl⟩ := h.a4.form
  obtain ⟨a5, c5, rfl⟩ := h.a5.form
  obtain ⟨n0, n1, n2, n3, n4, n5, _, _, _, _, _, _⟩ := hd
  have R : Hid (((((((d.more.length : Int) + d.gone.length) + d.grow.length) + d.ungrow.length) + d.shrink.length) + d.unshrink.length == 0) = d.none) := Lib.hid (by
    unfold Dl.none
    rw [Bool.eq_iff_iff, beq_iff_eq, decide_eq_true_iff]
    omega)
  generalize d.none = r at R ⊢
  generalize d.more.length = l0 at *
  generalize d.gone.length = l1 at *
  generalize d.grow.length = l2 at *
  generalize d.ungrow.length = l3 at *
  generalize d.shrink.length = l4 at *
  generalize d.unshrink.length = l5 at *
  have e1 : IntKind.i64.wrap ((l0 : Int) + l1) = l0 + l1 := Go.IntWalk.i64_in _ (by omega)
  have e2 : IntKind.i64.wrap ((l0 : Int) + l1 + l2) = l0 + l1 + l2 := Go.IntWalk.i64_in _ (by omega)
  have e3 : IntKind.i64.wrap ((l0 : Int) + l1 + l2 + l3) = l0 + l1 + l2 + l3 := Go.IntWalk.i64_in _ (by omega)
  have e4 : IntKind.i64.wrap ((l0 : Int) + l1 + l2 + l3 + l4) = l0 + l1 + l2 + l3 + l4 := Go.IntWalk.i64_in _ (by omega)
  have e5 : IntKind.i64.wrap ((l0 : Int) + l1 + l2 + l3 + l4 + l5) = l0 + l1 + l2 + l3 + l4 + l5 := Go.IntWalk.i64_in _ (by omega)
  clear h
  go_enter Tryz.func11, Tryz.ntmps11
  go_wp2
  go_ret
  exact ⟨by rw [← R.out]; rfl, (Below.refl _ _).alloc (Nat.le_refl _) _⟩
/-- The same differences. -/
def Dl.eqv (a b : Dl) : Bool := decide (a.more = b.more) && decide (a.gone = b.gone) && (decide (a.grow = b.grow) && decide (a.ungrow = b.ungrow)) && decide (a.shrink = b.shrink) && decide (a.unshrink = b.unshrink)
theorem Dl.eqv_self (a : Dl) : a.eqv a = true := by unfold Dl.eqv; simp
end Go.Proofs.YtmpanikeeeoikaaGreat
namespace Go.Proofs.YtmpanikeeeoikaaGreat
open Go.RowKit Go.Shelf

/-- Both statements' blocks stand whole. -/
structure TwoAt (w : World) (A B : Array Value) (wx : World) : Prop where
  a : Blk wx w.heap.size A
  b : Blk wx (w.heap.size + 1) B
  low : Below w.heap.size w wx
theorem TwoAt.later {w wx w' : World} {A B : Array Value} (h : TwoAt w A B wx) (hb : Below wx.heap.size wx w') : TwoAt w A B w' := ⟨h.a.below hb, h.b.below hb, h.low.trans (hb.mono h.low.size)⟩
theorem TwoAt.alloc {w wx : World} {A B : Array Value} (h : TwoAt w A B wx) (o : Obj) : TwoAt w A B (wx.alloc o) := h.later ((Below.refl _ _).alloc (Nat.le_refl _) o)
theorem TwoAt.drew {w wx : World} {A B : Array Value} (h : TwoAt w A B wx) : TwoAt w A B wx.drew := h.later (below_drew (Below.refl _ _))
end Go.Proofs.YtmpanikeeeoikaaGreat
namespace Go.Proofs.YtmpanikeeeoikaaGreat
open Go.RowKit Go.Shelf

theorem TwoAt.new (w : World) (A B : Array Value) (t u : TypeId) : TwoAt w A B ((w.alloc (.cells A t)).alloc (.cells B u)) :=
  ⟨(Blk.new w A t).alloc _, by have := Blk.new (w.alloc (.cells A t)) B u; simpa using this, ((Below.refl _ _).alloc (Nat.le_refl _) _).alloc (by simp) _⟩
theorem rl_EqualB (va vb : Value) (l m : List Rl) (w : World) (ha : SlA w 2 va l.length (l.flatMap Rl.cells)) (hb : SlA w 2 vb m.length (m.flatMap Rl.cells)) :
    Calls Tryz.prog 42 #[va, vb] w fun e w' => e = .returned (.bool (decide (l = m))) ∧ Below w.heap.size w w' :=
  (rl_Equal va vb l m w ha hb).mono fun e w' ⟨he, n, hn⟩ => ⟨he, by rw [hn]; exact below_of_drewN n⟩

set_option maxRecDepth 100000 in
set_option maxHeartbeats 8000000 in
theorem delta_Same (va0 va1 va2 va3 va4 va5 vb0 vb1 vb2 vb3 vb4 vb5 : Value) (c d : Dl) (w : World) (hc : DlAt w va0 va1 va2 va3 va4 va5 c) (hd : DlAt w vb0 vb1 vb2 vb3 vb4 vb5 d) :
    Calls Tryz.prog 19 #[dv va0 va1 va2 va3 va4 va5, dv vb0 vb1 vb2 vb3 vb4 vb5] w fun e w' => e = .returned (.bool (c.eqv d)) ∧ Below w.heap.size w w' := by
  have C0 := Lib.hid (fun W (hb : Below w.heap.size w W) => state_SameB va0 vb0 c.more d.more W (hc.a0.below hb) (hd.a0.below hb))
  have C1 := Lib.hid (fun W (hb : Below w.heap.size w W) => state_SameB va1 vb1 c.gone d.gone W (hc.a1.below hb) (hd.a1.below hb))
  have C2 := Lib.hid (fun W (hb : Below w.heap.size w W) => rl_EqualB va2 vb2 c.grow d.grow W (hc.a2.below hb) (hd.a2.below hb))
  have C3 := Lib.hid (fun W (hb : Below w.heap.size w W) => rl_EqualB va3 vb3 c.ungrow d.ungrow W (hc.a3.below hb) (hd.a3.below hb))
  have C4 := Lib.hid (fun W (hb : Below w.heap.size w W) => rl_EqualB va4 vb4 c.shrink d.shrink W (hc.a4.below hb) (hd.a4.below hb))
  have C5 := Lib.hid (fun W (hb : Below w.heap.size w W) => rl_EqualB va5 vb5 c.unshrink d.unshrink W (hc.a5.below hb) (hd.a5.below hb))
  have E := Lib.hid (show c.eqv d = (decide (c.more = d.more) && decide (c.gone = d.gone) && (decide (c.grow = d.grow) && decide (c.ungrow = d.ungrow)) && decide (c.shrink = d.shrink) && decide (c.unshrink = d.unshrink)) from rfl)
  generalize decide (c.more = d.more) = r0 at C0 E
  generalize decide (c.gone = d.gone) = r1 at C1 E
  generalize decide (c.grow = d.grow) = r2 at C2 E
  generalize decide (c.ungrow = d.ungrow) = r3 at C3 E
  generalize decide (c.shrink = d.shrink) = r4 at C4 E
  generalize decide (c.unshrink = d.unshrink) = r5 at C5 E
  generalize c.eqv d = rr at E ⊢
  obtain ⟨a0, c0, rfl⟩ := hc.a0.form
  obtain ⟨b0, d0, rfl⟩ := hd.a0.form
  obtain ⟨a1, c1, rfl⟩ := hc.a1.form
  obtain ⟨b1, d1, rfl⟩ := hd.a1.form
  obtain ⟨a2, c2, rfl⟩ := hc.a2.form
  obtain ⟨b2, d2, rfl⟩ := hd.a2.form
  obtain ⟨a3, c3, rfl⟩ := hc.a3.form
  obtain ⟨b3, d3, rfl⟩ := hd.a3.form
  obtain ⟨a4, c4, rfl⟩ := hc.a4.form
  obtain ⟨b4, d4, rfl⟩ := hd.a4.form
  obtain ⟨a5, c5, rfl⟩ := hc.a5.form
  obtain ⟨b5, d5, rfl⟩ := hd.a5.form
  have HT := Lib.hid (TwoAt.new w #[.slice a0 c.more.length c0, .slice a1 c.gone.length c1, .slice a2 c.grow.length c2, .slice a3 c.ungrow.length c3, .slice a4 c.shrink.length c4, .slice a5 c.unshrink.length c5] #[.slice b0 d.more.length d0, .slice b1 d.gone.length d1, .slice b2 d.grow.length d2, .slice b3 d.ungrow.length d3, .slice b4 d.shrink.length d4, .slice b5 d.unshrink.length d5] 30 30)
  clear hc hd
  go_enter Tryz.func19, Tryz.ntmps19
  go_wp2_with fail
  refine (C0.out _ HT.out.low).mono ?_
  rintro e w0 ⟨rfl, hb⟩
  have HT := Lib.hid (HT.out.later hb)
  clear hb
  cases r0 with
  | false =>
    obtain ⟨ca, fa, za⟩ := HT.out.a
    obtain ⟨cb, fb, zb⟩ := HT.out.b
    go_wp2_with fail
    refine (C2.out _ HT.out.low).mono ?_
    rintro e w2 ⟨rfl, hb⟩
    have HT := Lib.hid (HT.out.later hb)
    clear hb ca fa za cb fb zb
    cases r2 with
    | false =>
      go_wp2_with fail
      go_ret
      exact ⟨by rw [E.out]; rfl, HT.out.low⟩
    | true =>
      obtain ⟨ca, fa, za⟩ := HT.out.a
      obtain ⟨cb, fb, zb⟩ := HT.out.b
      go_wp2_with fail
      refine (C3.out _ HT.out.low).mono ?_
      rintro e w3 ⟨rfl, hb⟩
      have HT := Lib.hid (HT.out.later hb)
      clear hb ca fa za cb fb zb
      cases r3 with
      | false =>
        go_wp2_with fail
        go_ret
        exact ⟨by rw [E.out]; rfl, HT.out.low⟩
      | true =>
        go_wp2_with fail
        go_ret
        exact ⟨by rw [E.out]; rfl, HT.out.low⟩
  | true =>
    obtain ⟨ca, fa, za⟩ := HT.out.a
    obtain ⟨cb, fb, zb⟩ := HT.out.b
    go_wp2_with fail
    refine (C1.out _ HT.out.low).mono ?_
    rintro e w1 ⟨rfl, hb⟩
    have HT := Lib.hid (HT.out.later hb)
    clear hb ca fa za cb fb zb
    cases r1 with
    | false =>
      obtain ⟨ca, fa, za⟩ := HT.out.a
      obtain ⟨cb, fb, zb⟩ := HT.out.b
      go_wp2_with fail
      refine (C2.out _ HT.out.low).mono ?_
      rintro e w2 ⟨rfl, hb⟩
      have HT := Lib.hid (HT.out.later hb)
      clear hb ca fa za cb fb zb
      cases r2 with
      | false =>
        go_wp2_with fail
        go_ret
        exact ⟨by rw [E.out]; rfl, HT.out.low⟩
      | true =>
        obtain ⟨ca, fa, za⟩ := HT.out.a
        obtain ⟨cb, fb, zb⟩ := HT.out.b
        go_wp2_with fail
        refine (C3.out _ HT.out.low).mono ?_
        rintro e w3 ⟨rfl, hb⟩
        have HT := Lib.hid (HT.out.later hb)
        clear hb ca fa za cb fb zb
        cases r3 with
        | false =>
          go_wp2_with fail
          go_ret
          exact ⟨by rw [E.out]; rfl, HT.out.low⟩
        | true =>
          go_wp2_with fail
          go_ret
          exact ⟨by rw [E.out]; rfl, HT.out.low⟩
    | true =>
      obtain ⟨ca, fa, za⟩ := HT.out.a
      obtain ⟨cb, fb, zb⟩ := HT.out.b
      go_wp2_with fail
      refine (C2.out _ HT.out.low).mono ?_
      rintro e w2 ⟨rfl, hb⟩
      have HT := Lib.hid (HT.out.later hb)
      clear hb ca fa za cb fb zb
      cases r2 with
      | false =>
        go_wp2_with fail
        go_ret
        exact ⟨by rw [E.out]; rfl, HT.out.low⟩
      | true =>
        obtain ⟨ca, fa, za⟩ := HT.out.a
        obtain ⟨cb, fb, zb⟩ := HT.out.b
        go_wp2_with fail
        refine (C3.out _ HT.out.low).mono ?_
        rintro e w3 ⟨rfl, hb⟩
        have HT := Lib.hid (HT.out.later hb)
        clear hb ca fa za cb fb zb
        cases r3 with
        | false =>
          go_wp2_with fail
          go_ret
          exact ⟨by rw [E.out]; rfl, HT.out.low⟩
        | true =>
          obtain ⟨ca, fa, za⟩ := HT.out.a
          obtain ⟨cb, fb, zb⟩ := HT.out.b
          go_wp2_with fail
          refine (C4.out _ HT.out.low).mono ?_
          rintro e w4 ⟨rfl, hb⟩
          have HT := Lib.hid (HT.out.later hb)
          clear hb ca fa za cb fb zb
          cases r4 with
          | false =>
            go_wp2_with fail
            go_ret
            exact ⟨by rw [E.out]; rfl, HT.out.low⟩
          | true =>
            obtain ⟨ca, fa, za⟩ := HT.out.a
            obtain ⟨cb, fb, zb⟩ := HT.out.b
            go_wp2_with fail
            refine (C5.out _ HT.out.low).mono ?_
            rintro e w5 ⟨rfl, hb⟩
            have HT := Lib.hid (HT.out.later hb)
            clear hb ca fa za cb fb zb
            cases r5 with
            | false =>
              go_wp2_with fail
              go_ret
              exact ⟨by rw [E.out]; rfl, HT.out.low⟩
            | true =>
              go_wp2_with fail
              go_ret
              exact ⟨by rw [E.out]; rfl, HT.out.low⟩
set_option maxRecDepth 100000 in
set_option maxHeartbeats 8000000 in
theorem ref32_Same (va0 va1 va2 va3 va4 va5 vb0 vb1 vb2 vb3 vb4 vb5 : Value) (c d : Dl) (w : World) (hc : DlAt w va0 va1 va2 va3 va4 va5 c) (hd : DlAt w vb0 vb1 vb2 vb3 vb4 vb5 d) :
    Calls Tryz.prog 9 #[dv va0 va1 va2 va3 va4 va5, dv vb0 vb1 vb2 vb3 vb4 vb5] w fun e w' => e = .returned (.bool (c.eqv d)) ∧ Below w.heap.size w w' := by
  have C0 := Lib.hid (fun W (hb : Below w.heap.size w W) => ref3_SameB va0 vb0 c.more d.more W (hc.a0.below hb) (hd.a0.below hb))
  have C1 := Lib.hid (fun W (hb : Below w.heap.size w W) => ref3_SameB va1 vb1 c.gone d.gone W (hc.a1.below hb) (hd.a1.below hb))
  have C2 := Lib.hid (fun W (hb : Below w.heap.size w W) => ref3_SameRolesE va2 vb2 c.grow d.grow W (hc.a2.below hb) (hd.a2.below hb))
  have C3 := Lib.hid (fun W (hb : Below w.heap.size w W) => ref3_SameRolesE va3 vb3 c.ungrow d.ungrow W (hc.a3.below hb) (hd.a3.below hb))
  have C4 := Lib.hid (fun W (hb : Below w.heap.size w W) => ref3_SameRolesE va4 vb4 c.shrink d.shrink W (hc.a4.below hb) (hd.a4.below hb))
  have C5 := Lib.hid (fun W (hb : Below w.heap.size w W) => ref3_SameRolesE va5 vb5 c.unshrink d.unshrink W (hc.a5.below hb) (hd.a5.below hb))
  have E := Lib.hid (show c.eqv d = (decide (c.more = d.more) && decide (c.gone = d.gone) && (decide (c.grow = d.grow) && decide (c.ungrow = d.ungrow)) && decide (c.shrink = d.shrink) && decide (c.unshrink = d.unshrink)) from rfl)
  generalize decide (c.more = d.more) = r0 at C0 E
  generalize decide (c.gone = d.gone) = r1 at C1 E
  generalize decide (c.grow = d.grow) = r2 at C2 E
  generalize decide (c.ungrow = d.ungrow) = r3 at C3 E
  generalize decide (c.shrink = d.shrink) = r4 at C4 E
  generalize decide (c.unshrink = d.unshrink) = r5 at C5 E
  generalize c.eqv d = rr at E ⊢
  obtain ⟨a0, c0, rfl⟩ := hc.a0.form
  obtain ⟨b0, d0, rfl⟩ := hd.a0.form
  obtain ⟨a1, c1, rfl⟩ := hc.a1.form
  obtain ⟨b1, d1, rfl⟩ := hd.a1.form
  obtain ⟨a2, c2, rfl⟩ := hc.a2.form
  obtain ⟨b2, d2, rfl⟩ := hd.a2.form
  obtain ⟨a3, c3, rfl⟩ := hc.a3.form
  obtain ⟨b3, d3, rfl⟩ := hd.a3.form
  obtain ⟨a4, c4, rfl⟩ := hc.a4.form
  obtain ⟨b4, d4, rfl⟩ := hd.a4.form
  obtain ⟨a5, c5, rfl⟩ := hc.a5.form
  obtain ⟨b5, d5, rfl⟩ := hd.a5.form
  have HT := Lib.hid (TwoAt.new w #[.slice a0 c.more.length c0, .slice a1 c.gone.length c1, .slice a2 c.grow.length c2, .slice a3 c.ungrow.length c3, .slice a4 c.shrink.length c4, .slice a5 c.unshrink.length c5] #[.slice b0 d.more.length d0, .slice b1 d.gone.length d1, .slice b2 d.grow.length d2, .slice b3 d.ungrow.length d3, .slice b4 d.shrink.length d4, .slice b5 d.unshrink.length d5] 32 32)
  clear hc hd
  go_enter Tryz.func9, Tryz.ntmps9
  go_wp2_with fail
  refine (C0.out _ HT.out.low).mono ?_
  rintro e w0 ⟨rfl, hb⟩
  have HT := Lib.hid (HT.out.later hb)
  clear hb
  cases r0 with
  | false =>
    go_wp2_with fail
    go_ret
    exact ⟨by rw [E.out]; rfl, HT.out.low⟩
  | true =>
    obtain ⟨ca, fa, za⟩ := HT.out.a
    obtain ⟨cb, fb, zb⟩ := HT.out.b
    go_wp2_with fail
    refine (C1.out _ HT.out.low).mono ?_
    rintro e w1 ⟨rfl, hb⟩
    have HT := Lib.hid (HT.out.later hb)
    clear hb ca fa za cb fb zb
    cases r1 with
    | false =>
      go_wp2_with fail
      go_ret
      exact ⟨by rw [E.out]; rfl, HT.out.low⟩
    | true =>
      obtain ⟨ca, fa, za⟩ := HT.out.a
      obtain ⟨cb, fb, zb⟩ := HT.out.b
      go_wp2_with fail
      refine (C2.out _ HT.out.low).mono ?_
      rintro e w2 ⟨rfl, hb⟩
      have HT := Lib.hid (HT.out.later hb)
      clear hb ca fa za cb fb zb
      cases r2 with
      | false =>
        go_wp2_with fail
        go_ret
        exact ⟨by rw [E.out]; rfl, HT.out.low⟩
      | true =>
        obtain ⟨ca, fa, za⟩ := HT.out.a
        obtain ⟨cb, fb, zb⟩ := HT.out.b
        go_wp2_with fail
        refine (C3.out _ HT.out.low).mono ?_
        rintro e w3 ⟨rfl, hb⟩
        have HT := Lib.hid (HT.out.later hb)
        clear hb ca fa za cb fb zb
        cases r3 with
        | false =>
          go_wp2_with fail
          go_ret
          exact ⟨by rw [E.out]; rfl, HT.out.low⟩
        | true =>
          obtain ⟨ca, fa, za⟩ := HT.out.a
          obtain ⟨cb, fb, zb⟩ := HT.out.b
          go_wp2_with fail
          refine (C4.out _ HT.out.low).mono ?_
          rintro e w4 ⟨rfl, hb⟩
          have HT := Lib.hid (HT.out.later hb)
          clear hb ca fa za cb fb zb
          cases r4 with
          | false =>
            go_wp2_with fail
            go_ret
            exact ⟨by rw [E.out]; rfl, HT.out.low⟩
          | true =>
            obtain ⟨ca, fa, za⟩ := HT.out.a
            obtain ⟨cb, fb, zb⟩ := HT.out.b
            go_wp2_with fail
            refine (C5.out _ HT.out.low).mono ?_
            rintro e w5 ⟨rfl, hb⟩
            have HT := Lib.hid (HT.out.later hb)
            clear hb ca fa za cb fb zb
            cases r5 with
            | false =>
              go_wp2_with fail
              go_ret
              exact ⟨by rw [E.out]; rfl, HT.out.low⟩
            | true =>
              go_wp2_with fail
              go_ret
              exact ⟨by rw [E.out]; rfl, HT.out.low⟩
end Go.Proofs.YtmpanikeeeoikaaGreat
