/- The reference's Print; the law's Light. Package state: Is; the laws' Light and lives. Rows of roles: whether one is among them. Package state: MayCome and MayGo; the law's lives; the reference's Of. Policies in memory, and whether they are light. One block of a call's own that stands whole. -/
import Derived.Test.YtomhekohcadijaaGreatDoorPartRF8
import Derived.Test.YtomhekohcadijaaGreatDoorPartRF14
import Derived.Deep.RegionHeld3
import Derived.Test.YtomhekohcadijaaGreatDoorPartRF9
import Derived.Deep.AppendLies
import Derived.Test.YtomhekohcadijaaGreatDoorPartRF1
namespace Go.Proofs.YtomhekohcadijaaGreatDoor
open Go.RowKit Go.Shelf

def light8 (s : St) : List ByteArray := [s.who, s.via, s.h.o, s.h.n, s.a.o, s.a.n, s.b.o, s.b.n]
theorem light8_le {s : St} {m : Nat} : (∀ x ∈ light8 s, x.size ≤ m) ↔ s.le m := by
  simp only [light8, St.le, Rl.le, List.forall_mem_cons]
  constructor
  · rintro ⟨a, b, c, d, e, f, g, h, _⟩; exact ⟨⟨c, d⟩, a, ⟨e, f⟩, ⟨g, h⟩, b⟩
  · rintro ⟨⟨c, d⟩, a, ⟨e, f⟩, ⟨g, h⟩, b⟩; exact ⟨a, b, c, d, e, f, g, h, by simp⟩
theorem Rl.le.mono {s : Rl} {m n : Nat} (h : s.le m) (hmn : m ≤ n) : s.le n := ⟨Nat.le_trans h.1 hmn, Nat.le_trans h.2 hmn⟩
set_option maxRecDepth 100000 in
set_option maxHeartbeats 4000000 in
theorem law3_Light (s : St) (w : World) (hs : s.le 9223372036854775807) :
    Calls Tryz.prog 48 #[sv s] w fun e w' => ∃ b, e = .returned (.bool b) ∧ (b = true → s.le 40) ∧ Below w.heap.size w w' := by
  have HL := Lib.hid (light8_le.2 hs)
  have HE := Lib.hid (fun h => (light8_le (s := s) (m := 40)).1 h)
  have h8 : (light8 s).length = 8 := rfl
  have HS : ∀ W : World, (∀ o, W.cell? ⟨w.heap.size + 1, o, none⟩ = ((light8 s).map Value.string).toArray[o]?) → ∀ k (hk : k < (light8 s).length), W.cell? ⟨w.heap.size + 1, k, none⟩ = some (.string (light8 s)[k]) := by
    intro W h k hk; rw [h]; simp [hk]
  have HC := Lib.hid HS
  have H0 := Lib.hid (show ((light8 s).map Value.string).toArray = #[.string s.who, .string s.via, .string s.h.o, .string s.h.n, .string s.a.o, .string s.a.n, .string s.b.o, .string s.b.n] from rfl)
  generalize light8 s = L at *
  obtain ⟨k, ⟨h1, h2⟩, who, ⟨a1, a2⟩, ⟨b1, b2⟩, via⟩ := s
  clear hs HS
  go_enter Tryz.func48, Tryz.ntmps48
  go_wp2
  go_loopw [29] (fun i wr => ∃ k : Nat, k ≤ 8 ∧ i = .int .i64 k ∧ (∀ j (h : j < L.length), j < k → L[j].size ≤ 40) ∧ Below w.heap.size w wr ∧ (∀ o, wr.cell? ⟨w.heap.size + 1, o, none⟩ = (L.map Value.string).toArray[o]?)) (fun i _ => 8 - (intOf i).toNat)
  case atStart =>
    refine ⟨0, by omega, rfl, fun j h hj => absurd hj (by omega), ((Below.refl _ _).alloc (Nat.le_refl _) _).alloc (by simp) _, fun o => ?_⟩
    rw [H0.out, World.cell?_alloc_at _ _ _ _ (by simp)]
  case round =>
    obtain ⟨k, hk, rfl, hpre, hbw, hcell⟩ := hrel
    have HCE := Lib.hid hcell
    have HPRE := Lib.hid hpre
    by_cases hlt : k < 8
    · have p0 := HC.out _ hcell k (by omega)
      have hz := HL.out L[k] (List.getElem_mem (by omega))
      clear hcell hpre
      by_cases h40 : L[k].size ≤ 40
      · have d1 : decide ((40 : Int) < (L[k].size : Int)) = false := by simp; omega
        go_wp2
        refine ⟨⟨k + 1, by omega, by go_num, fun j h hj => ?_, hbw, HCE.out⟩, by simp [intOf]; omega⟩
        by_cases hjk : j < k
        · exact HPRE.out j h hjk
        · obtain rfl : j = k := by omega
          exact h40
      · have d1 : decide ((40 : Int) < (L[k].size : Int)) = true := by simp; omega
        go_wp2
        go_ret
        exact ⟨false, rfl, fun h => (by cases h), hbw⟩
    · clear hcell hpre
      go_wp2
      go_ret
      refine ⟨true, rfl, fun _ => HE.out fun x hx => ?_, hbw⟩
      obtain ⟨j, hj, rfl⟩ := List.getElem_of_mem hx
      exact HPRE.out j hj (by omega)
end Go.Proofs.YtomhekohcadijaaGreatDoor
namespace Go.Proofs.YtomhekohcadijaaGreatDoor
open Go.RowKit Go.Shelf

def isS : List St → Bool
  | [] => true
  | [x] => rightS x
  | x :: y :: r => rightS x && decide (cmpSt x y < 0) && isS (y :: r)
theorem isS_iff : ∀ (l : List St), isS l = true ↔ (∀ x ∈ l, rightS x = true) ∧ Asc l
  | [] => by simp [isS, Asc]
  | [x] => by simp [isS, Asc]
  | x :: y :: r => by
    have ih := isS_iff (y :: r)
    simp only [isS, Bool.and_eq_true, decide_eq_true_iff, ih]
    constructor
    · rintro ⟨⟨h1, h2⟩, h3, h4⟩
      refine ⟨fun z hz => ?_, List.pairwise_cons.2 ⟨fun z hz => ?_, h4⟩⟩
      · rcases List.mem_cons.1 hz with rfl | hz
        · exact h1
        · exact h3 z hz
      · rcases List.mem_cons.1 hz with rfl | hz
        · exact h2
        · exact lt_trans' h2 ((List.pairwise_cons.1 h4).1 z hz)
    · rintro ⟨h1, h2⟩
      have h3 := List.pairwise_cons.1 h2
      exact ⟨⟨h1 x (by simp), h3.1 y (by simp)⟩, fun z hz => h1 z (by simp [List.mem_cons.1 hz]), h3.2⟩
theorem isS_no {l : List St} {k : Nat} (hk : k < l.length) (h : rightS l[k] = false) : isS l = false := by
  cases e : isS l with
  | false => rfl
  | true => have := ((isS_iff l).1 e).1 l[k] (List.getElem_mem hk); rw [h] at this; cases this
theorem isS_gap {l : List St} {k : Nat} (hk : k + 1 < l.length) (h : ¬ cmpSt l[k] l[k + 1] < 0) : isS l = false := by
  cases e : isS l with
  | false => rfl
  | true => exact absurd (List.pairwise_iff_getElem.1 ((isS_iff l).1 e).2 k (k + 1) (by omega) hk (by omega)) h
theorem isS_end {l : List St} (h : ∀ k (hk : k < l.length), rightS l[k] = true) (h' : ∀ k (hk : k + 1 < l.length), cmpSt l[k] l[k + 1] < 0) : isS l = true := by
  match l, h, h' with
  | [], _, _ => rfl
  | [x], h, _ => exact h 0 (by simp)
  | x :: y :: r, h, h' =>
    have := isS_end (l := y :: r) (fun k hk => h (k + 1) (by simpa using hk)) (fun k hk => h' (k + 1) (by simpa using hk))
    simp only [isS, this, Bool.and_true, Bool.and_eq_true, decide_eq_true_iff]
    exact ⟨h 0 (by simp), h' 0 (by simp)⟩

def allLe (l : List St) (m : Nat) : Prop := ∀ x ∈ l, x.le m
set_option maxRecDepth 100000 in
set_option maxHeartbeats 4000000 in
theorem law10_Light (va : Value) (l : List St) (w : World) (ha : SlA w 9 va l.length (l.flatMap St.cells)) (hl : allLe l 9223372036854775807) :
    Calls Tryz.prog 72 #[va] w fun e w' => ∃ b, e = .returned (.bool b) ∧ (b = true → l.length ≤ 40 ∧ allLe l 40) ∧ Below w.heap.size w w' := by
  have HA := Lib.hid ha
  have hmax := ha.max
  have HL := Lib.hid (fun k (hk : k < l.length) W => law3_Light l[k] W (hl _ (List.getElem_mem hk)))
  obtain ⟨ao, cap, hva⟩ := ha.form
  subst hva
  clear ha hl
  go_enter Tryz.func72, Tryz.ntmps72
  by_cases h40 : 40 < l.length
  · have d : decide ((40 : Int) < (l.length : Int)) = true := by (rw [decide_eq_true_iff]; omega)
    go_wp2
    go_ret
    exact ⟨false, rfl, (fun h => by cases h), Below.refl _ _⟩
  have d : decide ((40 : Int) < (l.length : Int)) = false := by (rw [decide_eq_false_iff_not]; omega)
  go_wp2
  go_loopw [10] (fun i wr => ∃ k : Nat, k ≤ l.length ∧ i = .int .i64 k ∧ Hid (Below w.heap.size w wr) ∧ Hid (∀ j (hj : j < l.length), j < k → l[j].le 40)) (fun i _ => l.length - (intOf i).toNat)
  case atStart => exact ⟨0, by omega, rfl, Lib.hid (Below.refl _ _), Lib.hid (fun _ _ h => absurd h (by omega))⟩
  case round =>
    obtain ⟨k, hk, rfl, HB, HJ⟩ := hrel
    by_cases hlt : k < l.length
    · obtain ⟨b1, o1, c1, he1, hc1, hm1, hb1, hx1⟩ := HA.out.pos (by omega)
      simp only [Value.slice.injEq, true_and] at he1
      obtain ⟨rfl, rfl⟩ := he1
      obtain ⟨p0, p1, p2, p3, p4, p5, p6, p7, p8⟩ := st_cell (w := wr) (fun j u hu => (HB.out.cell (p := ⟨b1, o1 + j, none⟩) hb1).trans (hx1 j u hu)) k hlt
      have hbr : b1 < wr.heap.size := Nat.lt_of_lt_of_le hb1 HB.out.size
      have HLk := Lib.hid (fun W => HL.out k hlt W)
      clear hx1
      go_wp2_with fail
      refine (HLk.out _).mono ?_
      rintro e w2 ⟨b, rfl, hle, hb2⟩
      have HLE := Lib.hid hle
      have HB2 := Lib.hid (HB.out.trans (((Below.refl _ wr).alloc (Nat.le_refl _) _).trans (hb2.mono (by simp)) |>.mono HB.out.size))
      clear hle hb2
      cases b with
      | false =>
        go_wp2
        go_ret
        exact ⟨false, rfl, (fun h => by cases h), HB2.out⟩
      | true =>
        have HJ2 : Hid (∀ j (hj : j < l.length), j < k + 1 → l[j].le 40) := Lib.hid (fun j hj hjk => by
          by_cases h : j < k
          · exact HJ.out j hj h
          · obtain rfl : j = k := by omega
            exact HLE.out rfl)
        go_wp2
        exact ⟨⟨k + 1, by omega, by go_num, HB2, HJ2⟩, by simp [intOf]; omega⟩
    · have HJ3 := Lib.hid (show allLe l 40 from fun x hx => by
        obtain ⟨j, hj, rfl⟩ := List.getElem_of_mem hx
        exact HJ.out j hj (by omega))
      go_wp2
      go_ret
      exact ⟨true, rfl, fun _ => ⟨by omega, HJ3.out⟩, HB.out⟩

theorem nine_near {w : World} {b o : Nat} {s : St} (h : Nine w b o s) (hb : b < w.heap.size) (p : Nr w) : Nine p.x b o s := h.below hb p.h
set_option maxRecDepth 100000 in
set_option maxHeartbeats 8000000 in
theorem state_Is (va : Value) (l : List St) (w : World) (ha : SlA w 9 va l.length (l.flatMap St.cells)) (hl : allLe l 4294967) :
    Calls Tryz.prog 77 #[va] w fun e w' => e = .returned (.bool (isS l)) ∧ Below w.heap.size w w' := by
  have HA := Lib.hid ha
  have hmax := ha.max
  have HR := Lib.hid (fun k (hk : k < l.length) W => syn_Right l[k] W (hl _ (List.getElem_mem hk)))
  have HO := Lib.hid (fun m k (hm : m < l.length) (hk : k < l.length) W => syn_Order l[m] l[k] W)
  have EN := Lib.hid (fun k (hk : k < l.length) h => isS_no hk h)
  have EG := Lib.hid (fun k (hk : k + 1 < l.length) h => isS_gap hk h)
  have EE := Lib.hid (fun h h' => isS_end (l := l) h h')
  generalize isS l = res at EN EG EE ⊢
  obtain ⟨ao, cap, hva⟩ := ha.form
  subst hva
  clear ha hl
  go_enter Tryz.func77, Tryz.ntmps77
  go_wp2
  go_loopw [7] (fun i wr => ∃ k : Nat, k ≤ l.length ∧ i = .int .i64 k ∧ Hid (Below w.heap.size w wr) ∧ Hid (∀ j (hj : j < l.length), j < k → rightS l[j] = true) ∧ Hid (∀ j (hj : j + 1 < l.length), j + 1 < k → cmpSt l[j] l[j + 1] < 0)) (fun i _ => l.length - (intOf i).toNat)
  case atStart => exact ⟨0, by omega, rfl, Lib.hid (Below.refl _ _), Lib.hid (fun _ _ h => absurd h (by omega)), Lib.hid (fun _ _ h => absurd h (by omega))⟩
  case round =>
    obtain ⟨k, hk, rfl, HB, HJ, HC⟩ := hrel
    by_cases hlt : k < l.length
    · obtain ⟨b1, o1, c1, he1, hc1, hm1, hb1, hx1⟩ := HA.out.pos (by omega)
      simp only [Value.slice.injEq, true_and] at he1
      obtain ⟨rfl, rfl⟩ := he1
      have HX := Lib.hid (fun k hk => st_cell (w := wr) (l := l) (b := b1) (off := o1) (fun j u hu => (HB.out.cell (p := ⟨b1, o1 + j, none⟩) hb1).trans (hx1 j u hu)) k hk)
      obtain ⟨p0, p1, p2, p3, p4, p5, p6, p7, p8⟩ := HX.out k hlt
      have hbr : b1 < wr.heap.size := Nat.lt_of_lt_of_le hb1 HB.out.size
      have RK := Lib.hid (fun W => HR.out k hlt W)
      have ENk := Lib.hid (fun h => EN.out k hlt h)
      clear hx1
      cases hr : rightS l[k] with
      | false =>
        have R := Lib.hid (ENk.out hr)
        rw [hr] at RK
        have hek : l[k] = ⟨l[k].k, ⟨l[k].h.o, l[k].h.n⟩, l[k].who, ⟨l[k].a.o, l[k].a.n⟩, ⟨l[k].b.o, l[k].b.n⟩, l[k].via⟩ := rfl
        clear hr ENk
        generalize l[k] = x at *
        obtain ⟨xk, ⟨x1, x2⟩, xw, ⟨x3, x4⟩, ⟨x5, x6⟩, xv⟩ := x
        clear hek
        go_upto_region 4 with fail
        have hnr := Blk.near (Blk.new wr #[.int .i64 xk, .string x1, .string x2, .string xw, .string x3, .string x4, .string x5, .string x6, .string xv] 80)
        refine region_near (by kernel_rfl) (by kernel_rfl) ?_
        repeat (go_big_quiet_step ((go_at_call 114; exact Calls.near (RK.out _))))
        refine wpQuiet_nil ?_
        rintro w3 ⟨⟨w3, hb3⟩, rfl⟩
        have HBC := Lib.hid ((HB.out.alloc HB.out.size (.cells #[.int .i64 xk, .string x1, .string x2, .string xw, .string x3, .string x4, .string x5, .string x6, .string xv] 80)).trans (hb3.mono (Nat.le_trans HB.out.size (by simp))))
        clear hb3
        go_wp2
        go_ret
        exact ⟨ret_b R.out.symm, HBC.out⟩
      | true =>
        have HJ2 : Hid (∀ j (hj : j < l.length), j < k + 1 → rightS l[j] = true) := Lib.hid (fun j hj hjk => by
          by_cases h : j < k
          · exact HJ.out j hj h
          · obtain rfl : j = k := by omega
            exact hr)
        rw [hr] at RK
        clear hr ENk
        by_cases hk0 : k = 0
        · have hkk := Lib.hid hk0
          have dk : decide (0 < k) = false := by (rw [decide_eq_false_iff_not]; omega)
          have HC2 : Hid (∀ j (hj : j + 1 < l.length), j + 1 < k + 1 → cmpSt l[j] l[j + 1] < 0) := Lib.hid (fun j hj hjk => by omega)
          clear hk0
          have hek : l[k] = ⟨l[k].k, ⟨l[k].h.o, l[k].h.n⟩, l[k].who, ⟨l[k].a.o, l[k].a.n⟩, ⟨l[k].b.o, l[k].b.n⟩, l[k].via⟩ := rfl
          generalize l[k] = x at *
          obtain ⟨xk, ⟨x1, x2⟩, xw, ⟨x3, x4⟩, ⟨x5, x6⟩, xv⟩ := x
          clear hek
          go_upto_region 4 with fail
          have hnr := Blk.near (Blk.new wr #[.int .i64 xk, .string x1, .string x2, .string xw, .string x3, .string x4, .string x5, .string x6, .string xv] 80)
          refine region_near (by kernel_rfl) (by kernel_rfl) ?_
          repeat (go_big_quiet_step ((go_at_call 114; exact Calls.near (RK.out _))))
          refine wpQuiet_nil ?_
          rintro w3 ⟨⟨w3, hb3⟩, rfl⟩
          have HBC := Lib.hid ((HB.out.alloc HB.out.size (.cells #[.int .i64 xk, .string x1, .string x2, .string xw, .string x3, .string x4, .string x5, .string x6, .string xv] 80)).trans (hb3.mono (Nat.le_trans HB.out.size (by simp))))
          clear hb3
          go_wp2
          exact ⟨⟨k + 1, by omega, by go_num, HBC, HJ2, HC2⟩, by simp [intOf]; omega⟩
        · obtain ⟨m, hm⟩ : ∃ m, k = m + 1 := ⟨k - 1, by omega⟩
          have dk : decide (0 < k) = true := by (rw [decide_eq_true_iff]; omega)
          have hw1 : IntKind.i64.wrap ((k : Int) - 1) = (m : Int) := by rw [show (k : Int) - 1 = (m : Int) by omega]; exact Go.IntWalk.i64_in _ (by omega)
          have hml : m < l.length := by omega
          have hmi : (0 : Int) ≤ (m : Int) := by omega
          have OK : Hid (∀ W, Calls Tryz.prog 107 #[sv l[m], sv l[k]] W fun e w' => e = .returned (.int .i64 (cmpSt l[m] l[k])) ∧ Below W.heap.size W w') := Lib.hid (fun W => (HO.out m k hml hlt W).mono (fun _ _ h => ⟨h.1, h.2.below⟩))
          have HQ : Nine wr b1 (o1 + m * 9) l[m] := HX.out m hml
          have EGk := Lib.hid (show ¬ cmpSt l[m] l[k] < 0 → res = false by subst hm; exact fun h => EG.out m hlt (by omega))
          have HC2 : Hid (cmpSt l[m] l[k] < 0 → ∀ j (hj : j + 1 < l.length), j + 1 < k + 1 → cmpSt l[j] l[j + 1] < 0) := Lib.hid (fun hc j hj hjk => by
            by_cases h : j + 1 < k
            · exact HC.out j hj h
            · obtain rfl : j = m := by omega
              subst hm; exact hc)
          generalize cmpSt l[m] l[k] = c at OK EGk HC2
          have hek : l[k] = ⟨l[k].k, ⟨l[k].h.o, l[k].h.n⟩, l[k].who, ⟨l[k].a.o, l[k].a.n⟩, ⟨l[k].b.o, l[k].b.n⟩, l[k].via⟩ := rfl
          clear hm hk0
          generalize l[k] = x at *
          obtain ⟨xk, ⟨x1, x2⟩, xw, ⟨x3, x4⟩, ⟨x5, x6⟩, xv⟩ := x
          clear hek
          generalize l[m] = y at *
          obtain ⟨yk, ⟨y1, y2⟩, yw, ⟨y3, y4⟩, ⟨y5, y6⟩, yv⟩ := y
          by_cases hc : c < 0
          · have dc : decide ((0 : Int) ≤ c) = false := by (rw [decide_eq_false_iff_not]; omega)
            have HC3 := Lib.hid (HC2.out hc)
            clear hc EGk HC2
            go_upto_region 4 with fail
            have hnr := Blk.near (Blk.new wr #[.int .i64 xk, .string x1, .string x2, .string xw, .string x3, .string x4, .string x5, .string x6, .string xv] 80)
            have HQ2 := nine_near (HQ.below hbr ((Below.refl _ _).alloc (Nat.le_refl _) (.cells #[.int .i64 xk, .string x1, .string x2, .string xw, .string x3, .string x4, .string x5, .string x6, .string xv] 80))) (show b1 < (wr.alloc (.cells #[.int .i64 xk, .string x1, .string x2, .string xw, .string x3, .string x4, .string x5, .string x6, .string xv] 80)).heap.size by simp; omega)
            have q0 := fun p => (HQ2 p).1
            have q1 := fun p => (HQ2 p).2.1
            have q2 := fun p => (HQ2 p).2.2.1
            have q3 := fun p => (HQ2 p).2.2.2.1
            have q4 := fun p => (HQ2 p).2.2.2.2.1
            have q5 := fun p => (HQ2 p).2.2.2.2.2.1
            have q6 := fun p => (HQ2 p).2.2.2.2.2.2.1
            have q7 := fun p => (HQ2 p).2.2.2.2.2.2.2.1
            have q8 := fun p => (HQ2 p).2.2.2.2.2.2.2.2
            clear HQ HQ2
            refine region_near (by kernel_rfl) (by kernel_rfl) ?_
            repeat (go_big_quiet_step ((first | (go_at_call 114; exact Calls.near (RK.out _)) | (go_at_call 107; exact Calls.near (OK.out _)))))
            refine wpQuiet_nil ?_
            rintro w3 ⟨⟨w3, hb3⟩, rfl⟩
            have HBC := Lib.hid ((HB.out.alloc HB.out.size (.cells #[.int .i64 xk, .string x1, .string x2, .string xw, .string x3, .string x4, .string x5, .string x6, .string xv] 80)).trans (hb3.mono (Nat.le_trans HB.out.size (by simp))))
            clear hb3
            go_wp2
            exact ⟨⟨k + 1, by omega, by go_num, HBC, HJ2, HC3⟩, by simp [intOf]; omega⟩
          · have dc : decide ((0 : Int) ≤ c) = true := by (rw [decide_eq_true_iff]; omega)
            have R := Lib.hid (EGk.out hc)
            clear hc EGk HC2
            go_upto_region 4 with fail
            have hnr := Blk.near (Blk.new wr #[.int .i64 xk, .string x1, .string x2, .string xw, .string x3, .string x4, .string x5, .string x6, .string xv] 80)
            have HQ2 := nine_near (HQ.below hbr ((Below.refl _ _).alloc (Nat.le_refl _) (.cells #[.int .i64 xk, .string x1, .string x2, .string xw, .string x3, .string x4, .string x5, .string x6, .string xv] 80))) (show b1 < (wr.alloc (.cells #[.int .i64 xk, .string x1, .string x2, .string xw, .string x3, .string x4, .string x5, .string x6, .string xv] 80)).heap.size by simp; omega)
            have q0 := fun p => (HQ2 p).1
            have q1 := fun p => (HQ2 p).2.1
            have q2 := fun p => (HQ2 p).2.2.1
            have q3 := fun p => (HQ2 p).2.2.2.1
            have q4 := fun p => (HQ2 p).2.2.2.2.1
            have q5 := fun p => (HQ2 p).2.2.2.2.2.1
            have q6 := fun p => (HQ2 p).2.2.2.2.2.2.1
            have q7 := fun p => (HQ2 p).2.2.2.2.2.2.2.1
            have q8 := fun p => (HQ2 p).2.2.2.2.2.2.2.2
            clear HQ HQ2
            refine region_near (by kernel_rfl) (by kernel_rfl) ?_
            repeat (go_big_quiet_step ((first | (go_at_call 114; exact Calls.near (RK.out _)) | (go_at_call 107; exact Calls.near (OK.out _)))))
            refine wpQuiet_nil ?_
            rintro w3 ⟨⟨w3, hb3⟩, rfl⟩
            have HBC := Lib.hid ((HB.out.alloc HB.out.size (.cells #[.int .i64 xk, .string x1, .string x2, .string xw, .string x3, .string x4, .string x5, .string x6, .string xv] 80)).trans (hb3.mono (Nat.le_trans HB.out.size (by simp))))
            clear hb3
            go_wp2
            go_ret
            exact ⟨ret_b R.out.symm, HBC.out⟩
    · have R := Lib.hid (EE.out (fun j hj => HJ.out j hj (by omega)) (fun j hj => HC.out j hj (by omega)))
      go_wp2
      go_ret
      exact ⟨ret_b R.out.symm, HB.out⟩
end Go.Proofs.YtomhekohcadijaaGreatDoor
namespace Go.Proofs.YtomhekohcadijaaGreatDoor
open Go.RowKit Go.Shelf

def hasR (l : List Rl) (s : Rl) : Bool := l.any (fun x => eqRl x s)
end Go.Proofs.YtomhekohcadijaaGreatDoor
namespace Go.Proofs.YtomhekohcadijaaGreatDoor
open Go.RowKit Go.Shelf

abbrev pv (a b c d : Value) : Value := .agg #[a, b, c, d]

abbrev nilV : Value := .slice none 0 0
end Go.Proofs.YtomhekohcadijaaGreatDoor
namespace Go.Proofs.YtomhekohcadijaaGreatDoor
open Go.RowKit Go.Shelf

def strs (l : List ByteArray) : List Value := l.map .string
theorem strs_get {l : List ByteArray} {k : Nat} (hk : k < l.length) : (strs l)[k]? = some (.string l[k]) := by simp [strs, hk]

def LightS (l : List ByteArray) (e : Ending) : Prop := ∃ b, e = .returned (.bool b) ∧ (b = true → l.length ≤ 40)
structure Qv where
  k : Int
  a : Rl
  b : Rl
  w : Value
instance : Inhabited Qv := ⟨⟨0, noR, noR, .slice none 0 0⟩⟩
def Qv.cells (q : Qv) : List Value := [.int .i64 q.k, .string q.a.o, .string q.a.n, .string q.b.o, .string q.b.n, q.w]
theorem Qv.cells_len (q : Qv) : q.cells.length = 6 := rfl
abbrev qv (q : Qv) : Value := .agg #[.int .i64 q.k, .string q.a.o, .string q.a.n, .string q.b.o, .string q.b.n, q.w]
def Qv.ok (q : Qv) (w : World) : Prop := q.a.le 9223372036854775807 ∧ q.b.le 9223372036854775807 ∧ ∃ ss : List ByteArray, SlA w 1 q.w ss.length (strs ss) ∧ ∀ s ∈ ss, s.size ≤ 9223372036854775807
theorem Qv.ok.below {q : Qv} {w w' : World} (h : q.ok w) (hb : Below w.heap.size w w') : q.ok w' := by
  obtain ⟨h1, h2, ss, h3, h4⟩ := h
  exact ⟨h1, h2, ss, h3.below hb, h4⟩
theorem q_cell {w : World} {b off : Nat} {l : List Qv} (h : ∀ j u, (l.flatMap Qv.cells)[j]? = some u → w.cell? ⟨b, off + j, none⟩ = some u) (k : Nat) (hk : k < l.length) :
    w.cell? ⟨b, off + k * 6, none⟩ = some (.int .i64 l[k].k) ∧ w.cell? ⟨b, off + k * 6 + 1, none⟩ = some (.string l[k].a.o) ∧ w.cell? ⟨b, off + k * 6 + 2, none⟩ = some (.string l[k].a.n) ∧ w.cell? ⟨b, off + k * 6 + 3, none⟩ = some (.string l[k].b.o) ∧ w.cell? ⟨b, off + k * 6 + 4, none⟩ = some (.string l[k].b.n) ∧ w.cell? ⟨b, off + k * 6 + 5, none⟩ = some l[k].w := by
  have hx : l[k]? = some l[k] := List.getElem?_eq_getElem hk
  have h0 := h _ _ ((flat_get Qv.cells 6 Qv.cells_len l k 0 (by omega) _ hx).trans rfl)
  have h1 := h _ _ ((flat_get Qv.cells 6 Qv.cells_len l k 1 (by omega) _ hx).trans rfl)
  have h2 := h _ _ ((flat_get Qv.cells 6 Qv.cells_len l k 2 (by omega) _ hx).trans rfl)
  have h3 := h _ _ ((flat_get Qv.cells 6 Qv.cells_len l k 3 (by omega) _ hx).trans rfl)
  have h4 := h _ _ ((flat_get Qv.cells 6 Qv.cells_len l k 4 (by omega) _ hx).trans rfl)
  have h5 := h _ _ ((flat_get Qv.cells 6 Qv.cells_len l k 5 (by omega) _ hx).trans rfl)
  exact ⟨h0, h1, h2, h3, h4, h5⟩

end Go.Proofs.YtomhekohcadijaaGreatDoor
namespace Go.Proofs.YtomhekohcadijaaGreatDoor
open Go.RowKit Go.Shelf

structure OneAt (w : World) (A : Array Value) (wx : World) : Prop where
  a : Blk wx w.heap.size A
  low : Below w.heap.size w wx
theorem OneAt.later {w wx w' : World} {A : Array Value} (h : OneAt w A wx) (hb : Below wx.heap.size wx w') : OneAt w A w' := ⟨h.a.below hb, h.low.trans (hb.mono h.low.size)⟩
theorem OneAt.alloc {w wx : World} {A : Array Value} (h : OneAt w A wx) (o : Obj) : OneAt w A (wx.alloc o) := h.later ((Below.refl _ _).alloc (Nat.le_refl _) o)
theorem OneAt.drew {w wx : World} {A : Array Value} (h : OneAt w A wx) : OneAt w A wx.drew := h.later (below_drew (Below.refl _ _))
end Go.Proofs.YtomhekohcadijaaGreatDoor
