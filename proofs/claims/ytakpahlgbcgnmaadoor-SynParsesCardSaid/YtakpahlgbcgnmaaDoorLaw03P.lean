/- The statement SynParses: the walk of the law. -/
import Derived.Test.YtakpahlgbcgnmaaDoorRefParse2
import Derived.Test.YtakpahlgbcgnmaaDoorReadRole
import Derived.Test.YtakpahlgbcgnmaaDoorLaw03
namespace Go.Proofs.YtakpahlgbcgnmaaDoor
open Go.RowKit Go.Shelf

theorem isRT_two {l : List Tok} (h : l.length ≤ 2) : isRT l = false := isRT_short l (by omega)
set_option maxRecDepth 100000 in
set_option maxHeartbeats 8000000 in
theorem law3_SynParses (s : ByteArray) (w : World) (hg : Gl w) (hs : s.size ≤ 9223372036854775807) :
    Calls Tryd.prog 5 #[.string s] w fun e w' => e = .returned (.bool true) ∧ Below w.heap.size w w' := by
  have HL := Lib.hid (fun W (h : Gl W) => law3_lives W h)
  have HG := Lib.hid hg
  have hr : (s.extract 0 (min (s.size : Int) 300).toNat).size ≤ 300 := by simp; omega
  clear hg
  go_enter Tryd.func5, Tryd.ntmps5
  go_wp2_with fail
  generalize s.extract 0 (min (s.size : Int) 300).toNat = r at hr ⊢
  have P1 := syn_Parse r w (by omega) HG.out
  have P2 := Lib.hid (fun W => ref3_Parse r W (by omega))
  have P3 := Lib.hid (fun W => ref2_Tokens_any r W (by omega))
  generalize parseS r = res at P1 P2
  obtain ⟨⟨k, ⟨h1, h2⟩, who, ⟨a1, a2⟩, ⟨b1, b2⟩, via⟩, i, y⟩ := res
  dsimp only at P1 P2
  refine P1.mono ?_
  rintro e w1 ⟨rfl, hb1⟩
  clear P1
  go_wp2_with fail
  refine (P2.out _).mono ?_
  rintro e w2 ⟨rfl, hb2⟩
  have HA := Lib.hid (keep1 hb2)
  have hbw2 : Below w.heap.size w w2 := (hb1.alloc hb1.size _).trans (hb2.mono (Nat.le_trans hb1.size (by simp)))
  have hz12 : w1.heap.size < w2.heap.size := HA.out.2.2
  have HBW2 := Lib.hid hbw2
  clear hb2 hbw2
  go_wp2_with fail
  refine (P3.out _).mono ?_
  rintro e w3 ⟨va, rfl, hown, hb3⟩
  have HA3 := Lib.hid ((HA.out.alloc _).below hb3)
  have HB3 := Lib.hid (keep1 hb3)
  have hbw3 : Below w.heap.size w w3 := (HBW2.out.alloc HBW2.out.size _).trans (hb3.mono (Nat.le_trans HBW2.out.size (by simp)))
  have HBW3 := Lib.hid hbw3
  obtain ⟨sa, sc, rfl⟩ := own_form hown
  have hsl := Lib.hid (Sl.of_own hown)
  clear hown hb3 hbw3 HA P2 P3
  generalize tokens (bl r) = t at hsl ⊢
  obtain ⟨l, i2, y2⟩ := t
  dsimp only at hsl ⊢
  have P4 := syn_ReadRole _ l w3 hsl.out
  have hmax := hsl.out.max
  have hself : eqSt ⟨k, ⟨h1, h2⟩, who, ⟨a1, a2⟩, ⟨b1, b2⟩, via⟩ ⟨k, ⟨h1, h2⟩, who, ⟨a1, a2⟩, ⟨b1, b2⟩, via⟩ = true := by simp [eqSt]
  have hEqS := stmt_eql'
  have hEqR := role_neq
  have hselfR : eqRl ⟨⟨#[]⟩, ⟨#[]⟩⟩ ⟨⟨#[]⟩, ⟨#[]⟩⟩ = true := by simp [eqRl]
  have hnn : w1.heap.size < w3.heap.size := HA3.out.2.2
  have hnn2 : w2.heap.size < w3.heap.size := HB3.out.2.2
  by_cases h2l : l.length ≤ 2
  · rw [isRT_two h2l, (role_no (isRT_two h2l)).1, (role_no (isRT_two h2l)).2] at P4
    change Calls _ _ _ _ (fun e w' => ∃ ra rc, e = .returned (.tuple #[.agg #[.string ⟨#[]⟩, .string ⟨#[]⟩], .slice ra l.length rc, .bool false]) ∧ _) at P4
    have d : decide ((2 : Int) < (l.length : Int)) = false := by rw [decide_eq_false_iff_not]; omega
    clear h2l
    go_wp2_with fail
    refine P4.mono ?_
    rintro e w4 ⟨ra, rc, rfl, hb4⟩
    have hbw4 : Below w.heap.size w w4 := HBW3.out.trans (hb4.mono HBW3.out.size)
    obtain ⟨ca, fa, za⟩ := HA3.out.below hb4
    obtain ⟨cb, fb, zb⟩ := HB3.out.below hb4
    have hz3 : w3.heap.size ≤ w4.heap.size := hb4.size
    have HGW := Lib.hid (HG.out.below hbw4)
    have HBW4 := Lib.hid hbw4
    have hz4 : w.heap.size ≤ w4.heap.size := hbw4.size
    clear hb4 hbw4 P4
    go_wp2_with fail
    go_big_quiet (fail)
    go_wp2_with fail
    go_wp2_with fail
    refine (HL.out _ (HGW.out.below ?_)).mono ?_
    · (repeat' (first | with_reducible exact Below.refl _ _ | with_reducible assumption | with_reducible (refine Below.setCell ?_ ?_ _) | with_reducible (refine Below.alloc ?_ ?_ _) | with_reducible (refine below_drew ?_) | with_reducible (refine below_drewN ?_ _) | with_reducible (refine Below.trans ?_ (Below.mono (by assumption) ?_)) | omega | (simp; done) | (simp; omega)))
    rintro e w6 ⟨rfl, hb6⟩
    go_wp2_with fail
    go_ret
    have hbw4 := HBW4.out
    refine ⟨rfl, ?_⟩
    (repeat' (first | with_reducible exact Below.refl _ _ | with_reducible assumption | with_reducible (refine Below.setCell ?_ ?_ _) | with_reducible (refine Below.alloc ?_ ?_ _) | with_reducible (refine below_drew ?_) | with_reducible (refine below_drewN ?_ _) | with_reducible (refine Below.trans ?_ (Below.mono (by assumption) ?_)) | omega | (simp; done) | (simp; omega)))
  · obtain ⟨t0, t1, t2, rr, rfl⟩ := three_of (show ¬ l.length < 3 by omega)
    obtain ⟨tb, tof, tc, he, hc, hm, hlt, hx⟩ := hsl.out.pos (by simp)
    simp only [Value.slice.injEq, true_and] at he
    obtain ⟨rfl, rfl⟩ := he
    have x0 : w3.cell? ⟨tb, tof, none⟩ = some (.int .i64 t0.kind) := hx 0 _ rfl
    have z0 : w3.cell? ⟨tb, tof + 1, none⟩ = some (.string ⟨t0.text.toArray⟩) := hx 1 _ rfl
    have x1 : w3.cell? ⟨tb, tof + 3, none⟩ = some (.int .i64 t1.kind) := hx 3 _ rfl
    have x2 : w3.cell? ⟨tb, tof + 6, none⟩ = some (.int .i64 t2.kind) := hx 6 _ rfl
    have z2 : w3.cell? ⟨tb, tof + 6 + 1, none⟩ = some (.string ⟨t2.text.toArray⟩) := hx 7 _ rfl
    obtain ⟨n, hn⟩ : ∃ n, n = (t0 :: t1 :: t2 :: rr).length := ⟨_, rfl⟩
    have hn3 : n = rr.length + 3 := hn
    generalize rr.length = m at hn3
    rw [← hn] at P4 hc hmax ⊢
    have d : decide ((2 : Int) < (n : Int)) = true := by rw [decide_eq_true_iff]; omega
    have hn0 : 0 < n := by omega
    have hn1 : 1 < n := by omega
    have hn2 : 2 < n := by omega
    clear h2l
    by_cases h0 : t0.kind = 1
    case neg =>
      have R2 := show isRT (t0 :: t1 :: t2 :: rr) = false by simp [isRT_cons, h0]
      rw [R2, (role_no R2).1, (role_no R2).2, ← hn] at P4
      change Calls _ _ _ _ (fun e w' => ∃ ra rc, e = .returned (.tuple #[.agg #[.string ⟨#[]⟩, .string ⟨#[]⟩], .slice ra n rc, .bool false]) ∧ _) at P4
      have e0 : (t0.kind == 1) = false := by simp [h0]
      clear R2 h0
      clear hn hn3
      go_wp2_with fail
      refine P4.mono ?_
      rintro e w4 ⟨ra, rc, rfl, hb4⟩
      have hbw4 : Below w.heap.size w w4 := HBW3.out.trans (hb4.mono HBW3.out.size)
      obtain ⟨ca, fa, za⟩ := HA3.out.below hb4
      obtain ⟨cb, fb, zb⟩ := HB3.out.below hb4
      have hz3 : w3.heap.size ≤ w4.heap.size := hb4.size
      have yx0 : w4.cell? ⟨tb, tof, none⟩ = some (.int .i64 t0.kind) := (hb4.cell (p := ⟨tb, tof, none⟩) hlt).trans x0
      have yz0 : w4.cell? ⟨tb, tof + 1, none⟩ = some (.string ⟨t0.text.toArray⟩) := (hb4.cell (p := ⟨tb, tof + 1, none⟩) hlt).trans z0
      have yx1 : w4.cell? ⟨tb, tof + 3, none⟩ = some (.int .i64 t1.kind) := (hb4.cell (p := ⟨tb, tof + 3, none⟩) hlt).trans x1
      have yx2 : w4.cell? ⟨tb, tof + 6, none⟩ = some (.int .i64 t2.kind) := (hb4.cell (p := ⟨tb, tof + 6, none⟩) hlt).trans x2
      have yz2 : w4.cell? ⟨tb, tof + 6 + 1, none⟩ = some (.string ⟨t2.text.toArray⟩) := (hb4.cell (p := ⟨tb, tof + 6 + 1, none⟩) hlt).trans z2
      have hlt4 : tb < w4.heap.size := Nat.lt_of_lt_of_le hlt hz3
      clear hx x0 x1 x2 z0 z2 hsl hlt
      have HGW := Lib.hid (HG.out.below hbw4)
      have HBW4 := Lib.hid hbw4
      have hz4 : w.heap.size ≤ w4.heap.size := hbw4.size
      clear hb4 hbw4 P4
      go_wp2_with fail
      go_big_quiet (fail)
      go_wp2_with fail
      go_wp2_with fail
      refine (HL.out _ (HGW.out.below ?_)).mono ?_
      · (repeat' (first | with_reducible exact Below.refl _ _ | with_reducible assumption | with_reducible (refine Below.setCell ?_ ?_ _) | with_reducible (refine Below.alloc ?_ ?_ _) | with_reducible (refine below_drew ?_) | with_reducible (refine below_drewN ?_ _) | with_reducible (refine Below.trans ?_ (Below.mono (by assumption) ?_)) | omega | (simp; done) | (simp; omega)))
      rintro e w6 ⟨rfl, hb6⟩
      go_wp2_with fail
      go_ret
      have hbw4 := HBW4.out
      refine ⟨rfl, ?_⟩
      (repeat' (first | with_reducible exact Below.refl _ _ | with_reducible assumption | with_reducible (refine Below.setCell ?_ ?_ _) | with_reducible (refine Below.alloc ?_ ?_ _) | with_reducible (refine below_drew ?_) | with_reducible (refine below_drewN ?_ _) | with_reducible (refine Below.trans ?_ (Below.mono (by assumption) ?_)) | omega | (simp; done) | (simp; omega)))
    by_cases h1 : t1.kind = 3
    case neg =>
      have R2 := show isRT (t0 :: t1 :: t2 :: rr) = false by simp [isRT_cons, h1]
      rw [R2, (role_no R2).1, (role_no R2).2, ← hn] at P4
      change Calls _ _ _ _ (fun e w' => ∃ ra rc, e = .returned (.tuple #[.agg #[.string ⟨#[]⟩, .string ⟨#[]⟩], .slice ra n rc, .bool false]) ∧ _) at P4
      have e0 : (t0.kind == 1) = true := by simp [h0]
      have e1 : (t1.kind == 3) = false := by simp [h1]
      clear R2 h0 h1
      clear hn hn3
      go_wp2_with fail
      refine P4.mono ?_
      rintro e w4 ⟨ra, rc, rfl, hb4⟩
      have hbw4 : Below w.heap.size w w4 := HBW3.out.trans (hb4.mono HBW3.out.size)
      obtain ⟨ca, fa, za⟩ := HA3.out.below hb4
      obtain ⟨cb, fb, zb⟩ := HB3.out.below hb4
      have hz3 : w3.heap.size ≤ w4.heap.size := hb4.size
      have yx0 : w4.cell? ⟨tb, tof, none⟩ = some (.int .i64 t0.kind) := (hb4.cell (p := ⟨tb, tof, none⟩) hlt).trans x0
      have yz0 : w4.cell? ⟨tb, tof + 1, none⟩ = some (.string ⟨t0.text.toArray⟩) := (hb4.cell (p := ⟨tb, tof + 1, none⟩) hlt).trans z0
      have yx1 : w4.cell? ⟨tb, tof + 3, none⟩ = some (.int .i64 t1.kind) := (hb4.cell (p := ⟨tb, tof + 3, none⟩) hlt).trans x1
      have yx2 : w4.cell? ⟨tb, tof + 6, none⟩ = some (.int .i64 t2.kind) := (hb4.cell (p := ⟨tb, tof + 6, none⟩) hlt).trans x2
      have yz2 : w4.cell? ⟨tb, tof + 6 + 1, none⟩ = some (.string ⟨t2.text.toArray⟩) := (hb4.cell (p := ⟨tb, tof + 6 + 1, none⟩) hlt).trans z2
      have hlt4 : tb < w4.heap.size := Nat.lt_of_lt_of_le hlt hz3
      clear hx x0 x1 x2 z0 z2 hsl hlt
      have HGW := Lib.hid (HG.out.below hbw4)
      have HBW4 := Lib.hid hbw4
      have hz4 : w.heap.size ≤ w4.heap.size := hbw4.size
      clear hb4 hbw4 P4
      go_wp2_with fail
      go_big_quiet (fail)
      go_wp2_with fail
      go_wp2_with fail
      refine (HL.out _ (HGW.out.below ?_)).mono ?_
      · (repeat' (first | with_reducible exact Below.refl _ _ | with_reducible assumption | with_reducible (refine Below.setCell ?_ ?_ _) | with_reducible (refine Below.alloc ?_ ?_ _) | with_reducible (refine below_drew ?_) | with_reducible (refine below_drewN ?_ _) | with_reducible (refine Below.trans ?_ (Below.mono (by assumption) ?_)) | omega | (simp; done) | (simp; omega)))
      rintro e w6 ⟨rfl, hb6⟩
      go_wp2_with fail
      go_ret
      have hbw4 := HBW4.out
      refine ⟨rfl, ?_⟩
      (repeat' (first | with_reducible exact Below.refl _ _ | with_reducible assumption | with_reducible (refine Below.setCell ?_ ?_ _) | with_reducible (refine Below.alloc ?_ ?_ _) | with_reducible (refine below_drew ?_) | with_reducible (refine below_drewN ?_ _) | with_reducible (refine Below.trans ?_ (Below.mono (by assumption) ?_)) | omega | (simp; done) | (simp; omega)))
    by_cases h2 : t2.kind = 2
    case neg =>
      have R2 := show isRT (t0 :: t1 :: t2 :: rr) = false by simp [isRT_cons, h2]
      rw [R2, (role_no R2).1, (role_no R2).2, ← hn] at P4
      change Calls _ _ _ _ (fun e w' => ∃ ra rc, e = .returned (.tuple #[.agg #[.string ⟨#[]⟩, .string ⟨#[]⟩], .slice ra n rc, .bool false]) ∧ _) at P4
      have e0 : (t0.kind == 1) = true := by simp [h0]
      have e1 : (t1.kind == 3) = true := by simp [h1]
      have e2 : (t2.kind == 2) = false := by simp [h2]
      clear R2 h0 h1 h2
      clear hn hn3
      go_wp2_with fail
      refine P4.mono ?_
      rintro e w4 ⟨ra, rc, rfl, hb4⟩
      have hbw4 : Below w.heap.size w w4 := HBW3.out.trans (hb4.mono HBW3.out.size)
      obtain ⟨ca, fa, za⟩ := HA3.out.below hb4
      obtain ⟨cb, fb, zb⟩ := HB3.out.below hb4
      have hz3 : w3.heap.size ≤ w4.heap.size := hb4.size
      have yx0 : w4.cell? ⟨tb, tof, none⟩ = some (.int .i64 t0.kind) := (hb4.cell (p := ⟨tb, tof, none⟩) hlt).trans x0
      have yz0 : w4.cell? ⟨tb, tof + 1, none⟩ = some (.string ⟨t0.text.toArray⟩) := (hb4.cell (p := ⟨tb, tof + 1, none⟩) hlt).trans z0
      have yx1 : w4.cell? ⟨tb, tof + 3, none⟩ = some (.int .i64 t1.kind) := (hb4.cell (p := ⟨tb, tof + 3, none⟩) hlt).trans x1
      have yx2 : w4.cell? ⟨tb, tof + 6, none⟩ = some (.int .i64 t2.kind) := (hb4.cell (p := ⟨tb, tof + 6, none⟩) hlt).trans x2
      have yz2 : w4.cell? ⟨tb, tof + 6 + 1, none⟩ = some (.string ⟨t2.text.toArray⟩) := (hb4.cell (p := ⟨tb, tof + 6 + 1, none⟩) hlt).trans z2
      have hlt4 : tb < w4.heap.size := Nat.lt_of_lt_of_le hlt hz3
      clear hx x0 x1 x2 z0 z2 hsl hlt
      have HGW := Lib.hid (HG.out.below hbw4)
      have HBW4 := Lib.hid hbw4
      have hz4 : w.heap.size ≤ w4.heap.size := hbw4.size
      clear hb4 hbw4 P4
      go_wp2_with fail
      go_big_quiet (fail)
      go_wp2_with fail
      go_wp2_with fail
      refine (HL.out _ (HGW.out.below ?_)).mono ?_
      · (repeat' (first | with_reducible exact Below.refl _ _ | with_reducible assumption | with_reducible (refine Below.setCell ?_ ?_ _) | with_reducible (refine Below.alloc ?_ ?_ _) | with_reducible (refine below_drew ?_) | with_reducible (refine below_drewN ?_ _) | with_reducible (refine Below.trans ?_ (Below.mono (by assumption) ?_)) | omega | (simp; done) | (simp; omega)))
      rintro e w6 ⟨rfl, hb6⟩
      go_wp2_with fail
      go_ret
      have hbw4 := HBW4.out
      refine ⟨rfl, ?_⟩
      (repeat' (first | with_reducible exact Below.refl _ _ | with_reducible assumption | with_reducible (refine Below.setCell ?_ ?_ _) | with_reducible (refine Below.alloc ?_ ?_ _) | with_reducible (refine below_drew ?_) | with_reducible (refine below_drewN ?_ _) | with_reducible (refine Below.trans ?_ (Below.mono (by assumption) ?_)) | omega | (simp; done) | (simp; omega)))
    have R2 := show isRT (t0 :: t1 :: t2 :: rr) = true by simp [isRT_cons, h0, h1, h2]
    rw [R2, (role_yes R2).1, (role_yes R2).2, ← hn, show n - 3 = m by omega] at P4
    have hm7 : m ≤ 9223372036854775804 := by omega
    have hwr : IntKind.i64.wrap ((n : Int) - 3) = (m : Int) := by rw [show (n : Int) - 3 = (m : Int) by omega]; exact Go.IntWalk.i64_in _ (by omega)
    change Calls _ _ _ _ (fun e w' => ∃ ra rc, e = .returned (.tuple #[rv ⟨⟨t0.text.toArray⟩, ⟨t2.text.toArray⟩⟩, .slice ra m rc, .bool true]) ∧ _) at P4
    have e0 : (t0.kind == 1) = true := by simp [h0]
    have e1 : (t1.kind == 3) = true := by simp [h1]
    have e2 : (t2.kind == 2) = true := by simp [h2]
    clear R2 h0 h1 h2
    clear hn hn3
    go_wp2_with fail
    refine P4.mono ?_
    rintro e w4 ⟨ra, rc, rfl, hb4⟩
    have hbw4 : Below w.heap.size w w4 := HBW3.out.trans (hb4.mono HBW3.out.size)
    obtain ⟨ca, fa, za⟩ := HA3.out.below hb4
    obtain ⟨cb, fb, zb⟩ := HB3.out.below hb4
    have hz3 : w3.heap.size ≤ w4.heap.size := hb4.size
    have yx0 : w4.cell? ⟨tb, tof, none⟩ = some (.int .i64 t0.kind) := (hb4.cell (p := ⟨tb, tof, none⟩) hlt).trans x0
    have yz0 : w4.cell? ⟨tb, tof + 1, none⟩ = some (.string ⟨t0.text.toArray⟩) := (hb4.cell (p := ⟨tb, tof + 1, none⟩) hlt).trans z0
    have yx1 : w4.cell? ⟨tb, tof + 3, none⟩ = some (.int .i64 t1.kind) := (hb4.cell (p := ⟨tb, tof + 3, none⟩) hlt).trans x1
    have yx2 : w4.cell? ⟨tb, tof + 6, none⟩ = some (.int .i64 t2.kind) := (hb4.cell (p := ⟨tb, tof + 6, none⟩) hlt).trans x2
    have yz2 : w4.cell? ⟨tb, tof + 6 + 1, none⟩ = some (.string ⟨t2.text.toArray⟩) := (hb4.cell (p := ⟨tb, tof + 6 + 1, none⟩) hlt).trans z2
    have hlt4 : tb < w4.heap.size := Nat.lt_of_lt_of_le hlt hz3
    clear hx x0 x1 x2 z0 z2 hsl hlt
    have HGW := Lib.hid (HG.out.below hbw4)
    have HBW4 := Lib.hid hbw4
    have hz4 : w.heap.size ≤ w4.heap.size := hbw4.size
    clear hb4 hbw4 P4
    go_wp2_with fail
    go_big_quiet (fail)
    go_wp2_with fail
    go_wp2_with fail
    refine (HL.out _ (HGW.out.below ?_)).mono ?_
    · (repeat' (first | with_reducible exact Below.refl _ _ | with_reducible assumption | with_reducible (refine Below.setCell ?_ ?_ _) | with_reducible (refine Below.alloc ?_ ?_ _) | with_reducible (refine below_drew ?_) | with_reducible (refine below_drewN ?_ _) | with_reducible (refine Below.trans ?_ (Below.mono (by assumption) ?_)) | omega | (simp; done) | (simp; omega)))
    rintro e w6 ⟨rfl, hb6⟩
    go_wp2_with fail
    go_ret
    have hbw4 := HBW4.out
    refine ⟨rfl, ?_⟩
    (repeat' (first | with_reducible exact Below.refl _ _ | with_reducible assumption | with_reducible (refine Below.setCell ?_ ?_ _) | with_reducible (refine Below.alloc ?_ ?_ _) | with_reducible (refine below_drew ?_) | with_reducible (refine below_drewN ?_ _) | with_reducible (refine Below.trans ?_ (Below.mono (by assumption) ?_)) | omega | (simp; done) | (simp; omega)))
end Go.Proofs.YtakpahlgbcgnmaaDoor
