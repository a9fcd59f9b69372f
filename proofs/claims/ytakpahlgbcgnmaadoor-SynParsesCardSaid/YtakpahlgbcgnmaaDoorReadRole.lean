/- syn.ReadRole: the role that any tokens begin with. -/
import Derived.Test.YtakpahlgbcgnmaaDoorSynLaw
namespace Go.Proofs.YtakpahlgbcgnmaaDoor
open Go.RowKit Go.Shelf

/-- Do tokens begin with a role? -/
def isRT (l : List Tok) : Bool := match l with
  | t0 :: t1 :: t2 :: _ => t0.kind == 1 && t1.kind == 3 && t2.kind == 2
  | _ => false
def roleOf (l : List Tok) : Rl := if isRT l then ⟨tx l 0, tx l 2⟩ else noR
def restLen (l : List Tok) : Nat := if isRT l then l.length - 3 else l.length
theorem isRT_short (l : List Tok) (h : l.length < 3) : isRT l = false := by
  match l, h with
  | [], _ => rfl
  | [_], _ => rfl
  | [_, _], _ => rfl
theorem role_no {l : List Tok} (h : isRT l = false) : roleOf l = noR ∧ restLen l = l.length := by simp [roleOf, restLen, h]
theorem role_yes {l : List Tok} (h : isRT l = true) : roleOf l = ⟨tx l 0, tx l 2⟩ ∧ restLen l = l.length - 3 := by simp [roleOf, restLen, h]
theorem isRT_cons (t0 t1 t2 : Tok) (l : List Tok) : isRT (t0 :: t1 :: t2 :: l) = (t0.kind == 1 && t1.kind == 3 && t2.kind == 2) := rfl
theorem three_of {l : List Tok} (h : ¬ l.length < 3) : ∃ t0 t1 t2 r, l = t0 :: t1 :: t2 :: r := by
  match l, h with
  | t0 :: t1 :: t2 :: r, _ => exact ⟨t0, t1, t2, r, rfl⟩
  | [], h => exact absurd (by decide) h
  | [_], h => exact absurd (by simp) h
  | [_, _], h => exact absurd (by simp) h

set_option maxRecDepth 100000 in
set_option maxHeartbeats 2000000 in
theorem syn_ReadRole (va : Value) (l : List Tok) (w : World) (ha : Sl w 3 va l.length (l.flatMap Tok.cells)) :
    Calls Tryd.prog 24 #[va] w fun e w' => ∃ ra rc, e = .returned (.tuple #[rv (roleOf l), .slice ra (restLen l) rc, .bool (isRT l)]) ∧ Below w.heap.size w w' := by
  have hmax := ha.max
  by_cases h3 : l.length < 3
  · obtain ⟨sa, sc, rfl⟩ := ha.form
    have R := Lib.hid (role_no (isRT_short l h3))
    have R2 := Lib.hid (isRT_short l h3)
    have d : decide ((l.length : Int) < 3) = true := by rw [decide_eq_true_iff]; omega
    clear h3 ha
    go_enter Tryd.func24, Tryd.ntmps24
    go_wp2
    refine bodyPost_ret (v := .tuple #[rv noR, .slice sa l.length sc, .bool false]) (by simp [results, Tryd.results24, go_sem, noR]) rfl ⟨sa, sc, by rw [R.out.1, R.out.2, R2.out], ?_⟩
    (repeat' (first | with_reducible exact Below.refl _ _ | with_reducible assumption | with_reducible (refine Below.setCell ?_ ?_ _) | with_reducible (refine Below.alloc ?_ ?_ _) | with_reducible (refine below_drew ?_) | with_reducible (refine below_drewN ?_ _) | with_reducible (refine Below.trans ?_ (Below.mono (by assumption) ?_)) | omega | (simp; done) | (simp; omega)))
  · obtain ⟨t0, t1, t2, r, rfl⟩ := three_of h3
    obtain ⟨b, off, cap, rfl, hc, hm, hlt, hx⟩ := ha.pos (by simp)
    have a0 : w.cell? ⟨b, off, none⟩ = some (.int .i64 t0.kind) := hx 0 _ rfl
    have a1 : w.cell? ⟨b, off + 1, none⟩ = some (.string ⟨t0.text.toArray⟩) := hx 1 _ rfl
    have b0 : w.cell? ⟨b, off + 3, none⟩ = some (.int .i64 t1.kind) := hx 3 _ rfl
    have c0 : w.cell? ⟨b, off + 6, none⟩ = some (.int .i64 t2.kind) := hx 6 _ rfl
    have c1 : w.cell? ⟨b, off + 6 + 1, none⟩ = some (.string ⟨t2.text.toArray⟩) := hx 7 _ rfl
    obtain ⟨n, hn⟩ : ∃ n, n = (t0 :: t1 :: t2 :: r).length := ⟨_, rfl⟩
    have hn3 : n = r.length + 3 := hn
    have hnm : n ≤ 9223372036854775807 := by rw [hn]; exact hmax
    rw [← hn] at hc ⊢
    have d : decide ((n : Int) < 3) = false := by rw [decide_eq_false_iff_not]; omega
    have hn0 : (0 : Nat) < n := by omega
    have hn1 : 1 < n := by omega
    have hn2 : 2 < n := by omega
    clear h3 hmax
    by_cases h0 : t0.kind = 1
    case neg =>
      have R2 := Lib.hid (show isRT (t0 :: t1 :: t2 :: r) = false by simp [isRT_cons, h0])
      have R := Lib.hid (role_no R2.out)
      have e0 : (t0.kind != 1) = true := by simp [h0]
      clear h0 hx ha
      go_enter Tryd.func24, Tryd.ntmps24
      go_wp2
      refine bodyPost_ret (v := .tuple #[rv noR, .slice (some ⟨b, off, none⟩) n cap, .bool false]) (by simp [results, Tryd.results24, go_sem, noR]; omega) rfl ⟨some ⟨b, off, none⟩, cap, by rw [R.out.1, R.out.2, R2.out, hn], ?_⟩
      (repeat' (first | with_reducible exact Below.refl _ _ | with_reducible assumption | with_reducible (refine Below.setCell ?_ ?_ _) | with_reducible (refine Below.alloc ?_ ?_ _) | with_reducible (refine below_drew ?_) | with_reducible (refine below_drewN ?_ _) | with_reducible (refine Below.trans ?_ (Below.mono (by assumption) ?_)) | omega | (simp; done) | (simp; omega)))
    by_cases h1 : t1.kind = 3
    case neg =>
      have R2 := Lib.hid (show isRT (t0 :: t1 :: t2 :: r) = false by simp [isRT_cons, h1])
      have R := Lib.hid (role_no R2.out)
      have e0 : (t0.kind != 1) = false := by simp [h0]
      have e1 : (t1.kind != 3) = true := by simp [h1]
      clear h0 h1 hx ha
      go_enter Tryd.func24, Tryd.ntmps24
      go_wp2
      refine bodyPost_ret (v := .tuple #[rv noR, .slice (some ⟨b, off, none⟩) n cap, .bool false]) (by simp [results, Tryd.results24, go_sem, noR]; omega) rfl ⟨some ⟨b, off, none⟩, cap, by rw [R.out.1, R.out.2, R2.out, hn], ?_⟩
      (repeat' (first | with_reducible exact Below.refl _ _ | with_reducible assumption | with_reducible (refine Below.setCell ?_ ?_ _) | with_reducible (refine Below.alloc ?_ ?_ _) | with_reducible (refine below_drew ?_) | with_reducible (refine below_drewN ?_ _) | with_reducible (refine Below.trans ?_ (Below.mono (by assumption) ?_)) | omega | (simp; done) | (simp; omega)))
    by_cases h2 : t2.kind = 2
    case neg =>
      have R2 := Lib.hid (show isRT (t0 :: t1 :: t2 :: r) = false by simp [isRT_cons, h2])
      have R := Lib.hid (role_no R2.out)
      have e0 : (t0.kind != 1) = false := by simp [h0]
      have e1 : (t1.kind != 3) = false := by simp [h1]
      have e2 : (t2.kind != 2) = true := by simp [h2]
      clear h0 h1 h2 hx ha
      go_enter Tryd.func24, Tryd.ntmps24
      go_wp2
      refine bodyPost_ret (v := .tuple #[rv noR, .slice (some ⟨b, off, none⟩) n cap, .bool false]) (by simp [results, Tryd.results24, go_sem, noR]; omega) rfl ⟨some ⟨b, off, none⟩, cap, by rw [R.out.1, R.out.2, R2.out, hn], ?_⟩
      (repeat' (first | with_reducible exact Below.refl _ _ | with_reducible assumption | with_reducible (refine Below.setCell ?_ ?_ _) | with_reducible (refine Below.alloc ?_ ?_ _) | with_reducible (refine below_drew ?_) | with_reducible (refine below_drewN ?_ _) | with_reducible (refine Below.trans ?_ (Below.mono (by assumption) ?_)) | omega | (simp; done) | (simp; omega)))
    have R2 := Lib.hid (show isRT (t0 :: t1 :: t2 :: r) = true by simp [isRT_cons, h0, h1, h2])
    have R := Lib.hid (role_yes R2.out)
    have RX := Lib.hid (show (tx (t0 :: t1 :: t2 :: r) 0 = ⟨t0.text.toArray⟩ ∧ tx (t0 :: t1 :: t2 :: r) 2 = ⟨t2.text.toArray⟩) from ⟨rfl, rfl⟩)
    have e0 : (t0.kind != 1) = false := by simp [h0]
    have e1 : (t1.kind != 3) = false := by simp [h1]
    have e2 : (t2.kind != 2) = false := by simp [h2]
    have hn4 : ¬ n < 3 := by omega
    have hn5 : 3 ≤ n := by omega
    have hc5 : 3 ≤ cap := by omega
    by_cases hcap : cap = 3
    · subst hcap
      clear h0 h1 h2 hx ha
      go_enter Tryd.func24, Tryd.ntmps24
      go_wp2_with fail
      go_region
      go_wp2_with fail
      refine bodyPost_ret (v := .tuple #[rv ⟨⟨t0.text.toArray⟩, ⟨t2.text.toArray⟩⟩, .slice (some ⟨b, off, none⟩) (n - 3) 0, .bool true]) (by simp [results, Tryd.results24, go_sem]; omega) rfl ⟨_, _, by rw [R.out.1, R.out.2, R2.out, RX.out.1, RX.out.2, hn], ?_⟩
      (repeat' (first | with_reducible exact Below.refl _ _ | with_reducible assumption | with_reducible (refine Below.setCell ?_ ?_ _) | with_reducible (refine Below.alloc ?_ ?_ _) | with_reducible (refine below_drew ?_) | with_reducible (refine below_drewN ?_ _) | with_reducible (refine Below.trans ?_ (Below.mono (by assumption) ?_)) | omega | (simp; done) | (simp; omega)))
    · have hcap2 : 3 < cap := by omega
      clear h0 h1 h2 hx ha
      go_enter Tryd.func24, Tryd.ntmps24
      go_wp2_with fail
      go_region
      go_wp2_with fail
      refine bodyPost_ret (v := .tuple #[rv ⟨⟨t0.text.toArray⟩, ⟨t2.text.toArray⟩⟩, .slice (some ⟨b, off + 9, none⟩) (n - 3) (cap - 3), .bool true]) (by simp [results, Tryd.results24, go_sem]; omega) rfl ⟨_, _, by rw [R.out.1, R.out.2, R2.out, RX.out.1, RX.out.2, hn], ?_⟩
      (repeat' (first | with_reducible exact Below.refl _ _ | with_reducible assumption | with_reducible (refine Below.setCell ?_ ?_ _) | with_reducible (refine Below.alloc ?_ ?_ _) | with_reducible (refine below_drew ?_) | with_reducible (refine below_drewN ?_ _) | with_reducible (refine Below.trans ?_ (Below.mono (by assumption) ?_)) | omega | (simp; done) | (simp; omega)))
end Go.Proofs.YtakpahlgbcgnmaaDoor
