/- Package state: Reaches; the reference's MayCome and Reaches. -/
import Derived.Test.YtmpanikeeeoikaaPolLight2
import Derived.Test.YtmpanikeeeoikaaTwoAt
import Derived.Test.YtmpanikeeeoikaaStFns
namespace Go.Proofs.Ytmpanikeeeoikaa
open Go.RowKit Go.Shelf

section
variable {α : Type} {l : List α} {p : α → Bool}
theorem all_no {k : Nat} (hk : k < l.length) (h : p l[k] = false) : l.all p = false := by
  rw [List.all_eq_false]; exact ⟨l[k], List.getElem_mem hk, by rw [h]; exact Bool.false_ne_true⟩
theorem all_end' (h : ∀ j (hj : j < l.length), p l[j] = true) : l.all p = true := by
  rw [List.all_eq_true]; intro x hx
  obtain ⟨j, hj, rfl⟩ := List.getElem_of_mem hx
  exact h j hj
theorem any_yes {k : Nat} (hk : k < l.length) (h : p l[k] = true) : l.any p = true := by
  rw [List.any_eq_true]; exact ⟨l[k], List.getElem_mem hk, h⟩
theorem any_end (h : ∀ j (hj : j < l.length), p l[j] = false) : l.any p = false := by
  rw [List.any_eq_false]; intro x hx
  obtain ⟨j, hj, rfl⟩ := List.getElem_of_mem hx
  rw [h j hj]; exact Bool.false_ne_true
end

set_option maxRecDepth 100000 in
set_option maxHeartbeats 2000000 in
theorem st_IndexFunc (va : Value) (l : List St) (w : World) (ha : SlA w 9 va l.length (l.flatMap St.cells)) (g : Nat) (cb : Array Value) (p : St → Bool)
    (eg : ∀ args w, (callFunc g args).run Try.prog w = .ok (.enter g args) w)
    (hp : ∀ x W, x ∈ l → Below w.heap.size w W → Calls Try.prog g (#[sv x] ++ cb) W fun e w' => e = .returned (.bool (p x)) ∧ Below W.heap.size W w') :
    Calls Try.prog 59 #[va, .func (.func g) #[] cb] w fun e w' => (∃ i : Int, e = .returned (.int .i64 i) ∧ decide (0 ≤ i) = l.any p) ∧ Below w.heap.size w w' := by
  have HP := Lib.hid hp
  have HA := Lib.hid ha
  have hmax := ha.max
  have HY := Lib.hid (fun k (hk : k < l.length) (h : p l[k] = true) => any_yes hk h)
  have HN := Lib.hid (fun (h : ∀ j (hj : j < l.length), p l[j] = false) => any_end h)
  generalize l.any p = res at HY HN ⊢
  obtain ⟨ao, cap, hva⟩ := ha.form
  subst hva
  clear ha hp
  go_enter Try.func59, Try.ntmps59
  go_wp2
  go_loopw [8] (fun i wr => ∃ k : Nat, k ≤ l.length ∧ i = .int .i64 k ∧ Hid (Below w.heap.size w wr) ∧ Hid (∀ j (hj : j < l.length), j < k → p l[j] = false)) (fun i _ => l.length - (intOf i).toNat)
  case atStart => exact ⟨0, by omega, rfl, Lib.hid (Below.refl _ _), Lib.hid (fun _ _ h => absurd h (by omega))⟩
  case round =>
    obtain ⟨k, hk, rfl, HB, HJ⟩ := hrel
    by_cases hlt : k < l.length
    · obtain ⟨b1, o1, c1, he1, hc1, hm1, hb1, hx1⟩ := HA.out.pos (by omega)
      simp only [Value.slice.injEq, true_and] at he1
      obtain ⟨rfl, rfl⟩ := he1
      obtain ⟨p0, p1, p2, p3, p4, p5, p6, p7, p8⟩ := st_cell (w := wr) (fun j u hu => (HB.out.cell (p := ⟨b1, o1 + j, none⟩) hb1).trans (hx1 j u hu)) k hlt
      have hbr : b1 < wr.heap.size := Nat.lt_of_lt_of_le hb1 HB.out.size
      have PC := Lib.hid (fun W h => HP.out l[k] W (List.getElem_mem hlt) h)
      have HYk := Lib.hid (fun h => HY.out k hlt h)
      have HJ2 : Hid (p l[k] = false → ∀ j (hj : j < l.length), j < k + 1 → p l[j] = false) := Lib.hid (fun hpk j hj hjk => by
        by_cases h : j < k
        · exact HJ.out j hj h
        · obtain rfl : j = k := by omega
          exact hpk)
      have hek : l[k] = ⟨l[k].k, ⟨l[k].h.o, l[k].h.n⟩, l[k].who, ⟨l[k].a.o, l[k].a.n⟩, ⟨l[k].b.o, l[k].b.n⟩, l[k].via⟩ := rfl
      clear hx1
      generalize p l[k] = px at PC HYk HJ2
      generalize l[k] = x at *
      obtain ⟨xk, ⟨x1, x2⟩, xw, ⟨x3, x4⟩, ⟨x5, x6⟩, xv⟩ := x
      clear hek
      go_wp2_with fail
      refine (PC.out _ HB.out).mono ?_
      rintro e w2 ⟨rfl, hb2⟩
      have HB2 := Lib.hid (HB.out.trans (hb2.mono HB.out.size))
      clear hb2
      cases px with
      | true =>
        have R := Lib.hid (HYk.out rfl)
        go_wp2
        go_ret
        exact ⟨⟨(k : Int), rfl, by rw [R.out, decide_eq_true_iff]; omega⟩, HB2.out⟩
      | false =>
        have HJ3 := Lib.hid (HJ2.out rfl)
        go_wp2
        exact ⟨⟨k + 1, by omega, by go_num, HB2, HJ3⟩, by simp [intOf]; omega⟩
    · have R := Lib.hid (HN.out (fun j hj => HJ.out j hj (by omega)))
      go_wp2
      go_ret
      exact ⟨⟨-1, rfl, by rw [R.out]; rfl⟩, HB.out⟩
set_option maxHeartbeats 1000000 in
theorem st_ContainsFunc (va : Value) (l : List St) (w : World) (ha : SlA w 9 va l.length (l.flatMap St.cells)) (g : Nat) (cb : Array Value) (p : St → Bool)
    (eg : ∀ args w, (callFunc g args).run Try.prog w = .ok (.enter g args) w)
    (hp : ∀ x W, x ∈ l → Below w.heap.size w W → Calls Try.prog g (#[sv x] ++ cb) W fun e w' => e = .returned (.bool (p x)) ∧ Below W.heap.size W w') :
    Calls Try.prog 35 #[va, .func (.func g) #[] cb] w fun e w' => e = .returned (.bool (l.any p)) ∧ Below w.heap.size w w' := by
  have I := Lib.hid (st_IndexFunc va l w ha g cb p eg hp)
  generalize l.any p = res at I ⊢
  clear ha hp eg
  go_enter Try.func35, Try.ntmps35
  go_wp2_with fail
  refine I.out.mono ?_
  rintro e w1 ⟨⟨i, rfl, hi⟩, hb⟩
  have HI := Lib.hid hi
  have HB := Lib.hid hb
  clear hi hb
  go_wp2
  go_ret
  exact ⟨ret_b HI.out, HB.out⟩

def cOk (l : List St) (g : List Rl) (s : St) : Bool := rightS s && (hasS l s || !hasR g s.h)
def stays (h : List Rl) (m : List St) (s : St) : Bool := hasR h s.h && !hasS m s
def reachS (l : List St) (g h : List Rl) (m : List St) : Bool := m.all (cOk l g) && !(l.any (stays h m))

set_option maxHeartbeats 1000000 in
theorem state_Reaches1 (b1 b2 : Nat) (v0 v1 vh v3 vc : Value) (h : List Rl) (m : List St) (x : St) (w : World)
    (q0 : w.cell? ⟨b1, 0, none⟩ = some v0) (q1 : w.cell? ⟨b1, 1, none⟩ = some v1) (q2 : w.cell? ⟨b1, 2, none⟩ = some vh) (q3 : w.cell? ⟨b1, 3, none⟩ = some v3) (qc : w.cell? ⟨b2, 0, none⟩ = some vc)
    (h0 : v0.oneCell' = true) (h1 : v1.oneCell' = true) (h3 : v3.oneCell' = true)
    (hh : SlA w 2 vh h.length (h.flatMap Rl.cells)) (hc : SlA w 9 vc m.length (m.flatMap St.cells)) :
    Calls Try.prog 34 #[sv x, .pointer (some ⟨b1, 0, none⟩), .pointer (some ⟨b2, 0, none⟩)] w fun e w' => e = .returned (.bool (stays h m x)) ∧ Below w.heap.size w w' := by
  have hl1 : b1 < w.heap.size := World.block_lt_of_cell? w _ q0
  have hl2 : b2 < w.heap.size := World.block_lt_of_cell? w _ qc
  have MG := Lib.hid (fun W (hb : Below w.heap.size w W) => state_MayGo v0 v1 vh v3 h x W (hh.below hb) h0 h1 h3)
  have HS := Lib.hid (fun W (hb : Below w.heap.size w W) => state_Has vc m x W (hc.below hb))
  have QC := Lib.hid (fun W (hb : Below w.heap.size w W) => (hb.cell (p := ⟨b2, 0, none⟩) hl2).trans qc)
  unfold stays
  generalize hasR h x.h = r1 at MG ⊢
  generalize hasS m x = r2 at HS ⊢
  obtain ⟨ah, ch, rfl⟩ := hh.form
  obtain ⟨ac, cc, rfl⟩ := hc.form
  obtain ⟨xk, ⟨x1, x2⟩, xw, ⟨x3, x4⟩, ⟨x5, x6⟩, xv⟩ := x
  have HB := Lib.hid ((Below.refl _ w).alloc (Nat.le_refl _) (.cells #[.int .i64 xk, .string x1, .string x2, .string xw, .string x3, .string x4, .string x5, .string x6, .string xv] 30))
  clear hh hc
  go_enter Try.func34, Try.ntmps34
  go_wp2_with fail
  refine (MG.out _ HB.out).mono ?_
  rintro e w1 ⟨rfl, hb1⟩
  have HB1 := Lib.hid (HB.out.trans (hb1.mono HB.out.size))
  obtain ⟨ca, fa, za⟩ := keep1 hb1
  have qc1 := QC.out _ HB1.out
  have hl3 : b2 < w1.heap.size := Nat.lt_of_lt_of_le hl2 HB1.out.size
  clear hb1
  cases r1 with
  | false =>
    go_wp2
    go_ret
    exact ⟨rfl, HB1.out⟩
  | true =>
    go_wp2_with fail
    refine (HS.out _ HB1.out).mono ?_
    rintro e w2 ⟨rfl, hb2⟩
    have HB2 := Lib.hid (HB1.out.trans (hb2.mono HB1.out.size))
    clear hb2
    go_wp2
    go_ret
    exact ⟨rfl, HB2.out⟩
end Go.Proofs.Ytmpanikeeeoikaa
