/- crupperref11: In, Inside, Members of a row of pairs. slices.Contains at texts; simple.inside. crupperref05.Prins, Names, Fits: some row of texts, some bool comes back (printed by gen_prins.py). crupperref05.Fits, crupperref04.Right, crupperref03.SameRoles: some bool comes back. crupperref04.Right: some bool comes back. crupperref05.SortRoles: the rows of roles in order that it makes (printed by gen_rlsort.py out of RefSort). crupperref03.SameRoles: whether two rows of roles are one. crupperref10.Of. The statement StateRows: the walk of the law. crupperref05.Right: some bool comes back; if it is true, all statements may be. -/
import Derived.Test.YtcmdhfccdkjenaaGreatDoorPart7
import Derived.Test.YtcmdhfccdkjenaaGreatDoorPart5
import Derived.Deep.RegionLawGrows
import Derived.Test.YtcmdhfccdkjenaaGreatDoorPart6
namespace Go.Proofs.YtcmdhfccdkjenaaGreatDoor
open Go.RowKit Go.Shelf

abbrev Pr := Rl × ByteArray
def pcells (p : Pr) : List Value := [.string p.1.o, .string p.1.n, .string p.2]
theorem pcells_len (p : Pr) : (pcells p).length = 3 := rfl
theorem pr_cell {w : World} {b off : Nat} {l : List Pr} (h : ∀ j u, (l.flatMap pcells)[j]? = some u → w.cell? ⟨b, off + j, none⟩ = some u) (k : Nat) (hk : k < l.length) :
  w.cell? ⟨b, off + k * 3, none⟩ = some (.string l[k].1.o) ∧ w.cell? ⟨b, off + k * 3 + 1, none⟩ = some (.string l[k].1.n) ∧ w.cell? ⟨b, off + k * 3 + 2, none⟩ = some (.string l[k].2) := by
 have hx : l[k]? = some l[k] := List.getElem?_eq_getElem hk
 have h0 := h _ _ ((flat_get pcells 3 pcells_len l k 0 (by omega) _ hx).trans rfl)
 have h1 := h _ _ ((flat_get pcells 3 pcells_len l k 1 (by omega) _ hx).trans rfl)
 have h2 := h _ _ ((flat_get pcells 3 pcells_len l k 2 (by omega) _ hx).trans rfl)
 simp only [Nat.add_zero, ← Nat.add_assoc] at h0 h1 h2
 exact ⟨h0, h1, h2⟩
theorem prs_one (l : List Pr) : ∀ u ∈ l.flatMap pcells, u.oneCell' = true := by
 intro u hu
 obtain ⟨x, _, hx⟩ := List.mem_flatMap.1 hu
 simp only [pcells, List.mem_cons, List.not_mem_nil, or_false] at hx
 rcases hx with rfl | rfl | rfl <;> rfl
theorem pr_info : (Tryz.prog.info? 120).map (fun i => (i.zero, i.size, i.bytes)) = some (some (.agg #[.string emp, .string emp, .string emp]), 3, 48) := by kernel_rfl
theorem hasP_yes {l : List Pr} {r : Rl} {x : ByteArray} {k : Nat} (hk : k < l.length) (h1 : l[k].1 = r) (h2 : l[k].2 = x) : hasP l r x = true := by
 rw [hasP_iff, ← h1, ← h2]; exact List.getElem_mem hk
theorem hasP_end {l : List Pr} {r : Rl} {x : ByteArray} {k : Nat} (hk : ¬ k < l.length) (h : ∀ j (hj : j < l.length), j < k → ¬ (l[j].1 = r ∧ l[j].2 = x)) : hasP l r x = false := by
 rw [← Bool.not_eq_true, hasP_iff]
 intro hm
 obtain ⟨j, hj, e⟩ := List.getElem_of_mem hm
 exact h j hj (by omega) ⟨by rw [e], by rw [e]⟩
set_option maxRecDepth 100000 in
set_option maxHeartbeats 2000000 in
theorem ref11_In (va : Value) (l : List Pr) (r : Rl) (x : ByteArray) (w : World) (ha : SlA w 3 va l.length (l.flatMap pcells)) :
  Calls Tryz.prog 93 #[va, rv r, .string x] w fun e w' => e = .returned (.bool (hasP l r x)) ∧ Below w.heap.size w w' := by
 have hmax := ha.max
 have hEq := role_eql
 by_cases h0 : 0 < l.length
 ·obtain ⟨b1, o1, c1, rfl, hc1, hm1, hb1, hx1⟩ := ha.pos h0
  have HX1 := Lib.hid hx1
  have HS := Lib.hid (fun k (hl : k < l.length) (e1 : l[k].1 = r) (e2 : l[k].2 = x) => hasP_yes hl e1 e2)
  have HE := Lib.hid (fun k (hk : ¬ k < l.length) h => hasP_end (l := l) (r := r) (x := x) (k := k) hk h)
  have HD := Lib.hid (fun k (hl : k < l.length) => show (eqRl l[k].1 r = true ↔ l[k].1 = r) from decide_eq_true_iff)
  generalize hasP l r x = res at HS HE ⊢
  clear ha hx1
  obtain ⟨h1, h2⟩ := r
  go_enter Tryz.func93, Tryz.ntmps93
  go_wp2
  go_loopw [11] (fun i wr => ∃ k : Nat, k ≤ l.length ∧ i = .int .i64 k ∧ Below w.heap.size w wr ∧ Blk wr w.heap.size #[.string h1, .string h2] ∧ Hid (∀ j (hj : j < l.length), j < k → ¬ (l[j].1 = ⟨h1, h2⟩ ∧ l[j].2 = x))) (fun i _ => l.length - (intOf i).toNat)
  case atStart => exact ⟨0, by omega, rfl, (Below.refl _ _).alloc (Nat.le_refl _) _, Blk.new _ _ _, Lib.hid (fun _ _ h => absurd h (by omega))⟩
  case round =>
   obtain ⟨k, hk, rfl, hbw, hblk, HT⟩ := hrel
   have HBW := Lib.hid hbw
   have HBK := Lib.hid hblk
   have hz := hbw.size
   obtain ⟨cs, fs, zs⟩ := hblk
   by_cases hlt : k < l.length
   ·obtain ⟨p0, p1, p2⟩ := pr_cell (w := wr) (fun j u hu => (hbw.cell (p := ⟨b1, o1 + j, none⟩) hb1).trans (HX1.out j u hu)) k hlt
    have hb1' : b1 < wr.heap.size := Nat.lt_of_lt_of_le hb1 hz
    have hD := HD.out k hlt
    have HSk := Lib.hid (HS.out k hlt)
    have HN := Lib.hid (fun (hn : ¬ (l[k].1 = ⟨h1, h2⟩ ∧ l[k].2 = x)) j (hj : j < l.length) (hjk : j < k + 1) => show ¬ (l[j].1 = ⟨h1, h2⟩ ∧ l[j].2 = x) by
     by_cases hjk' : j < k
     ·exact HT.out j hj hjk'
     ·obtain rfl : j = k := by omega
      exact hn)
    clear hbw
    generalize l[k] = p at *
    obtain ⟨⟨y1, y2⟩, y3⟩ := p
    cases he : eqRl ⟨y1, y2⟩ ⟨h1, h2⟩ with
    | true =>
     have e1 := hD.1 he
     by_cases he3 : y3 = x
     ·have R := Lib.hid (HSk.out e1 he3)
      have d3 : (y3.toList == x.toList) = true := by rw [beq_str]; simp [he3]
      clear hD e1
      go_wp2
      go_ret
      exact ⟨ret_b R.out.symm, HBW.out.alloc HBW.out.size _⟩
     ·have HN2 := Lib.hid (HN.out (fun h => he3 h.2))
      have d3 : (y3.toList == x.toList) = false := by rw [beq_str]; simp [he3]
      clear hD e1
      go_wp2
      exact ⟨⟨k + 1, by omega, by go_num, HBW.out.alloc HBW.out.size _, HBK.out.alloc _, HN2⟩, by simp [intOf]; omega⟩
    | false =>
     have HN2 := Lib.hid (HN.out (fun h => by rw [hD.2 h.1] at he; cases he))
     clear hD
     go_wp2
     exact ⟨⟨k + 1, by omega, by go_num, HBW.out.alloc HBW.out.size _, HBK.out.alloc _, HN2⟩, by simp [intOf]; omega⟩
   ·have R := Lib.hid (HE.out k hlt HT.out)
    clear hbw
    go_wp2
    go_ret
    exact ⟨ret_b R.out.symm, HBW.out⟩
 ·obtain ⟨a1, c1, rfl⟩ := ha.form
  obtain rfl : l = [] := List.eq_nil_of_length_eq_zero (by omega)
  clear ha h0 hmax
  obtain ⟨h1, h2⟩ := r
  go_enter Tryz.func93, Tryz.ntmps93
  go_wp2
  go_loopw [11] (fun i wr => i = .int .i64 0 ∧ Below w.heap.size w wr) (fun _ _ => 0)
  case atStart => exact ⟨rfl, (Below.refl _ _).alloc (Nat.le_refl _) _⟩
  case round =>
   obtain ⟨rfl, hbw⟩ := hrel
   go_wp2
   go_ret
   exact ⟨rfl, hbw⟩
def membersP (l : List Pr) (r : Rl) : List ByteArray := newB ((l.filter (fun p => eqRl p.1 r)).map (fun p => p.2))
theorem membersP_mem {l : List Pr} {r : Rl} {x : ByteArray} : x ∈ membersP l r ↔ (r, x) ∈ l := by
 unfold membersP
 rw [new_mem, List.mem_map]
 constructor
 ·rintro ⟨⟨a, b⟩, h, rfl⟩
  have := (List.mem_filter.1 h).2
  rw [show a = r from of_decide_eq_true this] at h
  exact (List.mem_filter.1 h).1
 ·intro h
  exact ⟨_, List.mem_filter.2 ⟨h, decide_eq_true rfl⟩, rfl⟩
theorem membersP_asc (l : List Pr) (r : Rl) : AscB (membersP l r) := new_asc _
theorem membersP_snoc {l : List Pr} {r : Rl} {k : Nat} (hk : k < l.length) : membersP (l.take (k + 1)) r = if eqRl l[k].1 r = true then insSB (membersP (l.take k) r) l[k].2 else membersP (l.take k) r := by
 unfold membersP
 rw [List.take_succ_eq_append_getElem hk, List.filter_append, List.map_append]
 by_cases h : eqRl l[k].1 r = true
 ·rw [if_pos h, List.filter_cons, if_pos h]
  simp only [List.filter_nil, List.map_cons, List.map_nil]
  exact new_snoc _ _
 ·rw [if_neg h, List.filter_cons, if_neg h]
  simp
theorem membersP_len (l : List Pr) (r : Rl) : (membersP l r).length ≤ l.length := by
 unfold membersP
 have h1 := new_len ((l.filter (fun p => eqRl p.1 r)).map (fun p => p.2))
 have h2 := List.length_filter_le (fun p : Pr => eqRl p.1 r) l
 rw [List.length_map] at h1
 omega
set_option maxRecDepth 100000 in
set_option maxHeartbeats 2000000 in
theorem ref11_Members (va : Value) (l : List Pr) (r : Rl) (w : World) (ha : SlA w 3 va l.length (l.flatMap pcells)) (hn : l.length ≤ 10000) :
  Calls Tryz.prog 24 #[va, rv r] w fun e w' => ∃ v, e = .returned v ∧ SlA w' 1 v (membersP l r).length (strs (membersP l r)) ∧ Below w.heap.size w w' := by
 have hEq := role_eql
 have HA := Lib.hid ha
 have hmax := ha.max
 obtain ⟨a0, c0, rfl⟩ := ha.form
 clear ha
 obtain ⟨h1, h2⟩ := r
 go_enter Tryz.func24, Tryz.ntmps24
 go_wp2_with fail
 go_loopw [5, 10] (fun vo i wr => ∃ (k : Nat) (ms : List ByteArray), k ≤ l.length ∧ i = .int .i64 k ∧ Hid (ms = membersP (l.take k) ⟨h1, h2⟩) ∧ Hid (Below w.heap.size w wr) ∧ Blk wr w.heap.size #[.string h1, .string h2] ∧ Hid (SlA wr 1 vo ms.length (strs ms))) (fun _ i _ => l.length - (intOf i).toNat)
 case atStart => exact ⟨0, [], by omega, rfl, Lib.hid rfl, Lib.hid ((Below.refl _ _).alloc (Nat.le_refl _) _), Blk.new _ _ _, Lib.hid (Sl.nil _ _).a⟩
 case round =>
  obtain ⟨k, ms, hk, rfl, HE, HB, hblk, HO⟩ := hrel
  obtain ⟨oo, oc, rfl⟩ := HO.out.form
  have HBK := Lib.hid hblk
  obtain ⟨cs, fs, zs⟩ := hblk
  by_cases hlt : k < l.length
  ·obtain ⟨b1, o1, c1, he1, hc1, hm1, hb1, hx1⟩ := HA.out.pos (by omega)
   simp only [Value.slice.injEq, true_and] at he1
   obtain ⟨rfl, rfl⟩ := he1
   obtain ⟨p0, p1, p2⟩ := pr_cell (w := wr) (fun j u hu => (HB.out.cell (p := ⟨b1, o1 + j, none⟩) hb1).trans (hx1 j u hu)) k hlt
   have hbr : b1 < wr.heap.size := Nat.lt_of_lt_of_le hb1 HB.out.size
   have HS := Lib.hid (membersP_snoc (r := ⟨h1, h2⟩) hlt)
   have hml : ms.length ≤ 10000 := by have h3 := membersP_len (l.take k) ⟨h1, h2⟩; rw [← HE.out] at h3; have := List.length_take_le k l; omega
   clear hx1
   generalize l[k] = p at *
   obtain ⟨⟨y1, y2⟩, y3⟩ := p
   obtain ⟨wa, hwa⟩ : ∃ V, V = wr.alloc (.cells #[.string y1, .string y2, .string y3] 120) := ⟨_, rfl⟩
   have hba : Below wr.heap.size wr wa := by rw [hwa]; exact (Below.refl _ _).alloc (Nat.le_refl _) _
   cases he : eqRl ⟨y1, y2⟩ ⟨h1, h2⟩ with
   | true =>
    have HE2 := Lib.hid (show insSB ms y3 = membersP (l.take (k + 1)) ⟨h1, h2⟩ by have := HS.out; rw [if_pos he, ← HE.out] at this; exact this.symm)
    have PU := Lib.hid (ref1_PutB (.slice oo ms.length oc) ms y3 wa (HO.out.below hba) (by omega))
    clear HS
    go_wp2_with fail
    rw [← hwa]
    clear hwa
    refine PU.out.mono ?_
    rintro e w2 ⟨v2, rfl, hs2, hb2⟩
    have hbb : Below wr.heap.size wr w2 := hba.trans (hb2.mono hba.size)
    have HO2 := Lib.hid hs2
    have HBK2 := Lib.hid (HBK.out.below hbb)
    have HB2 := Lib.hid (HB.out.trans (hbb.mono HB.out.size))
    clear hs2 hb2 hbb hba PU cs fs zs p0 p1 p2
    go_wp2_with fail
    exact ⟨⟨k + 1, insSB ms y3, by omega, by go_num, HE2, HB2, HBK2.out, HO2⟩, by simp [intOf]; omega⟩
   | false =>
    have HE2 := Lib.hid (show ms = membersP (l.take (k + 1)) ⟨h1, h2⟩ by have := HS.out; rw [if_neg (by rw [he]; exact Bool.false_ne_true), ← HE.out] at this; exact this.symm)
    clear HS
    have HO2 := Lib.hid (HO.out.below hba)
    have HBK2 := Lib.hid (HBK.out.below hba)
    have HB2 := Lib.hid (HB.out.trans (hba.mono HB.out.size))
    rw [hwa] at HO2 HBK2 HB2
    clear hwa hba
    go_wp2_with fail
    exact ⟨⟨k + 1, ms, by omega, by go_num, HE2, HB2, HBK2.out, HO2⟩, by simp [intOf]; omega⟩
  ·have HRS := Lib.hid (show ms = membersP l ⟨h1, h2⟩ by rw [HE.out, List.take_of_length_le (show l.length ≤ k by omega)])
   go_wp2
   go_ret
   exact ⟨_, rfl, by rw [← HRS.out]; exact HO.out, HB.out⟩
def insideB (a b : List ByteArray) : Bool := a.all (hasB b)
set_option maxRecDepth 100000 in
set_option maxHeartbeats 2000000 in
theorem ref11_Inside (va vb : Value) (a b : List ByteArray) (w : World) (ha : SlA w 1 va a.length (strs a)) (hb : SlA w 1 vb b.length (strs b)) :
  Calls Tryz.prog 22 #[va, vb] w fun e w' => e = .returned (.bool (insideB a b)) ∧ w' = w := by
 have HA := Lib.hid ha
 have HH := Lib.hid (fun s => ref1_HasB vb b s w hb)
 have hmax := ha.max
 have HY := Lib.hid (fun k (hk : ¬ k < a.length) (h : ∀ j (hj : j < a.length), j < k → hasB b a[j] = true) => show insideB a b = true by
  unfold insideB; rw [List.all_eq_true]
  intro x hx
  obtain ⟨j, hj, rfl⟩ := List.getElem_of_mem hx
  exact h j hj (by omega))
 have HNo := Lib.hid (fun k (hk : k < a.length) (h : hasB b a[k] = false) => show insideB a b = false by
  unfold insideB; rw [List.all_eq_false]
  exact ⟨a[k], List.getElem_mem hk, by rw [h]; exact Bool.false_ne_true⟩)
 generalize insideB a b = res at *
 obtain ⟨a0, c0, rfl⟩ := ha.form
 obtain ⟨b0, d0, rfl⟩ := hb.form
 clear ha hb
 go_enter Tryz.func22, Tryz.ntmps22
 go_wp2_with fail
 go_loopw [9] (fun i wr => ∃ k : Nat, k ≤ a.length ∧ i = .int .i64 k ∧ wr = w ∧ Hid (∀ j (hj : j < a.length), j < k → hasB b a[j] = true)) (fun i _ => a.length - (intOf i).toNat)
 case atStart => exact ⟨0, by omega, rfl, rfl, Lib.hid (fun _ _ h => absurd h (by omega))⟩
 case round =>
  obtain ⟨k, hk, rfl, rfl, HT⟩ := hrel
  by_cases hlt : k < a.length
  ·obtain ⟨b1, o1, c1, he1, hc1, hm1, hb1, hx1⟩ := HA.out.pos (by omega)
   simp only [Value.slice.injEq, true_and] at he1
   obtain ⟨rfl, rfl⟩ := he1
   have p0 := hx1 k _ (strs_get hlt)
   have HN := Lib.hid (fun (hn : hasB b a[k] = true) j (hj : j < a.length) (hjk : j < k + 1) => show hasB b a[j] = true by
    by_cases hjk' : j < k
    ·exact HT.out j hj hjk'
    ·obtain rfl : j = k := by omega
     exact hn)
   have HNk := Lib.hid (HNo.out k hlt)
   clear hx1
   generalize a[k] = x at *
   have HHx := Lib.hid (HH.out x)
   generalize hasB b x = t at *
   go_wp2_with fail
   refine HHx.out.mono ?_
   rintro e w2 ⟨rfl, rfl⟩
   cases t with
   | true =>
    have HN2 := Lib.hid (HN.out rfl)
    clear HN HNk HHx
    go_wp2_with fail
    exact ⟨⟨k + 1, by omega, by go_num, trivial, HN2⟩, by simp [intOf]; omega⟩
   | false =>
    have R := Lib.hid (HNk.out rfl)
    clear HN HNk HHx
    go_wp2_with fail
    go_ret
    exact ⟨ret_b R.out.symm, rfl⟩
  ·have R := Lib.hid (HY.out k hlt HT.out)
   go_wp2
   go_ret
   exact ⟨ret_b R.out.symm, rfl⟩
end Go.Proofs.YtcmdhfccdkjenaaGreatDoor
namespace Go.Proofs.YtcmdhfccdkjenaaGreatDoor
open Go.RowKit Go.Shelf

set_option maxRecDepth 100000 in
set_option maxHeartbeats 2000000 in
theorem str_Index (va : Value) (l : List ByteArray) (s : ByteArray) (w : World) (ha : SlA w 1 va l.length (strs l)) :
  Calls Tryz.prog 166 #[va, .string s] w fun e w' => (∃ i : Int, e = .returned (.int .i64 i) ∧ hasB l s = decide (0 ≤ i)) ∧ w' = w := by
 have HA := Lib.hid ha
 have hmax := ha.max
 obtain ⟨ao, cap, hva⟩ := ha.form
 subst hva
 clear ha
 have HY := Lib.hid (fun k (hk : k < l.length) (e : l[k] = s) => hasB_yes hk e)
 have HN := Lib.hid (fun k (hk : ¬ k < l.length) h => hasB_end (l := l) (s := s) (k := k) hk h)
 generalize hasB l s = res at HY HN ⊢
 go_enter Tryz.func166, Tryz.ntmps166
 go_wp2
 go_loopw [8] (fun i wr => ∃ k : Nat, k ≤ l.length ∧ i = .int .i64 k ∧ Hid (∀ j (hj : j < l.length), j < k → ¬ l[j] = s) ∧ wr = w) (fun i _ => l.length - (intOf i).toNat)
 case atStart => exact ⟨0, by omega, rfl, Lib.hid (fun _ _ h => absurd h (by omega)), rfl⟩
 case round =>
  obtain ⟨k, hk, rfl, HJ, rfl⟩ := hrel
  by_cases hlt : k < l.length
  ·obtain ⟨b1, o1, c1, he1, hc1, hm1, hb1, hx1⟩ := HA.out.pos (by omega)
   simp only [Value.slice.injEq, true_and] at he1
   obtain ⟨rfl, rfl⟩ := he1
   have p0 := hx1 k _ (strs_get hlt)
   have YES := Lib.hid (HY.out k hlt)
   have HJ2 : Hid (¬ l[k] = s → ∀ j (hj : j < l.length), j < k + 1 → ¬ l[j] = s) := Lib.hid (fun hpk j hj hjk => by
    by_cases h : j < k
    ·exact HJ.out j hj h
    ·obtain rfl : j = k := by omega
     exact hpk)
   clear hx1
   generalize l[k] = x at *
   by_cases e : x = s
   ·have d : (s.toList == x.toList) = true := by rw [beq_str, e]; exact decide_eq_true rfl
    have d' : (x.toList == s.toList) = true := by rw [beq_str, e]; exact decide_eq_true rfl
    have R := Lib.hid (YES.out e)
    clear e
    go_wp2
    go_ret
    exact ⟨⟨(k : Int), rfl, by rw [R.out, decide_eq_true (Int.natCast_nonneg k)]⟩, rfl⟩
   ·have d : (s.toList == x.toList) = false := by rw [beq_str]; exact decide_eq_false (fun h => e h.symm)
    have d' : (x.toList == s.toList) = false := by rw [beq_str]; exact decide_eq_false e
    have HJ3 := Lib.hid (HJ2.out e)
    clear e
    go_wp2
    exact ⟨⟨k + 1, by omega, by go_num, HJ3, by first | rfl | trivial⟩, by simp [intOf]; omega⟩
  ·have R := Lib.hid (HN.out k hlt HJ.out)
   go_wp2
   go_ret
   exact ⟨⟨-1, rfl, by rw [R.out]; rfl⟩, rfl⟩
set_option maxHeartbeats 1000000 in
theorem str_Contains (va : Value) (l : List ByteArray) (s : ByteArray) (w : World) (ha : SlA w 1 va l.length (strs l)) :
  Calls Tryz.prog 108 #[va, .string s] w fun e w' => e = .returned (.bool (hasB l s)) ∧ w' = w := by
 have I := Lib.hid (str_Index va l s w ha)
 generalize hasB l s = res at I ⊢
 clear ha
 go_enter Tryz.func108, Tryz.ntmps108
 go_wp2_with fail
 refine I.out.mono ?_
 rintro e w1 ⟨⟨i, rfl, hi⟩, rfl⟩
 have HI := Lib.hid hi
 clear hi
 go_wp2
 go_ret
 exact ⟨ret_b HI.out.symm, rfl⟩
set_option maxHeartbeats 1000000 in
theorem sim_inside1 (c : Nat) (vb : Value) (b : List ByteArray) (s : ByteArray) (w : World) (hc : w.cell? ⟨c, 0, none⟩ = some vb) (hb : SlA w 1 vb b.length (strs b)) :
  Calls Tryz.prog 164 #[.string s, .pointer (some ⟨c, 0, none⟩)] w fun e w' => e = .returned (.bool (!hasB b s)) ∧ w' = w := by
 have H := Lib.hid (str_Contains vb b s w hb)
 generalize hasB b s = r at *
 obtain ⟨bo, bc, rfl⟩ := hb.form
 clear hb
 go_enter Tryz.func164, Tryz.ntmps164
 go_wp2_with fail
 refine H.out.mono ?_
 rintro e w1 ⟨rfl, rfl⟩
 go_wp2
 go_ret
 exact ⟨rfl, rfl⟩
set_option maxHeartbeats 1000000 in
theorem sim_inside (va vb : Value) (a b : List ByteArray) (w : World) (ha : SlA w 1 va a.length (strs a)) (hb : SlA w 1 vb b.length (strs b)) :
  Calls Tryz.prog 105 #[va, vb] w fun e w' => e = .returned (.bool (insideB a b)) ∧ Below w.heap.size w w' := by
 have eg : ∀ args w, (callFunc 164 args).run Tryz.prog w = .ok (.enter 164 args) w := enters_of Tryz.func164 (by kernel_rfl) rfl
 have HB := Lib.hid ((Below.refl _ w).alloc (Nat.le_refl _) (.cells #[vb] 38))
 have BK := Lib.hid (Blk.new w #[vb] 38)
 have CF := Lib.hid (str_ContainsFunc va a _ (ha.below HB.out) 164 #[.pointer (some ⟨w.heap.size, 0, none⟩)] (fun s => !hasB b s) eg (fun x V hx hV => by
  have hl : Below w.heap.size w V := HB.out.trans (hV.mono HB.out.size)
  exact (sim_inside1 w.heap.size vb b x V (((BK.out.below hV).1 0).trans rfl) (hb.below hl)).mono fun e w' ⟨he, hw⟩ => ⟨he, by rw [hw]; exact Below.refl _ _⟩))
 have RES := Lib.hid (show (!a.any (fun s => !hasB b s)) = insideB a b by unfold insideB; rw [List.all_eq_not_any_not])
 generalize insideB a b = r at *
 generalize a.any (fun s => !hasB b s) = q at *
 obtain ⟨ao, ac, rfl⟩ := ha.form
 obtain ⟨bo, bc, rfl⟩ := hb.form
 clear ha hb eg
 go_enter Tryz.func105, Tryz.ntmps105
 go_wp2_with fail
 refine CF.out.mono ?_
 rintro e w1 ⟨rfl, hb1⟩
 have HB1 := Lib.hid (HB.out.trans (hb1.mono HB.out.size))
 clear hb1
 go_wp2
 go_ret
 exact ⟨ret_b RES.out, HB1.out⟩
end Go.Proofs.YtcmdhfccdkjenaaGreatDoor
namespace Go.Proofs.YtcmdhfccdkjenaaGreatDoor
open Go.RowKit Go.Shelf

end Go.Proofs.YtcmdhfccdkjenaaGreatDoor
namespace Go.Proofs.YtcmdhfccdkjenaaGreatDoor
open Go.RowKit Go.Shelf

end Go.Proofs.YtcmdhfccdkjenaaGreatDoor
namespace Go.Proofs.YtcmdhfccdkjenaaGreatDoor
open Go.RowKit Go.Shelf

set_option maxHeartbeats 400000 in
theorem ref3_IsRoleM (r : Rl) (w : World) (hs : r.le 9223372036854775807) :
  Calls Tryz.prog 73 #[rv r] w fun e w' => e = .returned (.bool (isRole r)) ∧ Below w.heap.size w w' := by
 obtain ⟨o, n⟩ := r
 obtain ⟨h1, h2⟩ := hs
 have H1 := Lib.hid (fun W => ref1_IsPrin o W h1)
 have H2 := Lib.hid (fun W => ref1_IsName n W h2)
 clear h1 h2
 have E := Lib.hid (show isRole ⟨o, n⟩ = (isP 65 90 (bl o) && isP 97 122 (bl n)) from rfl)
 cases hp : isP 65 90 (bl o)
 all_goals
  rw [hp] at E
  go_enter Tryz.func73, Tryz.ntmps73
  go_wp2_with (first | (go_at_call 101; refine (H1.out _).mono ?_; rintro e w' ⟨rfl, rfl⟩) | (go_at_call 135; refine (H2.out _).mono ?_; rintro e w' ⟨rfl, rfl⟩))
  go_ret
  exact ⟨ret_b (by rw [E.out]; rfl), (Below.refl _ _).alloc (Nat.le_refl _) _⟩

end Go.Proofs.YtcmdhfccdkjenaaGreatDoor
namespace Go.Proofs.YtcmdhfccdkjenaaGreatDoor
open Go.RowKit Go.Shelf
def posSR : List Rl → Rl → Nat
 | [], _ => 0
 | a :: r, x => if cmpR a x < 0 then posSR r x + 1 else 0
def insAtR (l : List Rl) (x : Rl) (k : Nat) : List Rl := l.take k ++ x :: l.drop k
def insSR (l : List Rl) (x : Rl) : List Rl := if hasR l x then l else insAtR l x (posSR l x)
def insAllR : List Rl → List Rl → List Rl
 | acc, [] => acc
 | acc, x :: l => insAllR (insSR acc x) l
theorem pos_leR : ∀ (l : List Rl) (x : Rl), posSR l x ≤ l.length
 | [], _ => Nat.le_refl _
 | a :: r, x => by unfold posSR; have := pos_leR r x; split <;> simp <;> omega
theorem pos_ofR : ∀ (l : List Rl) (x : Rl) (k : Nat), k ≤ l.length → (∀ j (hj : j < l.length), j < k → cmpR l[j] x < 0) → (∀ hk : k < l.length, ¬ cmpR l[k] x < 0) → posSR l x = k
 | [], x, k, hk, _, _ => by simp at hk; subst hk; rfl
 | a :: r, x, 0, _, _, h => by
  have h' : ¬ cmpR a x < 0 := h (by simp)
  unfold posSR; rw [if_neg h']
 | a :: r, x, k + 1, hk, h1, h2 => by
  have h' : cmpR a x < 0 := h1 0 (by simp) (by omega)
  unfold posSR
  rw [if_pos h', pos_ofR r x k (by simpa using hk) (fun j hj hjk => h1 (j + 1) (by simp; omega) (by omega)) (fun hk' => h2 (by simp; omega))]
theorem insS_lenR (l : List Rl) (x : Rl) : (insSR l x).length ≤ l.length + 1 := by
 unfold insSR insAtR; split
 ·omega
 ·simp [List.length_take, List.length_drop]; have := pos_leR l x; omega
theorem insAll_stepR (acc l : List Rl) (k : Nat) (hk : k < l.length) : insAllR acc (l.drop k) = insAllR (insSR acc l[k]) (l.drop (k + 1)) := by
 rw [List.drop_eq_getElem_cons hk]; rfl
theorem insAll_endR (acc l : List Rl) (k : Nat) (hk : ¬ k < l.length) : insAllR acc (l.drop k) = acc := by
 rw [List.drop_eq_nil_of_le (by omega)]; rfl
theorem insS_hasR {l : List Rl} {x : Rl} (h : hasR l x = true) : insSR l x = l := if_pos h
theorem insS_notR {l : List Rl} {x : Rl} (h : hasR l x = false) : insSR l x = insAtR l x (posSR l x) := if_neg (by rw [h]; exact Bool.false_ne_true)

theorem flat_dropR (l : List Rl) (j : Nat) (hj : j ≤ l.length) (i : Nat) : ((l.drop j).flatMap Rl.cells)[i]? = (l.flatMap Rl.cells)[j * 2 + i]? := by
 have h := List.take_append_drop j l
 have e : (l.flatMap Rl.cells) = (l.take j).flatMap Rl.cells ++ (l.drop j).flatMap Rl.cells := by rw [← List.flatMap_append, h]
 have hl : ((l.take j).flatMap Rl.cells).length = j * 2 := by rw [flat_len _ 2 Rl.cells_len, List.length_take]; congr 1; omega
 rw [e, List.getElem?_append_right (by omega), hl]
 congr 1; omega
theorem flat_takeR (l : List Rl) (j : Nat) (i : Nat) (u : Value) (h : ((l.take j).flatMap Rl.cells)[i]? = some u) : (l.flatMap Rl.cells)[i]? = some u := by
 have e : (l.flatMap Rl.cells) = (l.take j).flatMap Rl.cells ++ (l.drop j).flatMap Rl.cells := by rw [← List.flatMap_append, List.take_append_drop]
 rw [e]
 have hi := (List.getElem?_eq_some_iff.1 h).1
 rw [List.getElem?_append_left hi]; exact h
theorem take_len9R (l : List Rl) (j : Nat) (hj : j ≤ l.length) : ((l.take j).flatMap Rl.cells).length = j * 2 := by
 rw [flat_len _ 2 Rl.cells_len, List.length_take]; congr 1; omega
theorem drop_len9R (l : List Rl) (j : Nat) : ((l.drop j).flatMap Rl.cells).length = (l.length - j) * 2 := by
 rw [flat_len _ 2 Rl.cells_len, List.length_drop]
theorem sl_appR {l : List Rl} {x : Rl} {j : Nat} (_ : j ≤ l.length) : (l.take j).flatMap Rl.cells ++ x.cells ++ (l.drop j).flatMap Rl.cells = (insAtR l x j).flatMap Rl.cells := by
 unfold insAtR; rw [List.flatMap_append, List.flatMap_cons, List.append_assoc]
theorem insAt_lenR {l : List Rl} {x : Rl} {j : Nat} (hj : j ≤ l.length) : (insAtR l x j).length = j + 1 + (l.length - j) := by
 unfold insAtR; rw [List.length_append, List.length_cons, List.length_take, List.length_drop]; omega
theorem app_endR {l : List Rl} {x : Rl} : l.flatMap Rl.cells ++ x.cells = (insAtR l x l.length).flatMap Rl.cells := by
 have h := sl_appR (l := l) (x := x) (j := l.length) (Nat.le_refl _)
 rw [List.take_of_length_le (Nat.le_refl _), List.drop_of_length_le (Nat.le_refl _)] at h
 rw [← h]; simp
theorem insAt_endR {l : List Rl} {x : Rl} : (insAtR l x l.length).length = l.length + 1 := by rw [insAt_lenR (Nat.le_refl _)]; omega
abbrev Two (w : World) (b o : Nat) (s : Rl) : Prop := w.cell? ⟨b, o, none⟩ = some (.string s.o) ∧ w.cell? ⟨b, o + 1, none⟩ = some (.string s.n)
theorem ref3_LessD (x y : Rl) (w : World) : Calls Tryz.prog 136 #[rv x, rv y] w fun e w' => e = .returned (.bool (decide (cmpR x y < 0))) ∧ Below w.heap.size w w' := ref3_Less x y w
theorem Two.below {w w' : World} {b o : Nat} {s : Rl} (h : Two w b o s) (hb : b < w.heap.size) (hw : Below w.heap.size w w') : Two w' b o s := by
 have k : ∀ i, w'.cell? ⟨b, i, none⟩ = w.cell? ⟨b, i, none⟩ := fun i => hw.cell (p := ⟨b, i, none⟩) hb
 obtain ⟨h0, h1⟩ := h
 exact ⟨(k _).trans h0, (k _).trans h1⟩
set_option maxRecDepth 100000 in
set_option maxHeartbeats 8000000 in
theorem ref5_Sort (va : Value) (l : List Rl) (w : World) (ha : SlA w 2 va l.length (l.flatMap Rl.cells)) (hl : l.length ≤ 1000) :
  Calls Tryz.prog 76 #[va] w fun e w' => ∃ v, e = .returned v ∧ Sl w' 2 v (insAllR [] l).length ((insAllR [] l).flatMap Rl.cells) ∧ Below w.heap.size w w' := by
 by_cases h0 : 0 < l.length
 ·obtain ⟨b1, o1, c1, rfl, hc1, hm1, hb1, hx1⟩ := ha.pos h0
  have HX1 := Lib.hid hx1
  clear ha hx1
  go_enter Tryz.func76, Tryz.ntmps76
  go_wp2
  go_loopw [3, 10] (fun vo i wr => ∃ (k : Nat) (acc : List Rl), k ≤ l.length ∧ acc.length ≤ k ∧ i = .int .i64 k ∧ Below w.heap.size w wr ∧ Sl wr 2 vo acc.length (acc.flatMap Rl.cells) ∧ Hid (insAllR [] l = insAllR acc (l.drop k))) (fun _ i _ => l.length - (intOf i).toNat)
  case atStart => exact ⟨0, [], by omega, by simp, rfl, Below.refl _ _, Sl.nil _ _, Lib.hid (by simp)⟩
  case round =>
   obtain ⟨k, acc, hk, hak, rfl, hbw, hso, HI⟩ := hrel
   have HBW := Lib.hid hbw
   have HSO := Lib.hid hso
   have hz := hbw.size
   by_cases hlt : k < l.length
   ·obtain ⟨p0, p1⟩ := rl_cell (w := wr) (fun j u hu => (hbw.cell (p := ⟨b1, o1 + j, none⟩) hb1).trans (HX1.out j u hu)) k hlt
    have hbr : b1 < wr.heap.size := Nat.lt_of_lt_of_le hb1 hz
    have HST := Lib.hid (HI.out.trans (insAll_stepR acc l k hlt))
    have hx : l[k] = ⟨l[k].o, l[k].n⟩ := rfl
    generalize l[k].o = x1 at *
    generalize l[k].n = x2 at *
    rw [hx] at HST
    clear hx hbw hso HI
    obtain ⟨ao, co, rfl⟩ := HSO.out.form
    go_wp2_with fail
    have HX := Lib.hid (Blk.new wr #[.string x1, .string x2] 28)
    have HS2 := Lib.hid (HSO.out.below ((Below.refl wr.heap.size wr).alloc (Nat.le_refl _) (.cells #[.string x1, .string x2] 28)))
    refine (ref5_Has _ acc ⟨x1, x2⟩ _ HS2.out.a).mono ?_
    rintro e w2 ⟨rfl, hb2⟩
    have HX2 := Lib.hid (HX.out.below hb2)
    have HS3 := Lib.hid (HS2.out.below hb2)
    have HB2 := Lib.hid ((HBW.out.alloc HBW.out.size _).trans (hb2.mono (Nat.le_trans HBW.out.size (by simp))))
    have hz2 := HB2.out.size
    clear hb2 HX HS2 HSO p0 p1
    cases hh : hasR acc ⟨x1, x2⟩ with
    | true =>
     have HE := Lib.hid (HST.out.trans (by rw [insS_hasR hh]))
     clear hh
     go_wp2_with fail
     exact ⟨⟨k + 1, acc, by omega, by omega, by go_num, HB2.out, HS3.out, HE⟩, by simp [intOf]; omega⟩
    | false =>
     have HE := Lib.hid (HST.out.trans (by rw [insS_notR hh]))
     clear hh HST
     obtain ⟨g, hg⟩ : ∃ g, wr.heap.size = g := ⟨_, rfl⟩
     rw [hg] at HX2 ⊢
     clear hg hbr HBW hz
     go_wp2_with fail
     go_loopw [6] (fun i wr => ∃ j : Nat, j ≤ acc.length ∧ i = .int .i64 j ∧ Below w2.heap.size w2 wr ∧ Hid (∀ m (hm : m < acc.length), m < j → cmpR acc[m] ⟨x1, x2⟩ < 0)) (fun i _ => acc.length - (intOf i).toNat)
     case atStart => exact ⟨0, by omega, rfl, Below.refl _ _, Lib.hid (fun _ _ h => absurd h (by omega))⟩
     case round =>
      obtain ⟨j, hj, rfl, hbj, HJ⟩ := hrel
      have HBJ := Lib.hid hbj
      by_cases hjl : j < acc.length
      ·obtain ⟨b2, o2, c2, he2, hc2, hm2, hb2, hx2⟩ := HS3.out.pos (by omega)
       simp only [Value.slice.injEq, true_and] at he2
       obtain ⟨rfl, rfl⟩ := he2
       obtain ⟨q0, q1⟩ := rl_cell (w := wr) (fun m u hu => (hbj.cell (p := ⟨b2, o2 + m, none⟩) hb2).trans (hx2 m u hu)) j hjl
       have hbj2 : b2 < wr.heap.size := Nat.lt_of_lt_of_le hb2 hbj.size
       have HX3 := HX2.out.below hbj
       have cx := HX3.1
       have HBF := fun W => ref3_LessD acc[j] ⟨x1, x2⟩ W
       have d : decide ((j : Int) < (acc.length : Int)) = true := by (rw [decide_eq_true_iff]; omega)
       have HX4 : Blk wr.drew g #[.string x1, .string x2] := HX3
       have HQ4 : Two wr.drew b2 (o2 + j * 2) acc[j] := ⟨q0, q1⟩
       have HB4 : Below w2.heap.size w2 wr.drew := below_drew hbj
       clear hx2 hbj
       cases hlt' : decide (cmpR acc[j] ⟨x1, x2⟩ < 0) with
       | true =>
        have HN : Hid (∀ m (hm : m < acc.length), m < j + 1 → cmpR acc[m] ⟨x1, x2⟩ < 0) := Lib.hid (fun m hm hmj => by
         by_cases hmj' : m < j
         ·exact HJ.out m hm hmj'
         ·obtain rfl : m = j := by omega
          exact of_decide_eq_true hlt')
        rw [hlt'] at HBF
        clear hlt'
        go_wp2_with fail
        go_region_held3 (fun W => (∀ o, W.cell? ⟨g, o, none⟩ = (#[.string x1, .string x2] : Array Value)[o]?) ∧ Two W b2 (o2 + j * 2) acc[j])
         (first | exact ⟨HX4.1, HQ4⟩ | go_keep)
         ((go_at_call 136; refine (HBF _).mono ?_; rintro e wq ⟨rfl, hbq⟩; have HQ4 := HQ4.below hbj2 hbq; have HX4 := HX4.below hbq; have HB4 := HB4.trans (hbq.mono HB4.size)))
        go_wp2
        exact ⟨⟨j + 1, by omega, by go_num, HB4, HN⟩, by simp [intOf]; omega⟩
       | false =>
        have HLT := Lib.hid hlt'
        rw [hlt'] at HBF
        clear hlt'
        go_wp2_with fail
        go_region_held3 (fun W => (∀ o, W.cell? ⟨g, o, none⟩ = (#[.string x1, .string x2] : Array Value)[o]?) ∧ Two W b2 (o2 + j * 2) acc[j])
         (first | exact ⟨HX4.1, HQ4⟩ | go_keep)
         ((go_at_call 136; refine (HBF _).mono ?_; rintro e wq ⟨rfl, hbq⟩; have HQ4 := HQ4.below hbj2 hbq; have HX4 := HX4.below hbq; have HB4 := HB4.trans (hbq.mono HB4.size)))
        have hsb := (HS3.out.below HB4).pos (by omega)
        obtain ⟨b3, o3, c3, he3, hc3, hm3, hb3, hx3⟩ := hsb
        simp only [Value.slice.injEq, Option.some.injEq, Addr.mk.injEq, true_and, and_true] at he3
        obtain ⟨⟨rfl, rfl⟩, rfl⟩ := he3
        have HSB := Lib.hid hx3
        clear hx3
        go_wp2_with (at_builtin; refine halt_ ?_)
        unfold Halt_
        refine app_grow Tryz.underlying23 rl_info' rfl (by decide) (by decide) rfl _ _ rfl (ao := some ⟨wq.heap.size, 0, none⟩) (n := 0) (cap := 0) (olds := []) rfl (by simp) (by simp) (by simp) (b := b2) (off := o2 + j * 2) (m := acc.length - j) (c := co - j) (news := (acc.drop j).flatMap Rl.cells) rfl ?_ ?_ (rls_one _) (by omega) (by omega) ?_
        ·rw [flat_len _ 2 Rl.cells_len, List.length_drop]
        ·intro i u hu
         rw [flat_dropR acc j hj] at hu
         have := HSB.out _ _ hu
         rw [← Nat.add_assoc] at this
         exact (World.cell?_alloc_past _ _ _ hb3).trans this
        intro v5 w5 hown5 hb5
        have hwq : wq.heap.size < (wq.alloc (.cells #[] 28)).heap.size := by simp
        have HX5 : Blk w5 g #[.string x1, .string x2] := (HX4.alloc _).below hb5
        have hh5 : b2 < w5.heap.size := Nat.lt_of_lt_of_le hb3 (Nat.le_trans (Nat.le_of_lt hwq) hb5.size)
        have HS5 : ∀ i u, (acc.flatMap Rl.cells)[i]? = some u → w5.cell? ⟨b2, o2 + i, none⟩ = some u := fun i u hu => (hb5.cell (p := ⟨b2, o2 + i, none⟩) (Nat.lt_trans hb3 hwq)).trans ((World.cell?_alloc_past _ _ _ hb3).trans (HSB.out i u hu))
        have HB5 : Below w2.heap.size w2 w5 := (HB4.alloc HB4.size _).trans (hb5.mono (Nat.le_trans HB4.size (Nat.le_of_lt hwq)))
        simp only [Nat.zero_add, List.nil_append] at hown5
        obtain ⟨g5, c5, rfl, hg5a, hg5b⟩ := hown5.form (show 0 < acc.length - j by omega)
        have HO5 := Lib.hid hown5
        have HB5' := Lib.hid HB5
        obtain ⟨inf, hi, hz0, hz1, hz2⟩ := info_parts rl_info'
        have HINF := Lib.hid hi
        have HX6 : Blk w5.drew g #[.string x1, .string x2] := HX5
        have HSX := Lib.hid (fun i u (hu : (acc.flatMap Rl.cells)[i]? = some u) => show w5.drew.cell? ⟨b2, o2 + i, none⟩ = some u from HS5 i u hu)
        have HOD := Lib.hid (show w5.drew.ownsRow _ _ 2 _ _ _ from hown5)
        have c5x := HX5.1
        have hgb : g < (w5.drew.alloc (.cells #[.string x1, .string x2] 28)).heap.size := Nat.lt_of_lt_of_le HX6.2.2 (((Below.refl _ w5.drew).alloc (Nat.le_refl _) _).size)
        have hi1 : (0 : Int) ≤ (j : Int) := by omega
        have hi2 : (j : Int) ≤ (acc.length : Int) := by omega
        have hi3 : (j : Int) ≤ (co : Int) := by omega
        clear hown5 hb5 HS5 HB5 HX5 HX4 HB4 HQ4 hi HBF hwq hb3 hbq cx HX3 q0 q1 d
        go_wp2_with fail
        go_region_held3 (fun W => ∀ o, W.cell? ⟨g, o, none⟩ = (#[.string x1, .string x2] : Array Value)[o]?)
         (first | exact HX6.1 | exact (HX6.alloc _).1 | exact HX7.1 | exact HX9.1 | go_keep)
         (first
          | (refine step_append_grows rfl _ _ 23 rfl 28 inf _ 2 32 Tryz.underlying23 HINF.out hz0 hz1 hz2 rfl (Nat.le_of_ble_eq_true rfl) (some ⟨b2, o2, none⟩) j j ((acc.take j).flatMap Rl.cells) rfl ?_ (take_len9R acc j hj) ?_ ⟨w5.heap.size, 0, none⟩ 1 1 (Rl.cells ⟨x1, x2⟩) rfl rfl ?_ (rl1 x1 x2) (Nat.lt_succ_self _) ?_ ?_ ?_; (intro h; cases h); (intro b hb i u hu; cases hb; rw [addr_add]; exact (World.cell?_alloc_past _ _ _ hh5).trans (HSX.out i u (flat_takeR acc j i u hu))); exact cells_new _ _ _ _ rfl; (simp only [maxLen]; omega); omega; intro v7 w7 hown7 hg7; have hb7 := below_of_none hg7; have HX7 := (HX6.alloc _).below hb7; have HO7 := own_below (own_below HOD.out ((Below.refl _ _).alloc (Nat.le_refl _) _)) hb7)
          | (refine step_append_lies _ rfl _ _ 23 rfl _ 28 inf _ 2 32 Tryz.underlying23 HINF.out hz0 hz1 hz2 rfl (Nat.le_of_ble_eq_true rfl) v7 (j + 1) _ rfl hown7 ⟨g5, 0, none⟩ (acc.length - j) c5 ((acc.drop j).flatMap Rl.cells) rfl (drop_len9R acc j) (HO7.cells (g := g5) rfl) (rls_one _) ?_ ?_ ?_ hb7.size _ rfl ?_; omega; (simp only [maxLen]; omega); omega; intro g9 c9 w9 hown9 hg9 hor9 hlt9; have HX9 := HX7.grown hg9 (own_gt_ne hown7 hgb)))
        have HBw5 := HB2.out.trans (HB5'.out.mono HB2.out.size)
        have HBw6 := (below_drew HBw5).alloc (B := w.heap.size) HBw5.size (.cells #[.string x1, .string x2] 28)
        have HBw7 := HBw6.trans (hb7.mono HBw6.size)
        have HB9 := Lib.hid (below_own HBw7 hown7 hg9 HBw7.size HBw6.size)
        have HSL9 := Lib.hid (Sl.of_own hown9)
        have HPS := Lib.hid (pos_ofR acc ⟨x1, x2⟩ j hj HJ.out (fun _ => of_decide_eq_false HLT.out))
        clear hown9 hg9 hown7 hg7 hb7 HX9 HX7 HO7 HBw5 HBw6 HBw7
        go_wp2
        exact ⟨⟨k + 1, insAtR acc ⟨x1, x2⟩ j, by omega, by rw [insAt_lenR hj]; omega, by go_num, HB9.out, by rw [insAt_lenR hj, ← sl_appR hj]; exact HSL9.out, Lib.hid (by rw [HE.out, HPS.out])⟩, by simp [intOf]; omega⟩
      ·obtain rfl : j = acc.length := by omega
       have HPS := Lib.hid (pos_ofR acc ⟨x1, x2⟩ acc.length (Nat.le_refl _) HJ.out (fun h => absurd h hjl))
       obtain ⟨inf, hi, hz0, hz1, hz2'⟩ := info_parts rl_info'
       have HINF := Lib.hid hi
       have HX3 := HX2.out.below hbj
       have cx := HX3.1
       have d : decide ((acc.length : Int) < (acc.length : Int)) = false := by (rw [decide_eq_false_iff_not]; omega)
       clear hi hjl hj
       rcases HS3.out.2.2 with ⟨hv, hn0⟩ | ⟨b2, o2, c2, hv, hc2, hm2, hb2, hx2⟩
       ·skip
        have hacc : acc = [] := List.eq_nil_of_length_eq_zero hn0
        simp only [Value.slice.injEq] at hv
        obtain ⟨rfl, -, rfl⟩ := hv
        simp only [hn0]
        clear d
        clear hbj
        go_wp2_with fail
        go_big_quiet (fail)
        go_wp2_with (at_builtin; refine halt_ ?_)
        unfold Halt_
        refine app_zero _ rfl _ _ 23 rfl 28 inf Tryz.underlying23 HINF.out (some ⟨wr.heap.size, 0, none⟩) 0 0 (Nat.le_refl _) rfl _ _ rfl ?_
        obtain ⟨w5, hw5⟩ : ∃ w5, w5 = (wr.drewN nq).alloc (.cells #[] 28) := ⟨_, rfl⟩
        have hb5 : Below wr.heap.size wr w5 := by rw [hw5]; exact (below_drewN (Below.refl _ _) _).alloc (Nat.le_refl _) _
        have hh0 : wr.heap.size ≤ w5.heap.size := hb5.size
        rw [← hw5]
        have HX5 : Blk w5 g #[.string x1, .string x2] := HX3.below hb5
        have HB5' := Lib.hid (HBJ.out.trans (hb5.mono HBJ.out.size))
        have HX6 : Blk w5.drew g #[.string x1, .string x2] := HX5
        have c5x := HX5.1
        have hgb : g < (w5.drew.alloc (.cells #[.string x1, .string x2] 28)).heap.size := Nat.lt_of_lt_of_le HX6.2.2 (((Below.refl _ w5.drew).alloc (Nat.le_refl _) _).size)
        clear hw5 hb5 HX5 HX3 cx
        go_wp2_with fail
        go_region_held3 (fun W => ∀ o, W.cell? ⟨g, o, none⟩ = (#[.string x1, .string x2] : Array Value)[o]?)
         (first | exact HX6.1 | exact (HX6.alloc _).1 | exact HX7.1 | go_keep)
         (first
          | (refine step_append_grows rfl _ _ 23 rfl 28 inf _ 2 32 Tryz.underlying23 HINF.out hz0 hz1 hz2' rfl (Nat.le_of_ble_eq_true rfl) none 0 0 [] rfl ?_ rfl ?_ ⟨w5.heap.size, 0, none⟩ 1 1 (Rl.cells ⟨x1, x2⟩) rfl rfl ?_ (rl1 x1 x2) (Nat.lt_succ_self _) ?_ ?_ ?_; (intro _; exact ⟨rfl, rfl⟩); (intro b hb; cases hb); exact cells_new _ _ _ _ rfl; (simp only [maxLen]; omega); omega; intro v7 w7 hown7 hg7; obtain ⟨a7, c7, rfl, hc7⟩ := own_form2 hown7; have hb7 := below_of_none hg7; have HX7 := (HX6.alloc _).below hb7)
          | (refine step_zero _ rfl _ _ 23 rfl 28 inf Tryz.underlying23 HINF.out _ _ c7 hc7 rfl _ _ rfl ?_))
        have HBw5 := HB2.out.trans (HB5'.out.mono HB2.out.size)
        have HBw6 := (below_drew HBw5).alloc (B := w.heap.size) HBw5.size (.cells #[.string x1, .string x2] 28)
        have HB9 := Lib.hid (HBw6.trans (hb7.mono HBw6.size))
        have HSL9 := Lib.hid (Sl.of_own hown7)
        clear hg7 hb7 hown7 HX7 HBw5 HBw6
        go_wp2
        exact ⟨⟨k + 1, insAtR acc ⟨x1, x2⟩ acc.length, by omega, by rw [insAt_endR]; omega, by go_num, HB9.out, by rw [insAt_endR, ← app_endR, hacc]; exact HSL9.out, Lib.hid (by rw [HE.out, HPS.out])⟩, by simp [intOf]; omega⟩
       ·simp only [Value.slice.injEq, true_and] at hv
        obtain ⟨rfl, rfl⟩ := hv
        by_cases hco : co = acc.length
        ·skip
         subst hco
         clear hbj
         go_wp2_with fail
         go_big_quiet (fail)
         go_wp2_with (at_builtin; refine halt_ ?_)
         unfold Halt_
         refine app_zero _ rfl _ _ 23 rfl 28 inf Tryz.underlying23 HINF.out (some ⟨wr.heap.size, 0, none⟩) 0 0 (Nat.le_refl _) rfl _ _ rfl ?_
         obtain ⟨w5, hw5⟩ : ∃ w5, w5 = (wr.drewN nq).alloc (.cells #[] 28) := ⟨_, rfl⟩
         have hb5 : Below wr.heap.size wr w5 := by rw [hw5]; exact (below_drewN (Below.refl _ _) _).alloc (Nat.le_refl _) _
         have hh0 : wr.heap.size ≤ w5.heap.size := hb5.size
         rw [← hw5]
         have HX5 : Blk w5 g #[.string x1, .string x2] := HX3.below hb5
         have HB5' := Lib.hid (HBJ.out.trans (hb5.mono HBJ.out.size))
         have hh5 : b2 < w5.heap.size := Nat.lt_of_lt_of_le hb2 HB5'.out.size
         have HSX := Lib.hid (fun i u (hu : (acc.flatMap Rl.cells)[i]? = some u) => show w5.drew.cell? ⟨b2, o2 + i, none⟩ = some u from (HB5'.out.cell (p := ⟨b2, o2 + i, none⟩) hb2).trans (hx2 i u hu))
         have hi1 : (0 : Int) ≤ (acc.length : Int) := by omega
         have hi3 : (acc.length : Int) ≤ (acc.length : Int) := by omega
         have HX6 : Blk w5.drew g #[.string x1, .string x2] := HX5
         have c5x := HX5.1
         have hgb : g < (w5.drew.alloc (.cells #[.string x1, .string x2] 28)).heap.size := Nat.lt_of_lt_of_le HX6.2.2 (((Below.refl _ w5.drew).alloc (Nat.le_refl _) _).size)
         clear hw5 hb5 HX5 HX3 cx hx2
         go_wp2_with fail
         go_region_held3 (fun W => ∀ o, W.cell? ⟨g, o, none⟩ = (#[.string x1, .string x2] : Array Value)[o]?)
          (first | exact HX6.1 | exact (HX6.alloc _).1 | exact HX7.1 | go_keep)
          (first
           | (refine step_append_grows rfl _ _ 23 rfl 28 inf _ 2 32 Tryz.underlying23 HINF.out hz0 hz1 hz2' rfl (Nat.le_of_ble_eq_true rfl) (some ⟨b2, o2, none⟩) acc.length acc.length (acc.flatMap Rl.cells) rfl ?_ (flat_len _ 2 Rl.cells_len acc) ?_ ⟨w5.heap.size, 0, none⟩ 1 1 (Rl.cells ⟨x1, x2⟩) rfl rfl ?_ (rl1 x1 x2) (Nat.lt_succ_self _) ?_ ?_ ?_; (intro h; cases h); (intro b hb i u hu; cases hb; rw [addr_add]; exact (World.cell?_alloc_past _ _ _ hh5).trans (HSX.out i u hu)); exact cells_new _ _ _ _ rfl; (simp only [maxLen]; omega); omega; intro v7 w7 hown7 hg7; obtain ⟨a7, c7, rfl, hc7⟩ := own_form2 hown7; have hb7 := below_of_none hg7; have HX7 := (HX6.alloc _).below hb7)
           | (refine step_zero _ rfl _ _ 23 rfl 28 inf Tryz.underlying23 HINF.out _ _ c7 hc7 rfl _ _ rfl ?_))
         have HBw5 := HB2.out.trans (HB5'.out.mono HB2.out.size)
         have HBw6 := (below_drew HBw5).alloc (B := w.heap.size) HBw5.size (.cells #[.string x1, .string x2] 28)
         have HB9 := Lib.hid (HBw6.trans (hb7.mono HBw6.size))
         have HSL9 := Lib.hid (Sl.of_own hown7)
         clear hg7 hb7 hown7 HX7 HBw5 HBw6
         go_wp2
         exact ⟨⟨k + 1, insAtR acc ⟨x1, x2⟩ acc.length, by omega, by rw [insAt_endR]; omega, by go_num, HB9.out, by rw [insAt_endR, ← app_endR]; exact HSL9.out, Lib.hid (by rw [HE.out, HPS.out])⟩, by simp [intOf]; omega⟩
        ·skip
         have hco2 : acc.length < co := by omega
         clear hbj
         go_wp2_with fail
         go_big_quiet (fail)
         go_wp2_with (at_builtin; refine halt_ ?_)
         unfold Halt_
         refine app_zero _ rfl _ _ 23 rfl 28 inf Tryz.underlying23 HINF.out (some ⟨wr.heap.size, 0, none⟩) 0 0 (Nat.le_refl _) rfl _ _ rfl ?_
         obtain ⟨w5, hw5⟩ : ∃ w5, w5 = (wr.drewN nq).alloc (.cells #[] 28) := ⟨_, rfl⟩
         have hb5 : Below wr.heap.size wr w5 := by rw [hw5]; exact (below_drewN (Below.refl _ _) _).alloc (Nat.le_refl _) _
         have hh0 : wr.heap.size ≤ w5.heap.size := hb5.size
         rw [← hw5]
         have HX5 : Blk w5 g #[.string x1, .string x2] := HX3.below hb5
         have HB5' := Lib.hid (HBJ.out.trans (hb5.mono HBJ.out.size))
         have hh5 : b2 < w5.heap.size := Nat.lt_of_lt_of_le hb2 HB5'.out.size
         have HSX := Lib.hid (fun i u (hu : (acc.flatMap Rl.cells)[i]? = some u) => show w5.drew.cell? ⟨b2, o2 + i, none⟩ = some u from (HB5'.out.cell (p := ⟨b2, o2 + i, none⟩) hb2).trans (hx2 i u hu))
         have hi1 : (0 : Int) ≤ (acc.length : Int) := by omega
         have hi3 : (acc.length : Int) ≤ (co : Int) := by omega
         have HX6 : Blk w5.drew g #[.string x1, .string x2] := HX5
         have c5x := HX5.1
         have hgb : g < (w5.drew.alloc (.cells #[.string x1, .string x2] 28)).heap.size := Nat.lt_of_lt_of_le HX6.2.2 (((Below.refl _ w5.drew).alloc (Nat.le_refl _) _).size)
         clear hw5 hb5 HX5 HX3 cx hx2
         go_wp2_with fail
         go_region_held3 (fun W => ∀ o, W.cell? ⟨g, o, none⟩ = (#[.string x1, .string x2] : Array Value)[o]?)
          (first | exact HX6.1 | exact (HX6.alloc _).1 | exact HX7.1 | go_keep)
          (first
           | (refine step_append_grows rfl _ _ 23 rfl 28 inf _ 2 32 Tryz.underlying23 HINF.out hz0 hz1 hz2' rfl (Nat.le_of_ble_eq_true rfl) (some ⟨b2, o2, none⟩) acc.length acc.length (acc.flatMap Rl.cells) rfl ?_ (flat_len _ 2 Rl.cells_len acc) ?_ ⟨w5.heap.size, 0, none⟩ 1 1 (Rl.cells ⟨x1, x2⟩) rfl rfl ?_ (rl1 x1 x2) (Nat.lt_succ_self _) ?_ ?_ ?_; (intro h; cases h); (intro b hb i u hu; cases hb; rw [addr_add]; exact (World.cell?_alloc_past _ _ _ hh5).trans (HSX.out i u hu)); exact cells_new _ _ _ _ rfl; (simp only [maxLen]; omega); omega; intro v7 w7 hown7 hg7; obtain ⟨a7, c7, rfl, hc7⟩ := own_form2 hown7; have hb7 := below_of_none hg7; have HX7 := (HX6.alloc _).below hb7)
           | (refine step_zero _ rfl _ _ 23 rfl 28 inf Tryz.underlying23 HINF.out _ _ c7 hc7 rfl _ _ rfl ?_))
         have HBw5 := HB2.out.trans (HB5'.out.mono HB2.out.size)
         have HBw6 := (below_drew HBw5).alloc (B := w.heap.size) HBw5.size (.cells #[.string x1, .string x2] 28)
         have HB9 := Lib.hid (HBw6.trans (hb7.mono HBw6.size))
         have HSL9 := Lib.hid (Sl.of_own hown7)
         clear hg7 hb7 hown7 HX7 HBw5 HBw6
         go_wp2
         exact ⟨⟨k + 1, insAtR acc ⟨x1, x2⟩ acc.length, by omega, by rw [insAt_endR]; omega, by go_num, HB9.out, by rw [insAt_endR, ← app_endR]; exact HSL9.out, Lib.hid (by rw [HE.out, HPS.out])⟩, by simp [intOf]; omega⟩
   ·have R := Lib.hid (HI.out.trans (insAll_endR acc l k hlt))
    obtain ⟨ao, co, rfl⟩ := hso.form
    clear hbw hso
    go_wp2
    go_ret
    exact ⟨_, rfl, by rw [R.out]; exact HSO.out, HBW.out⟩
 ·obtain ⟨a1, c1, rfl⟩ := ha.form
  obtain rfl : l = [] := List.eq_nil_of_length_eq_zero (by omega)
  clear ha h0 hl
  go_enter Tryz.func76, Tryz.ntmps76
  go_wp2
  go_loopw [3, 10] (fun vo i wr => vo = .slice none 0 0 ∧ i = .int .i64 0 ∧ wr = w) (fun _ _ _ => 0)
  case atStart => exact ⟨rfl, rfl, rfl⟩
  case round =>
   obtain ⟨rfl, rfl, rfl⟩ := hrel
   go_wp2
   go_ret
   exact ⟨_, rfl, Sl.nil _ _, Below.refl _ _⟩

end Go.Proofs.YtcmdhfccdkjenaaGreatDoor
namespace Go.Proofs.YtcmdhfccdkjenaaGreatDoor
open Go.RowKit Go.Shelf

theorem same_lenR {l m : List Rl} (h : ¬ l.length = m.length) : decide (l = m) = false := decide_eq_false (fun e => h (by rw [e]))
theorem take_moreR {l m : List Rl} {k : Nat} (h : l.take k = m.take k) (hl : k < l.length) (hm : k < m.length) (e : l[k] = m[k]) : l.take (k + 1) = m.take (k + 1) := by
 rw [List.take_succ_eq_append_getElem hl, List.take_succ_eq_append_getElem hm, h, e]
theorem same_endR {l m : List Rl} {k : Nat} (h : l.take k = m.take k) (hl : ¬ k < l.length) (hm : ¬ k < m.length) : decide (l = m) = true := by
 rw [List.take_of_length_le (by omega), List.take_of_length_le (by omega)] at h
 exact decide_eq_true h
theorem same_noR {l m : List Rl} {k : Nat} (hl : k < l.length) (hm : k < m.length) (e : ¬ l[k] = m[k]) : decide (l = m) = false := decide_eq_false (fun h => e (by subst h; rfl))

set_option maxRecDepth 100000 in
set_option maxHeartbeats 2000000 in
theorem ref3_SameRolesD (va vb : Value) (l m : List Rl) (w : World) (ha : SlA w 2 va l.length (l.flatMap Rl.cells)) (hb : SlA w 2 vb m.length (m.flatMap Rl.cells)) :
  Calls Tryz.prog 75 #[va, vb] w fun e w' => e = .returned (.bool (decide (l = m))) ∧ ∃ n, w' = w.drewN n := by
 have hmax := ha.max
 have hmax2 := hb.max
 by_cases hl : l.length = m.length
 case neg =>
  have R := Lib.hid (same_lenR hl)
  have d : ((l.length : Int) != (m.length : Int)) = true := by rw [bne_iff_ne]; omega
  obtain ⟨a1, c1, rfl⟩ := ha.form
  obtain ⟨a2, c2, rfl⟩ := hb.form
  clear ha hb hl
  go_enter Tryz.func75, Tryz.ntmps75
  go_wp2
  go_ret
  exact ⟨ret_b R.out.symm, 0, rfl⟩
 have hNe := role_neq
 have hne : ((l.length : Int) != (m.length : Int)) = false := by rw [hl]; simp
 by_cases h0 : 0 < l.length
 ·obtain ⟨b1, o1, c1, rfl, hc1, hm1, _, hx1⟩ := ha.pos h0
  obtain ⟨b2, o2, c2, rfl, hc2, hm2, _, hx2⟩ := hb.pos (by omega)
  have HX1 := Lib.hid hx1
  have HX2 := Lib.hid hx2
  have HL := Lib.hid hl
  clear ha hb hx1 hx2 hl
  go_enter Tryz.func75, Tryz.ntmps75
  go_wp2
  go_loopw [13] (fun i wr => ∃ k n : Nat, k ≤ l.length ∧ i = .int .i64 k ∧ wr = w.drewN n ∧ Hid (l.take k = m.take k)) (fun i _ => l.length - (intOf i).toNat)
  case atStart => exact ⟨0, 0, by omega, rfl, rfl, Lib.hid (by simp)⟩
  case round =>
   obtain ⟨k, n, hk, rfl, rfl, HT⟩ := hrel
   by_cases hlt : k < l.length
   ·have hlt2 : k < m.length := by have := HL.out; omega
    obtain ⟨p0, p1⟩ := rl_cell HX1.out k hlt
    obtain ⟨q0, q1⟩ := rl_cell HX2.out k hlt2
    by_cases he : l[k] = m[k]
    ·have HN := Lib.hid (take_moreR HT.out hlt hlt2 he)
     have d1 : (!eqRl ⟨l[k].o, l[k].n⟩ ⟨m[k].o, m[k].n⟩) = false := by
      have := congrArg (!·) (decide_eq_true he); exact this
     clear he
     go_wp2_with fail
     go_big_quiet (fail)
     go_wp2
     exact ⟨⟨k + 1, n + nq, by omega, by go_num, rfl, HN⟩, by simp [intOf]; omega⟩
    ·have R := Lib.hid (same_noR hlt hlt2 he)
     have d1 : (!eqRl ⟨l[k].o, l[k].n⟩ ⟨m[k].o, m[k].n⟩) = true := by
      have := congrArg (!·) (decide_eq_false he); exact this
     clear he
     go_wp2_with fail
     go_big_quiet (fail)
     go_wp2
     go_ret
     exact ⟨ret_b R.out.symm, n + nq, by simp [World.drewN, Nat.add_assoc]⟩
   ·have R := Lib.hid (same_endR HT.out hlt (by have := HL.out; omega))
    go_wp2
    go_ret
    exact ⟨ret_b R.out.symm, n, rfl⟩
 ·have R := Lib.hid (same_endR (l := l) (m := m) (k := 0) (by simp) h0 (by omega))
  obtain ⟨a1, c1, rfl⟩ := ha.form
  obtain ⟨a2, c2, rfl⟩ := hb.form
  have d0 : l.length = 0 := by omega
  have d02 : m.length = 0 := by omega
  clear ha hb h0 hmax hl hmax2
  go_enter Tryz.func75, Tryz.ntmps75
  go_wp2
  go_loopw [13] (fun i wr => i = .int .i64 0 ∧ wr = w) (fun _ _ => 0)
  case atStart => exact ⟨rfl, rfl⟩
  case round =>
   obtain ⟨rfl, rfl⟩ := hrel
   go_wp2
   go_ret
   exact ⟨ret_b R.out.symm, 0, rfl⟩

theorem ref3_SameRolesE (va vb : Value) (l m : List Rl) (w : World) (ha : SlA w 2 va l.length (l.flatMap Rl.cells)) (hb : SlA w 2 vb m.length (m.flatMap Rl.cells)) :
  Calls Tryz.prog 75 #[va, vb] w fun e w' => e = .returned (.bool (decide (l = m))) ∧ Below w.heap.size w w' :=
 (ref3_SameRolesD va vb l m w ha hb).mono fun e w' ⟨he, n, hn⟩ => ⟨he, by rw [hn]; exact below_of_drewN n⟩
end Go.Proofs.YtcmdhfccdkjenaaGreatDoor
namespace Go.Proofs.YtcmdhfccdkjenaaGreatDoor
open Go.RowKit Go.Shelf

end Go.Proofs.YtcmdhfccdkjenaaGreatDoor
namespace Go.Proofs.YtcmdhfccdkjenaaGreatDoor
open Go.RowKit Go.Shelf

theorem ref3_SameT (va vb : Value) (l : List St) (w : World) (ha : SlA w 9 va l.length (l.flatMap St.cells)) (hb : SlA w 9 vb l.length (l.flatMap St.cells)) :
  Calls Tryz.prog 35 #[va, vb] w fun e w' => e = .returned (.bool true) ∧ Below w.heap.size w w' :=
 (ref3_Same va vb l l w ha hb).mono fun e w' ⟨he, n, hn⟩ => ⟨by rw [he, decide_eq_true rfl], by rw [hn]; exact below_of_drewN n⟩

theorem ref3_SameB (va vb : Value) (l m : List St) (w : World) (ha : SlA w 9 va l.length (l.flatMap St.cells)) (hb : SlA w 9 vb m.length (m.flatMap St.cells)) :
  Calls Tryz.prog 35 #[va, vb] w fun e w' => e = .returned (.bool (decide (l = m))) ∧ Below w.heap.size w w' :=
 (ref3_Same va vb l m w ha hb).mono fun e w' ⟨he, n, hn⟩ => ⟨he, by rw [hn]; exact below_of_drewN n⟩
end Go.Proofs.YtcmdhfccdkjenaaGreatDoor
namespace Go.Proofs.YtcmdhfccdkjenaaGreatDoor
open Go.RowKit Go.Shelf

theorem sortR_row (va : Value) (l : List Rl) (w : World) (ha : SlA w 2 va l.length (l.flatMap Rl.cells)) (hl : l.length ≤ 1000) :
  Calls Tryz.prog 76 #[va] w fun e w' => ∃ v, e = .returned v ∧ Sl w' 2 v (insAllR [] l).length ((insAllR [] l).flatMap Rl.cells) ∧ Below w.heap.size w w' := ref5_Sort va l w ha hl

end Go.Proofs.YtcmdhfccdkjenaaGreatDoor
