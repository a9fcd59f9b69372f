/- crupperref11: In, Inside, Members of a row of pairs. slices.Contains at texts; simple.inside. crupperref05.Prins, Names, Fits: some row of texts, some bool comes back (printed by gen_prins.py). crupperref05.Fits, crupperref04.Right, crupperref03.SameRoles: some bool comes back. crupperref04.Right: some bool comes back. crupperref05.SortRoles: the rows of roles in order that it makes (printed by gen_rlsort.py out of RefSort). crupperref03.SameRoles: whether two rows of roles are one. crupperref10.Of. The statement StateRows: the walk of the law. crupperref05.Right: some bool comes back; if it is true, all statements may be. crupperref05.Fits, crupperref04.Right, crupperref05.Right, to the letter (printed by gen_right6.py). -/
import Derived.Test.YtcmdhfccdkjenaaGreatDoorPart7
import Derived.Test.YtcmdhfccdkjenaaGreatDoorPart5
import Derived.Deep.RegionLawGrows
import Derived.Test.YtcmdhfccdkjenaaGreatDoorPart6
namespace Go.Proofs.YtcmdhfccdkjenaaGreatDoor
open Go.RowKit Go.Shelf

abbrev Pr := Rl × ByteArray
def pcells (p : Pr) : List Value := [.string p.1.o, .string p.1.n, .string p.2]
theorem pcells_len (p : Pr) : (pcells p).length = 3 := rfl
theorem pr_cell {w : World} {b off : Nat} {l : List Pr} (h : ∀ j u, (l.flatMap pcells)[j]? = some u → w.cell? ⟨b, off + j, none⟩ = some u) (k : Nat) (hk : k < l.length) :
    w.cell? ⟨b, off + k * 3, none⟩ = some (.string l[k].1.o) ∧ w.cell? ⟨b, off + k * 3 + 1, none⟩ = some (.string l[k].1.n) ∧ w.cell? ⟨b, off + k * 3 + 2, none⟩ = some (.string l[k].2) := by
  have hx : l[k]? = some l[k] := List.getElem?_eq_getElem hk
  have h0 := h _ _ ((flat_get pcells 3 pcells_len l k 0 (by omega) _ hx).trans rfl)
  have h1 := h _ _ ((flat_get pcells 3 pcells_len l k 1 (by omega) _ hx).trans rfl)
  have h2 := h _ _ ((flat_get pcells 3 pcells_len l k 2 (by omega) _ hx).trans rfl)
  simp only [Nat.add_zero, ← Nat.add_assoc] at h0 h1 h2
  exact ⟨h0, h1, h2⟩
theorem prs_one (l : List Pr) : ∀ u ∈ l.flatMap pcells, u.oneCell' = true := by
  intro u hu
  obtain ⟨x, _, hx⟩ := List.mem_flatMap.1 hu
  simp only [pcells, List.mem_cons, List.not_mem_nil, or_false] at hx
  rcases hx with rfl | rfl | rfl <;> rfl
theorem pr_info : (Tryz.prog.info? 120).map (fun i => (i.zero, i.size, i.bytes)) = some (some (.agg #[.string emp, .string emp, .string emp]), 3, 48) := by kernel_rfl
theorem hasP_yes {l : List Pr} {r : Rl} {x : ByteArray} {k : Nat} (hk : k < l.length) (h1 : l[k].1 = r) (h2 : l[k].2 = x) : hasP l r x = true := by
  rw [hasP_iff, ← h1, ← h2]; exact List.getElem_mem hk
theorem hasP_end {l : List Pr} {r : Rl} {x : ByteArray} {k : Nat} (hk : ¬ k < l.length) (h : ∀ j (hj : j < l.length), j < k → ¬ (l[j].1 = r ∧ l[j].2 = x)) : hasP l r x = false := by
  rw [← Bool.not_eq_true, hasP_iff]
  intro hm
  obtain ⟨j, hj, e⟩ := List.getElem_of_mem hm
  exact h j hj (by omega) ⟨by rw [e], by rw [e]⟩
set_option maxRecDepth 100000 in
set_option maxHeartbeats 2000000 in
theorem ref11_In (va : Value) (l : List Pr) (r : Rl) (x : ByteArray) (w : World) (ha : SlA w 3 va l.length (l.flatMap pcells)) :
    Calls Tryz.prog 93 #[va, rv r, .string x] w fun e w' => e = .returned (.bool (hasP l r x)) ∧ Below w.heap.size w w' := by
  have hmax := ha.max
  have hEq := role_eql
  by_cases h0 : 0 < l.length
  · obtain ⟨b1, o1, c1, rfl, hc1, hm1, hb1, hx1⟩ := ha.pos h0
    have HX1 := Lib.hid hx1
    have HS := Lib.hid (fun k (hl : k < l.length) (e1 : l[k].1 = r) (e2 : l[k].2 = x) => hasP_yes hl e1 e2)
    have HE := Lib.hid (fun k (hk : ¬ k < l.length) h => hasP_end (l := l) (r := r) (x := x) (k := k) hk h)
    have HD := Lib.hid (fun k (hl : k < l.length) => show (eqRl l[k].1 r = true ↔ l[k].1 = r) from decide_eq_true_iff)
    generalize hasP l r x = res at HS HE ⊢
    clear ha hx1
    obtain ⟨h1, h2⟩ := r
    go_enter Tryz.func93, Tryz.ntmps93
    go_wp2
    go_loopw [11] (fun i wr => ∃ k : Nat, k ≤ l.length ∧ i = .int .i64 k ∧ Below w.heap.size w wr ∧ Blk wr w.heap.size #[.string h1, .string h2] ∧ Hid (∀ j (hj : j < l.length), j < k → ¬ (l[j].1 = ⟨h1, h2⟩ ∧ l[j].2 = x))) (fun i _ => l.length - (intOf i).toNat)
    case atStart => exact ⟨0, by omega, rfl, (Below.refl _ _).alloc (Nat.le_refl _) _, Blk.new _ _ _, Lib.hid (fun _ _ h => absurd h (by omega))⟩
    case round =>
      obtain ⟨k, hk, rfl, hbw, hblk, HT⟩ := hrel
      have HBW := Lib.hid hbw
      have HBK := Lib.hid hblk
      have hz := hbw.size
      obtain ⟨cs, fs, zs⟩ := hblk
      by_cases hlt : k < l.length
      · obtain ⟨p0, p1, p2⟩ := pr_cell (w := wr) (fun j u hu => (hbw.cell (p := ⟨b1, o1 + j, none⟩) hb1).trans (HX1.out j u hu)) k hlt
        have hb1' : b1 < wr.heap.size := Nat.lt_of_lt_of_le hb1 hz
        have hD := HD.out k hlt
        have HSk := Lib.hid (HS.out k hlt)
        have HN := Lib.hid (fun (hn : ¬ (l[k].1 = ⟨h1, h2⟩ ∧ l[k].2 = x)) j (hj : j < l.length) (hjk : j < k + 1) => show ¬ (l[j].1 = ⟨h1, h2⟩ ∧ l[j].2 = x) by
          by_cases hjk' : j < k
          · exact HT.out j hj hjk'
          · obtain rfl : j = k := by omega
            exact hn)
        clear hbw
        generalize l[k] = p at *
        obtain ⟨⟨y1, y2⟩, y3⟩ := p
        cases he : eqRl ⟨y1, y2⟩ ⟨h1, h2⟩ with
        | true =>
          have e1 := hD.1 he
          by_cases he3 : y3 = x
          · have R := Lib.hid (HSk.out e1 he3)
            have d3 : (y3.toList == x.toList) = true := by rw [beq_str]; simp [he3]
            clear hD e1
            go_wp2
            go_ret
            exact ⟨ret_b R.out.symm, HBW.out.alloc HBW.out.size _⟩
          · have HN2 := Lib.hid (HN.out (fun h => he3 h.2))
            have d3 : (y3.toList == x.toList) = false := by rw [beq_str]; simp [he3]
            clear hD e1
            go_wp2
            exact ⟨⟨k + 1, by omega, by go_num, HBW.out.alloc HBW.out.size _, HBK.out.alloc _, HN2⟩, by simp [intOf]; omega⟩
        | false =>
          have HN2 := Lib.hid (HN.out (fun h => by rw [hD.2 h.1] at he; cases he))
          clear hD
          go_wp2
          exact ⟨⟨k + 1, by omega, by go_num, HBW.out.alloc HBW.out.size _, HBK.out.alloc _, HN2⟩, by simp [intOf]; omega⟩
      · have R := Lib.hid (HE.out k hlt HT.out)
        clear hbw
        go_wp2
        go_ret
        exact ⟨ret_b R.out.symm, HBW.out⟩
  · obtain ⟨a1, c1, rfl⟩ := ha.form
    obtain rfl : l = [] := List.eq_nil_of_length_eq_zero (by omega)
    clear ha h0 hmax
    obtain ⟨h1, h2⟩ := r
    go_enter Tryz.func93, Tryz.ntmps93
    go_wp2
    go_loopw [11] (fun i wr => i = .int .i64 0 ∧ Below w.heap.size w wr) (fun _ _ => 0)
    case atStart => exact ⟨rfl, (Below.refl _ _).alloc (Nat.le_refl _) _⟩
    case round =>
      obtain ⟨rfl, hbw⟩ := hrel
      go_wp2
      go_ret
      exact ⟨rfl, hbw⟩
/-- Who is in a role, rising. -/
def membersP (l : List Pr) (r : Rl) : List ByteArray := newB ((l.filter (fun p => eqRl p.1 r)).map (fun p => p.2))
theorem membersP_mem {l : List Pr} {r : Rl} {x : ByteArray} : x ∈ membersP l r ↔ (r, x) ∈ l := by
  unfold membersP
  rw [new_mem, List.mem_map]
  constructor
  · rintro ⟨⟨a, b⟩, h, rfl⟩
    have := (List.mem_filter.1 h).2
    rw [show a = r from of_decide_eq_true this] at h
    exact (List.mem_filter.1 h).1
  · intro h
    exact ⟨_, List.mem_filter.2 ⟨h, decide_eq_true rfl⟩, rfl⟩
theorem membersP_asc (l : List Pr) (r : Rl) : AscB (membersP l r) := new_asc _
theorem membersP_snoc {l : List Pr} {r : Rl} {k : Nat} (hk : k < l.length) : membersP (l.take (k + 1)) r = if eqRl l[k].1 r = true then insSB (membersP (l.take k) r) l[k].2 else membersP (l.take k) r := by
  unfold membersP
  rw [List.take_succ_eq_append_getElem hk, List.filter_append, List.map_append]
  by_cases h : eqRl l[k].1 r = true
  · rw [if_pos h, List.filter_cons, if_pos h]
    simp only [List.filter_nil, List.map_cons, List.map_nil]
    exact new_snoc _ _
  · rw [if_neg h, List.filter_cons, if_neg h]
    simp
theorem membersP_len (l : List Pr) (r : Rl) : (membersP l r).length ≤ l.length := by
  unfold membersP
  have h1 := new_len ((l.filter (fun p => eqRl p.1 r)).map (fun p => p.2))
  have h2 := List.length_filter_le (fun p : Pr => eqRl p.1 r) l
  rw [List.length_map] at h1
  omega
set_option maxRecDepth 100000 in
set_option maxHeartbeats 2000000 in
theorem ref11_Members (va : Value) (l : List Pr) (r : Rl) (w : World) (ha : SlA w 3 va l.length (l.flatMap pcells)) (hn : l.length ≤ 10000) :
    Calls Tryz.prog 24 #[va, rv r] w fun e w' => ∃ v, e = .returned v ∧ SlA w' 1 v (membersP l r).length (strs (membersP l r)) ∧ Below w.heap.size w w' := by
  have hEq := role_eql
  have HA := Lib.hid ha
  have hmax := ha.max
  obtain ⟨a0, c0, rfl⟩ := ha.form
  clear ha
  obtain ⟨h1, h2⟩ := r
  go_enter Tryz.func24, Tryz.ntmps24
  go_wp2_with fail
  go_loopw [5, 10] (fun vo i wr => ∃ (k : Nat) (ms : List ByteArray), k ≤ l.length ∧ i = .int .i64 k ∧ Hid (ms = membersP (l.take k) ⟨h1, h2⟩) ∧ Hid (Below w.heap.size w wr) ∧ Blk wr w.heap.size #[.string h1, .string h2] ∧ Hid (SlA wr 1 vo ms.length (strs ms))) (fun _ i _ => l.length - (intOf i).toNat)
  case atStart => exact ⟨0, [], by omega, rfl, Lib.hid rfl, Lib.hid ((Below.refl _ _).alloc (Nat.le_refl _) _), Blk.new _ _ _, Lib.hid (Sl.nil _ _).a⟩
  case round =>
    obtain ⟨k, ms, hk, rfl, HE, HB, hblk, HO⟩ := hrel
    obtain ⟨oo, oc, rfl⟩ := HO.out.form
    have HBK := Lib.hid hblk
    obtain ⟨cs, fs, zs⟩ := hblk
    by_cases hlt : k < l.length
    · obtain ⟨b1, o1, c1, he1, hc1, hm1, hb1, hx1⟩ := HA.out.pos (by omega)
      simp only [Value.slice.injEq, true_and] at he1
      obtain ⟨rfl, rfl⟩ := he1
      obtain ⟨p0, p1, p2⟩ := pr_cell (w := wr) (fun j u hu => (HB.out.cell (p := ⟨b1, o1 + j, none⟩) hb1).trans (hx1 j u hu)) k hlt
      have hbr : b1 < wr.heap.size := Nat.lt_of_lt_of_le hb1 HB.out.size
      have HS := Lib.hid (membersP_snoc (r := ⟨h1, h2⟩) hlt)
      have hml : ms.length ≤ 10000 := by have h3 := membersP_len (l.take k) ⟨h1, h2⟩; rw [← HE.out] at h3; have := List.length_take_le k l; omega
      clear hx1
      generalize l[k] = p at *
      obtain ⟨⟨y1, y2⟩, y3⟩ := p
      obtain ⟨wa, hwa⟩ : ∃ V, V = wr.alloc (.cells #[.string y1, .string y2, .string y3] 120) := ⟨_, rfl⟩
      have hba : Below wr.heap.size wr wa := by rw [hwa]; exact (Below.refl _ _).alloc (Nat.le_refl _) _
      cases he : eqRl ⟨y1, y2⟩ ⟨h1, h2⟩ with
      | true =>
        have HE2 := Lib.hid (show insSB ms y3 = membersP (l.take (k + 1)) ⟨h1, h2⟩ by have := HS.out; rw [if_pos he, ← HE.out] at this; exact this.symm)
        have PU := Lib.hid (ref1_PutB (.slice oo ms.length oc) ms y3 wa (HO.out.below hba) (by omega))
        clear HS
        go_wp2_with fail
        rw [← hwa]
        clear hwa
        refine PU.out.mono ?_
        rintro e w2 ⟨v2, rfl, hs2, hb2⟩
        have hbb : Below wr.heap.size wr w2 := hba.trans (hb2.mono hba.size)
        have HO2 := Lib.hid hs2
        have HBK2 := Lib.hid (HBK.out.below hbb)
        have HB2 := Lib.hid (HB.out.trans (hbb.mono HB.out.size))
        clear hs2 hb2 hbb hba PU cs fs zs p0 p1 p2
        go_wp2_with fail
        exact ⟨⟨k + 1, insSB ms y3, by omega, by go_num, HE2, HB2, HBK2.out, HO2⟩, by simp [intOf]; omega⟩
      | false =>
        have HE2 := Lib.hid (show ms = membersP (l.take (k + 1)) ⟨h1, h2⟩ by have := HS.out; rw [if_neg (by rw [he]; exact Bool.false_ne_true), ← HE.out] at this; exact this.symm)
        clear HS
        have HO2 := Lib.hid (HO.out.below hba)
        have HBK2 := Lib.hid (HBK.out.below hba)
        have HB2 := Lib.hid (HB.out.trans (hba.mono HB.out.size))
        rw [hwa] at HO2 HBK2 HB2
        clear hwa hba
        go_wp2_with fail
        exact ⟨⟨k + 1, ms, by omega, by go_num, HE2, HB2, HBK2.out, HO2⟩, by simp [intOf]; omega⟩
    · have HRS := Lib.hid (show ms = membersP l ⟨h1, h2⟩ by rw [HE.out, List.take_of_length_le (show l.length ≤ k by omega)])
      go_wp2
      go_ret
      exact ⟨_, rfl, by rw [← HRS.out]; exact HO.out, HB.out⟩
/-- Are all of some texts among others? -/
def insideB (a b : List ByteArray) : Bool := a.all (hasB b)
set_option maxRecDepth 100000 in
set_option maxHeartbeats 2000000 in
theorem ref11_Inside (va vb : Value) (a b : List ByteArray) (w : World) (ha : SlA w 1 va a.length (strs a)) (hb : SlA w 1 vb b.length (strs b)) :
    Calls Tryz.prog 22 #[va, vb] w fun e w' => e = .returned (.bool (insideB a b)) ∧ w' = w := by
  have HA := Lib.hid ha
  have HH := Lib.hid (fun s => ref1_HasB vb b s w hb)
  have hmax := ha.max
  have HY := Lib.hid (fun k (hk : ¬ k < a.length) (h : ∀ j (hj : j < a.length), j < k → hasB b a[j] = true) => show insideB a b = true by
    unfold insideB; rw [List.all_eq_true]
    intro x hx
    obtain ⟨j, hj, rfl⟩ := List.getElem_of_mem hx
    exact h j hj (by omega))
  have HNo := Lib.hid (fun k (hk : k < a.length) (h : hasB b a[k] = false) => show insideB a b = false by
    unfold insideB; rw [List.all_eq_false]
    exact ⟨a[k], List.getElem_mem hk, by rw [h]; exact Bool.false_ne_true⟩)
  generalize insideB a b = res at *
  obtain ⟨a0, c0, rfl⟩ := ha.form
  obtain ⟨b0, d0, rfl⟩ := hb.form
  clear ha hb
  go_enter Tryz.func22, Tryz.ntmps22
  go_wp2_with fail
  go_loopw [9] (fun i wr => ∃ k : Nat, k ≤ a.length ∧ i = .int .i64 k ∧ wr = w ∧ Hid (∀ j (hj : j < a.length), j < k → hasB b a[j] = true)) (fun i _ => a.length - (intOf i).toNat)
  case atStart => exact ⟨0, by omega, rfl, rfl, Lib.hid (fun _ _ h => absurd h (by omega))⟩
  case round =>
    obtain ⟨k, hk, rfl, rfl, HT⟩ := hrel
    by_cases hlt : k < a.length
    · obtain ⟨b1, o1, c1, he1, hc1, hm1, hb1, hx1⟩ := HA.out.pos (by omega)
      simp only [Value.slice.injEq, true_and] at he1
      obtain ⟨rfl, rfl⟩ := he1
      have p0 := hx1 k _ (strs_get hlt)
      have HN := Lib.hid (fun (hn : hasB b a[k] = true) j (hj : j < a.length) (hjk : j < k + 1) => show hasB b a[j] = true by
        by_cases hjk' : j < k
        · exact HT.out j hj hjk'
        · obtain rfl : j = k := by omega
          exact hn)
      have HNk := Lib.hid (HNo.out k hlt)
      clear hx1
      generalize a[k] = x at *
      have HHx := Lib.hid (HH.out x)
      generalize hasB b x = t at *
      go_wp2_with fail
      refine HHx.out.mono ?_
      rintro e w2 ⟨rfl, rfl⟩
      cases t with
      | true =>
        have HN2 := Lib.hid (HN.out rfl)
        clear HN HNk HHx
        go_wp2_with fail
        exact ⟨⟨k + 1, by omega, by go_num, trivial, HN2⟩, by simp [intOf]; omega⟩
      | false =>
        have R := Lib.hid (HNk.out rfl)
        clear HN HNk HHx
        go_wp2_with fail
        go_ret
        exact ⟨ret_b R.out.symm, rfl⟩
    · have R := Lib.hid (HY.out k hlt HT.out)
      go_wp2
      go_ret
      exact ⟨ret_b R.out.symm, rfl⟩
end Go.Proofs.YtcmdhfccdkjenaaGreatDoor
namespace Go.Proofs.YtcmdhfccdkjenaaGreatDoor
open Go.RowKit Go.Shelf

set_option maxRecDepth 100000 in
set_option maxHeartbeats 2000000 in
theorem str_Index (va : Value) (l : List ByteArray) (s : ByteArray) (w : World) (ha : SlA w 1 va l.length (strs l)) :
    Calls Tryz.prog 166 #[va, .string s] w fun e w' => (∃ i : Int, e = .returned (.int .i64 i) ∧ hasB l s = decide (0 ≤ i)) ∧ w' = w := by
  have HA := Lib.hid ha
  have hmax := ha.max
  obtain ⟨ao, cap, hva⟩ := ha.form
  subst hva
  clear ha
  have HY := Lib.hid (fun k (hk : k < l.length) (e : l[k] = s) => hasB_yes hk e)
  have HN := Lib.hid (fun k (hk : ¬ k < l.length) h => hasB_end (l := l) (s := s) (k := k) hk h)
  generalize hasB l s = res at HY HN ⊢
  go_enter Tryz.func166, Tryz.ntmps166
  go_wp2
  go_loopw [8] (fun i wr => ∃ k : Nat, k ≤ l.length ∧ i = .int .i64 k ∧ Hid (∀ j (hj : j < l.length), j < k → ¬ l[j] = s) ∧ wr = w) (fun i _ => l.length - (intOf i).toNat)
  case atStart => exact ⟨0, by omega, rfl, Lib.hid (fun _ _ h => absurd h (by omega)), rfl⟩
  case round =>
    obtain ⟨k, hk, rfl, HJ, rfl⟩ := hrel
    by_cases hlt : k < l.length
    · obtain ⟨b1, o1, c1, he1, hc1, hm1, hb1, hx1⟩ := HA.out.pos (by omega)
      simp only [Value.slice.injEq, true_and] at he1
      obtain ⟨rfl, rfl⟩ := he1
      have p0 := hx1 k _ (strs_get hlt)
      have YES := Lib.hid (HY.out k hlt)
      have HJ2 : Hid (¬ l[k] = s → ∀ j (hj : j < l.length), j < k + 1 → ¬ l[j] = s) := Lib.hid (fun hpk j hj hjk => by
        by_cases h : j < k
        · exact HJ.out j hj h
        · obtain rfl : j = k := by omega
          exact hpk)
      clear hx1
      generalize l[k] = x at *
      by_cases e : x = s
      · have d : (s.toList == x.toList) = true := by rw [beq_str, e]; exact decide_eq_true rfl
        have d' : (x.toList == s.toList) = true := by rw [beq_str, e]; exact decide_eq_true rfl
        have R := Lib.hid (YES.out e)
        clear e
        go_wp2
        go_ret
        exact ⟨⟨(k : Int), rfl, by rw [R.out, decide_eq_true (Int.natCast_nonneg k)]⟩, rfl⟩
      · have d : (s.toList == x.toList) = false := by rw [beq_str]; exact decide_eq_false (fun h => e h.symm)
        have d' : (x.toList == s.toList) = false := by rw [beq_str]; exact decide_eq_false e
        have HJ3 := Lib.hid (HJ2.out e)
        clear e
        go_wp2
        exact ⟨⟨k + 1, by omega, by go_num, HJ3, by first | rfl | trivial⟩, by simp [intOf]; omega⟩
    · have R := Lib.hid (HN.out k hlt HJ.out)
      go_wp2
      go_ret
      exact ⟨⟨-1, rfl, by rw [R.out]; rfl⟩, rfl⟩
set_option maxHeartbeats 1000000 in
theorem str_Contains (va : Value) (l : List ByteArray) (s : ByteArray) (w : World) (ha : SlA w 1 va l.length (strs l)) :
    Calls Tryz.prog 108 #[va, .string s] w fun e w' => e = .returned (.bool (hasB l s)) ∧ w' = w := by
  have I := Lib.hid (str_Index va l s w ha)
  generalize hasB l s = res at I ⊢
  clear ha
  go_enter Tryz.func108, Tryz.ntmps108
  go_wp2_with fail
  refine I.out.mono ?_
  rintro e w1 ⟨⟨i, rfl, hi⟩, rfl⟩
  have HI := Lib.hid hi
  clear hi
  go_wp2
  go_ret
  exact ⟨ret_b HI.out.symm, rfl⟩
set_option maxHeartbeats 1000000 in
theorem sim_inside1 (c : Nat) (vb : Value) (b : List ByteArray) (s : ByteArray) (w : World) (hc : w.cell? ⟨c, 0, none⟩ = some vb) (hb : SlA w 1 vb b.length (strs b)) :
    Calls Tryz.prog 164 #[.string s, .pointer (some ⟨c, 0, none⟩)] w fun e w' => e = .returned (.bool (!hasB b s)) ∧ w' = w := by
  have H := Lib.hid (str_Contains vb b s w hb)
  generalize hasB b s = r at *
  obtain ⟨bo, bc, rfl⟩ := hb.form
  clear hb
  go_enter Tryz.func164, Tryz.ntmps164
  go_wp2_with fail
  refine H.out.mono ?_
  rintro e w1 ⟨rfl, rfl⟩
  go_wp2
  go_ret
  exact ⟨rfl, rfl⟩
set_option maxHeartbeats 1000000 in
theorem sim_inside (va vb : Value) (a b : List ByteArray) (w : World) (ha : SlA w 1 va a.length (strs a)) (hb : SlA w 1 vb b.length (strs b)) :
    Calls Tryz.prog 105 #[va, vb] w fun e w' => e = .returned (.bool (insideB a b)) ∧ Below w.heap.size w w' := by
  have eg : ∀ args w, (callFunc 164 args).run Tryz.prog w = .ok (.enter 164 args) w := enters_of Tryz.func164 (by kernel_rfl) rfl
  have HB := Lib.hid ((Below.refl _ w).alloc (Nat.le_refl _) (.cells #[vb] 38))
  have BK := Lib.hid (Blk.new w #[vb] 38)
  have CF := Lib.hid (str_ContainsFunc va a _ (ha.below HB.out) 164 #[.pointer (some ⟨w.heap.size, 0, none⟩)] (fun s => !hasB b s) eg (fun x V hx hV => by
    have hl : Below w.heap.size w V := HB.out.trans (hV.mono HB.out.size)
    exact (sim_inside1 w.heap.size vb b x V (((BK.out.below hV).1 0).trans rfl) (hb.below hl)).mono fun e w' ⟨he, hw⟩ => ⟨he, by rw [hw]; exact Below.refl _ _⟩))
  have RES := Lib.hid (show (!a.any (fun s => !hasB b s)) = insideB a b by unfold insideB; rw [List.all_eq_not_any_not])
  generalize insideB a b = r at *
  generalize a.any (fun s => !hasB b s) = q at *
  obtain ⟨ao, ac, rfl⟩ := ha.form
  obtain ⟨bo, bc, rfl⟩ := hb.form
  clear ha hb eg
  go_enter Tryz.func105, Tryz.ntmps105
  go_wp2_with fail
  refine CF.out.mono ?_
  rintro e w1 ⟨rfl, hb1⟩
  have HB1 := Lib.hid (HB.out.trans (hb1.mono HB.out.size))
  clear hb1
  go_wp2
  go_ret
  exact ⟨ret_b RES.out, HB1.out⟩
end Go.Proofs.YtcmdhfccdkjenaaGreatDoor
namespace Go.Proofs.YtcmdhfccdkjenaaGreatDoor
open Go.RowKit Go.Shelf

end Go.Proofs.YtcmdhfccdkjenaaGreatDoor
namespace Go.Proofs.YtcmdhfccdkjenaaGreatDoor
open Go.RowKit Go.Shelf

end Go.Proofs.YtcmdhfccdkjenaaGreatDoor
namespace Go.Proofs.YtcmdhfccdkjenaaGreatDoor
open Go.RowKit Go.Shelf

end Go.Proofs.YtcmdhfccdkjenaaGreatDoor
namespace Go.Proofs.YtcmdhfccdkjenaaGreatDoor
open Go.RowKit Go.Shelf
/-- The place of a statement in a row in order. -/
def posSR : List Rl → Rl → Nat
  | [], _ => 0
  | a :: r, x => if cmpR a x < 0 then posSR r x + 1 else 0
def insAtR (l : List Rl) (x : Rl) (k : Nat) : List Rl := l.take k ++ x :: l.drop k
def insSR (l : List Rl) (x : Rl) : List Rl := if hasR l x then l else insAtR l x (posSR l x)
def insAllR : List Rl → List Rl → List Rl
  | acc, [] => acc
  | acc, x :: l => insAllR (insSR acc x) l
theorem pos_leR : ∀ (l : List Rl) (x : Rl), posSR l x ≤ l.length
  | [], _ => Nat.le_refl _
  | a :: r, x => by unfold posSR; have := pos_leR r x; split <;> simp <;> omega
theorem insS_lenR (l : List Rl) (x : Rl) : (insSR l x).length ≤ l.length + 1 := by
  unfold insSR insAtR; split
  · omega
  · simp [List.length_take, List.length_drop]; have := pos_leR l x; omega
abbrev Two (w : World) (b o : Nat) (s : Rl) : Prop := w.cell? ⟨b, o, none⟩ = some (.string s.o) ∧ w.cell? ⟨b, o + 1, none⟩ = some (.string s.n)
theorem Two.below {w w' : World} {b o : Nat} {s : Rl} (h : Two w b o s) (hb : b < w.heap.size) (hw : Below w.heap.size w w') : Two w' b o s := by
  have k : ∀ i, w'.cell? ⟨b, i, none⟩ = w.cell? ⟨b, i, none⟩ := fun i => hw.cell (p := ⟨b, i, none⟩) hb
  obtain ⟨h0, h1⟩ := h
  exact ⟨(k _).trans h0, (k _).trans h1⟩
end Go.Proofs.YtcmdhfccdkjenaaGreatDoor
namespace Go.Proofs.YtcmdhfccdkjenaaGreatDoor
open Go.RowKit Go.Shelf

end Go.Proofs.YtcmdhfccdkjenaaGreatDoor
namespace Go.Proofs.YtcmdhfccdkjenaaGreatDoor
open Go.RowKit Go.Shelf

end Go.Proofs.YtcmdhfccdkjenaaGreatDoor
namespace Go.Proofs.YtcmdhfccdkjenaaGreatDoor
open Go.RowKit Go.Shelf

end Go.Proofs.YtcmdhfccdkjenaaGreatDoor
namespace Go.Proofs.YtcmdhfccdkjenaaGreatDoor
open Go.RowKit Go.Shelf

end Go.Proofs.YtcmdhfccdkjenaaGreatDoor
namespace Go.Proofs.YtcmdhfccdkjenaaGreatDoor
open Go.RowKit Go.Shelf

/-- Few enough queries, principals and names. -/
def fitsP (l : List St) (g h : List Rl) (qs : List Qv) (F : Qv → List ByteArray) : Bool := decide (qs.length ≤ 16) && (decide ((newB (allPrins l g h qs F)).length ≤ 16) && decide ((newB (allNames l g h qs)).length ≤ 12))
/-- Is the text of a place a principal, above the one ahead of it? -/
def risesAt (us : List ByteArray) (i : Nat) : Bool := isP 65 90 (bl (us.getD i emp)) && (decide (i = 0) || Op.bytesLess (us.getD (i - 1) emp).toList (us.getD i emp).toList)
def rises (us : List ByteArray) : Bool := (List.range us.length).all (risesAt us)
theorem rises_yes {us : List ByteArray} {k : Nat} (hk : ¬ k < us.length) (h : ∀ j, j < k → risesAt us j = true) : rises us = true := by
  unfold rises; rw [List.all_eq_true]
  intro j hj
  exact h j (by have := List.mem_range.1 hj; omega)
theorem rises_no {us : List ByteArray} {k : Nat} (hk : k < us.length) (h : risesAt us k = false) : rises us = false := by
  cases hr : rises us with
  | false => rfl
  | true =>
    unfold rises at hr
    rw [List.all_eq_true] at hr
    rw [hr k (List.mem_range.2 hk)] at h; cases h
theorem getD_at {us : List ByteArray} {k : Nat} (hk : k < us.length) : us.getD k emp = us[k] := by rw [List.getD_eq_getElem?_getD, List.getElem?_eq_getElem hk]; rfl
/-- Which queries may be, of the texts that they name. -/
def rightQ (q : Qv) (us : List ByteArray) : Bool :=
  decide (1 ≤ q.k) && (decide (q.k ≤ 6) && (isRole q.a && (rises us &&
  (if 5 ≤ q.k then isRole q.b && decide (us.length = 0) else eqRl q.b noR && (decide (us.length ≤ 12) && (if q.k = 4 then decide (us.length = 0) else decide (q.k = 3) || decide (0 < us.length)))))))
/-- Which policies may be. -/
def RightP (l : List St) (g h : List Rl) (qs : List Qv) (F : Qv → List ByteArray) : Prop := (∀ x ∈ l, rightS x = true) ∧ (∀ x ∈ g ++ h, isRole x = true) ∧ (∀ q ∈ qs, rightQ q (F q) = true) ∧ l = insAll [] l ∧ g = insAllR [] g ∧ h = insAllR [] h ∧ fitsP l g h qs F = true
def RightI (l : List St) (g h : List Rl) (qs : List Qv) (F : Qv → List ByteArray) (e : Ending) : Prop := ∃ b, e = .returned (.bool b) ∧ (b = true ↔ RightP l g h qs F)
theorem rightI_no {l : List St} {g h : List Rl} {qs : List Qv} {F : Qv → List ByteArray} (hn : ¬ RightP l g h qs F) : RightI l g h qs F (.returned (.bool false)) := ⟨false, rfl, ⟨(fun h => by cases h), fun h => absurd h hn⟩⟩
end Go.Proofs.YtcmdhfccdkjenaaGreatDoor
