/- Which verdicts may be, which are the same: report.Right, report.Same (printed by gen_repright.py). The text of verdicts, line by line: plain laws. report.Print: what puts a line, and the line of a query's verdict (printed by gen_repprint.py). -/
import Derived.Test.YtomhekohcadijaaGreatDoorPartRF29
import Derived.Test.YtomhekohcadijaaGreatDoorPartRF30
namespace Go.Proofs.YtomhekohcadijaaGreatDoor
open Go.RowKit Go.Shelf

def rightR (B : Bool) (p : Pd) (zs : List VZ) : Bool := B && (decide (zs.length = p.q.length) && okVs zs)
set_option maxRecDepth 100000 in
set_option maxHeartbeats 8000000 in
theorem rep_Right {w : World} {v0 v1 v2 v3 : Value} {p : Pd} {us : List (Qd × Value)} {B : Bool} (H : PolD w v0 v1 v2 v3 p us) (hle : LeP p 40 40) (hl : p.l.length ≤ 30) (hg : p.g.length ≤ 30) (hh : p.h.length ≤ 30) (hq : p.q.length ≤ 30) (hB : B = true ↔ RightD p) (va : Value) (zs : List VZ) (HV : VsAt w va zs) (hz : ∀ z ∈ zs, allLe z.d.st 4294967) :
    Calls Tryz.prog 32 #[pv v0 v1 v2 v3, va] w fun e w' => e = .returned (.bool (rightR B p zs)) ∧ Below w.heap.size w w' := by
  have RB := Lib.hid (fun W (hb : Below w.heap.size w W) => policy_RightB (H.below hb) hle hl hg hh hq hB)
  have hul : us.length = p.q.length := by rw [← H.z, List.length_map]
  have R0 := Lib.hid (fun (h : B = false) => show rightR B p zs = false by unfold rightR; rw [h]; rfl)
  have R1 := Lib.hid (fun (h : ¬ zs.length = us.length) => show rightR B p zs = false by unfold rightR; rw [decide_eq_false (by rw [← hul]; exact h)]; simp)
  have RN := Lib.hid (fun k (hk : k < zs.length) (h : okV zs[k].d = false) => show rightR B p zs = false by unfold rightR; rw [okVs_no hk h]; simp)
  have RE := Lib.hid (fun (h : B = true) (h1 : zs.length = us.length) (h2 : ∀ j (hj : j < zs.length), okV zs[j].d = true) => show rightR B p zs = true by unfold rightR; rw [h, okVs_end h2, decide_eq_true (by rw [← hul]; exact h1)]; rfl)
  generalize rightR B p zs = res at *
  have HA := Lib.hid HV
  have HZ := Lib.hid hz
  have hmax := HV.r.max
  have hus : us.length ≤ 30 := by omega
  obtain ⟨a0, c0, rfl⟩ := H.rs.form
  obtain ⟨a1, c1, rfl⟩ := H.rg.form
  obtain ⟨a2, c2, rfl⟩ := H.rh.form
  obtain ⟨a3, c3, rfl⟩ := H.rq.form
  obtain ⟨ao, ac, rfl⟩ := HV.r.form
  have HT := Lib.hid (show OneAt w #[.slice a0 p.l.length c0, .slice a1 p.g.length c1, .slice a2 p.h.length c2, .slice a3 us.length c3] (w.alloc (.cells #[.slice a0 p.l.length c0, .slice a1 p.g.length c1, .slice a2 p.h.length c2, .slice a3 us.length c3] 26)) from ⟨Blk.new w _ _, (Below.refl _ _).alloc (Nat.le_refl _) _⟩)
  clear H hle hB HV hz hul
  go_enter Tryz.func32, Tryz.ntmps32
  go_wp2_with fail
  refine (RB.out _ HT.out.low).mono ?_
  rintro e w1 ⟨rfl, hb1⟩
  have HT := Lib.hid (HT.out.later hb1)
  clear hb1 RB
  cases B with
  | false =>
    have R := Lib.hid (R0.out rfl)
    go_wp2_with fail
    go_ret
    exact ⟨ret_b R.out.symm, HT.out.low⟩
  | true =>
    obtain ⟨ca, fa, za⟩ := HT.out.a
    by_cases hne : zs.length = us.length
    case neg =>
      have R := Lib.hid (R1.out hne)
      have d : ((zs.length : Int) != (us.length : Int)) = true := by simp; omega
      have d' : ((zs.length : Int) == (us.length : Int)) = false := by simp; omega
      clear hne
      go_wp2_with fail
      go_ret
      exact ⟨ret_b R.out.symm, HT.out.low⟩
    have RE9 := Lib.hid (RE.out rfl hne); clear RE; have RE := RE9; clear RE9
    have d : ((zs.length : Int) != (us.length : Int)) = false := by rw [hne]; simp
    have d' : ((zs.length : Int) == (us.length : Int)) = true := by rw [hne]; simp
    clear hne R1 R0
    go_wp2_with fail
    clear ca fa za d d'
    go_loopw [20] (fun i wr => ∃ k : Nat, k ≤ zs.length ∧ i = .int .i64 k ∧ Hid (Below w1.heap.size w1 wr) ∧ Hid (∀ j (hj : j < zs.length), j < k → okV zs[j].d = true)) (fun i _ => zs.length - (intOf i).toNat)
    case atStart => exact ⟨0, by omega, rfl, Lib.hid (Below.refl _ _), Lib.hid (fun _ _ h => absurd h (by omega))⟩
    case round =>
      obtain ⟨k, hk, rfl, HB, HJ⟩ := hrel
      have HW := Lib.hid (HT.out.low.trans (HB.out.mono HT.out.low.size))
      by_cases hlt : k < zs.length
      · obtain ⟨b1, o1, c1', he1, hc1, hm1, hb1, hx1⟩ := (HA.out.below HW.out).r.pos (by omega)
        simp only [Value.slice.injEq, true_and] at he1
        obtain ⟨rfl, rfl⟩ := he1
        obtain ⟨p0, p1, p2, p3⟩ := vz_cell (w := wr) hx1 k hlt
        have hst := (HA.out.below HW.out).s _ (List.getElem_mem hlt)
        have hzk := HZ.out _ (List.getElem_mem hlt)
        have RNk := Lib.hid (RN.out k hlt)
        have HJ2 : Hid (okV zs[k].d = true → ∀ j (hj : j < zs.length), j < k + 1 → okV zs[j].d = true) := Lib.hid (fun hpk j hj hjk => by
          by_cases h : j < k
          · exact HJ.out j hj h
          · obtain rfl : j = k := by omega
            exact hpk)
        clear hx1
        have IS := Lib.hid (fun W (hb : Below wr.heap.size wr W) => state_Is zs[k].v zs[k].d.st W (hst.below hb) hzk)
        have OK := Lib.hid (show okV zs[k].d = ((decide (1 ≤ zs[k].d.k) && decide (zs[k].d.k ≤ 5)) && ((statedV zs[k].d.k || zs[k].d.st.isEmpty) && isS zs[k].d.st)) from rfl)
        have WD := wordB_rng zs[k].d.k
        have SD := Lib.hid (rep_stated zs[k].d.k)
        have WW := Lib.hid (rep_Word zs[k].d.k)
        generalize okV zs[k].d = ok at *
        generalize isS zs[k].d.st = iss at *
        generalize statedV zs[k].d.k = std at *
        generalize wordB zs[k].d.k = wd at *
        generalize (decide (1 ≤ zs[k].d.k) && decide (zs[k].d.k ≤ 5)) = rng at *
        generalize zs[k] = z at *
        obtain ⟨⟨zk, zst⟩, zv, z2, z3⟩ := z
        dsimp only at *
        obtain ⟨so, sc, rfl⟩ := hst.form
        have hsm := hst.max
        clear hst hzk
        have HB2 := Lib.hid (HB.out.alloc HB.out.size (.cells #[.int .i64 zk, .slice so zst.length sc, .int .i64 z2, .int .i64 z3] 56))
        have HBW := Lib.hid ((Below.refl wr.heap.size wr).alloc (Nat.le_refl _) (.cells #[.int .i64 zk, .slice so zst.length sc, .int .i64 z2, .int .i64 z3] 56))
        go_wp2_with fail
        refine (WW.out _).mono ?_
        rintro e w2 ⟨rfl, hb2⟩
        have HK2 := Lib.hid (keep1 hb2)
        have HB3 := Lib.hid (HB2.out.trans (hb2.mono HB2.out.size))
        have HBW3 := Lib.hid (HBW.out.trans (hb2.mono HBW.out.size))
        clear hb2
        obtain ⟨cx, fx, zx⟩ := HK2.out
        cases rng with
        | false =>
          have d1 : wd.toList.isEmpty = true := by rw [WD]; rfl
          clear WD
          have R := Lib.hid (RNk.out (by rw [OK.out]; rfl))
          go_wp2_with fail
          go_ret
          exact ⟨ret_b R.out.symm, HT.out.low.trans (HB3.out.mono HT.out.low.size)⟩
        | true =>
          have d1 : wd.toList.isEmpty = false := by rw [WD]; rfl
          clear WD
          go_wp2_with fail
          refine (SD.out _).mono ?_
          rintro e w3 ⟨rfl, rfl⟩
          by_cases hs : std = false ∧ 0 < zst.length
          · obtain ⟨rfl, hs⟩ := hs
            have R := Lib.hid (RNk.out (by rw [OK.out]; cases zst with
              | nil => simp at hs
              | cons a b => rfl))
            have d2 : decide (0 < (zst.length : Int)) = true := by rw [decide_eq_true_iff]; omega
            have d3 : decide (0 < zst.length) = true := decide_eq_true hs
            go_wp2_with fail
            go_ret
            exact ⟨ret_b R.out.symm, HT.out.low.trans (HB3.out.mono HT.out.low.size)⟩
          have OK2 := Lib.hid (show ok = iss by
            rw [OK.out]
            have : (std || zst.isEmpty) = true := by
              cases std with
              | true => rfl
              | false =>
                cases zst with
                | nil => rfl
                | cons a b => exact absurd ⟨rfl, by simp⟩ hs
            rw [this]; rfl)
          have R := Lib.hid (fun (h : iss = false) => RNk.out (OK2.out.trans h))
          have N := Lib.hid (fun (h : iss = true) => HJ2.out (OK2.out.trans h))
          have d2 : std = false → decide (0 < zst.length) = false := fun h => decide_eq_false (fun h' => hs ⟨h, h'⟩)
          have d3 : std = false → decide (0 < (zst.length : Int)) = false := fun h => by have := d2 h; rw [decide_eq_false_iff_not] at this ⊢; omega
          clear hs OK
          cases std with
          | true =>
            clear d2 d3
            go_wp2_with fail
            refine (IS.out _ HBW3.out).mono ?_
            rintro e w4 ⟨rfl, hb4⟩
            have HB4 := Lib.hid (HB3.out.trans (hb4.mono HB3.out.size))
            clear hb4
            cases iss with
            | false =>
              have R9 := Lib.hid (R.out rfl); clear R; have R := R9; clear R9
              clear N
              go_wp2_with fail
              go_ret
              exact ⟨ret_b R.out.symm, HT.out.low.trans (HB4.out.mono HT.out.low.size)⟩
            | true =>
              have N9 := Lib.hid (N.out rfl); clear N; have N := N9; clear N9
              clear R
              go_wp2_with fail
              exact ⟨⟨k + 1, by omega, by go_num, HB4, N⟩, by simp [intOf]; omega⟩
          | false =>
            have d2 := d2 rfl
            have d3 := d3 rfl
            go_wp2_with fail
            refine (IS.out _ HBW3.out).mono ?_
            rintro e w4 ⟨rfl, hb4⟩
            have HB4 := Lib.hid (HB3.out.trans (hb4.mono HB3.out.size))
            clear hb4
            cases iss with
            | false =>
              have R9 := Lib.hid (R.out rfl); clear R; have R := R9; clear R9
              clear N
              go_wp2_with fail
              go_ret
              exact ⟨ret_b R.out.symm, HT.out.low.trans (HB4.out.mono HT.out.low.size)⟩
            | true =>
              have N9 := Lib.hid (N.out rfl); clear N; have N := N9; clear N9
              clear R
              go_wp2_with fail
              exact ⟨⟨k + 1, by omega, by go_num, HB4, N⟩, by simp [intOf]; omega⟩
      · have R := Lib.hid (RE.out (fun j hj => HJ.out j hj (by omega)))
        go_wp2_with fail
        go_ret
        exact ⟨ret_b R.out.symm, HW.out⟩
end Go.Proofs.YtomhekohcadijaaGreatDoor
namespace Go.Proofs.YtomhekohcadijaaGreatDoor
open Go.RowKit Go.Shelf

theorem linesR_snoc (l : List St) : ∀ (n : Nat) (qs : List Qd) (vs : List Vd) (q : Qd) (v : Vd), qs.length = vs.length → linesR l n (qs ++ [q]) (vs ++ [v]) = linesR l n qs vs ++ linesV l (n + qs.length) q v
  | n, [], [], q, v, _ => by simp [linesR]
  | n, x :: qs, y :: vs, q, v, h => by
    have ih := linesR_snoc l (n + 1) qs vs q v (by simpa using h)
    show linesV l n x y ++ linesR l (n + 1) (qs ++ [q]) (vs ++ [v]) = _
    rw [ih, List.length_cons, show n + 1 + qs.length = n + (qs.length + 1) by omega]
    show _ = linesV l n x y ++ linesR l (n + 1) qs vs ++ _
    rw [List.append_assoc]
  | n, [], _ :: _, _, _, h => by simp at h
  | n, _ :: _, [], _, _, h => by simp at h
theorem linesR_take (l : List St) (qs : List Qd) (vs : List Vd) (k : Nat) (hq : k < qs.length) (hv : k < vs.length) :
    linesR l 0 (qs.take (k + 1)) (vs.take (k + 1)) = linesR l 0 (qs.take k) (vs.take k) ++ linesV l k qs[k] vs[k] := by
  have h1 : (qs.take k).length = k := by rw [List.length_take]; omega
  have h2 : (vs.take k).length = k := by rw [List.length_take]; omega
  rw [List.take_succ_eq_append_getElem hq, List.take_succ_eq_append_getElem hv, linesR_snoc l 0 _ _ _ _ (by rw [h1, h2]), h1, Nat.zero_add]
theorem wordB_size (k : Int) : (wordB k).size ≤ 9 := by
  unfold wordB
  repeat' split
  all_goals decide
theorem headV_size (i : Nat) (q : Qd) (k : Int) (hi : i ≤ 1000000) (h : GoodQ q) : (headV i q k).size ≤ 300 := by
  have h1 := wordB_size k
  have h2 := textQ_size q h
  have h3 := dec_short (n := i + 1) (by omega)
  have e1 : (⟨#[32]⟩ : ByteArray).size = 1 := rfl
  have e2 : (⟨#[32, 58, 32]⟩ : ByteArray).size = 3 := rfl
  have e3 : (⟨(decL (i + 1)).toArray⟩ : ByteArray).size = (decL (i + 1)).length := by simp [ByteArray.size]
  unfold headV
  simp only [ByteArray.size_append, e1, e2, e3]
  omega
def printV (B : Bool) (p : Pd) (zs : List VZ) : ByteArray := if rightR B p zs = true then textR p.l p.q (zs.map (·.d)) else emp
theorem rightR_iff {B : Bool} {p : Pd} {zs : List VZ} (hB : B = true ↔ RightD p) : rightR B p zs = true ↔ RightD p ∧ zs.length = p.q.length ∧ ∀ z ∈ zs, OkV z.d := by
  unfold rightR
  rw [Bool.and_eq_true, Bool.and_eq_true, decide_eq_true_iff, hB, okVs_iff]
theorem marked_size {x : St} (h : rightS x = true) (m : ByteArray) (hm : m.size = 2) : (m ++ printS x).size ≤ 102 := by
  have := printS_size h
  rw [ByteArray.size_append]
  omega
end Go.Proofs.YtomhekohcadijaaGreatDoor
namespace Go.Proofs.YtomhekohcadijaaGreatDoor
open Go.RowKit Go.Shelf

theorem own_others {w w' : World} {B size n b : Nat} {e : TypeId} {v : Value} {xs : List Value} (h : w.ownsRow B e size v n xs) (k : Lib.OthersKept 5 (some b) w w') (hb : b < B) (he : ¬ e = 5) : w'.ownsRow B e size v n xs := by
  obtain ⟨h1, h2⟩ := h
  refine ⟨h1, ?_⟩
  rcases h2 with h2 | ⟨g, cap, cur, rfl, h3, h4, h5⟩
  · exact .inl h2
  · refine .inr ⟨g, cap, cur, rfl, h3, k g _ h4 (fun e1 => ?_) (fun c fz e1 => ?_), h5⟩
    · have := Option.some.inj e1
      omega
    · simp only [Obj.cells.injEq] at e1
      exact he e1.2.1
theorem stmt_byte : ¬ (80 : TypeId) = 5 := by decide
theorem verdict_byte : ¬ (56 : TypeId) = 5 := by decide
theorem obj_others {w w' : World} {g b : Nat} {cs : Array Value} {e : TypeId} (h : w.heap[g]? = some (.cells cs e (0, 0))) (k : Lib.OthersKept 5 (some b) w w') (hb : ¬ g = b) (he : ¬ e = 5) : w'.heap[g]? = some (.cells cs e (0, 0)) :=
  k g _ h (fun e1 => hb (Option.some.inj e1)) (fun c fz e1 => by
    simp only [Obj.cells.injEq] at e1
    exact he e1.2.1)
theorem obj_belowV {w w' : World} {g : Nat} {o : Obj} (h : w.heap[g]? = some o) (hb : Below w.heap.size w w') : w'.heap[g]? = some o :=
  (hb.block g (Array.getElem?_eq_some_iff.1 h).1).trans h
theorem rep_Print1 (s : ByteArray) (B b : Nat) (l : List UInt8) (w : World) (hj : s.size ≤ 1000000) (hs : SbAt B b l w) (hl : l.length ≤ 1000000000) (hB : B ≤ w.heap.size) :
    Calls Tryz.prog 78 #[.string s, .pointer (some ⟨b, 0, none⟩)] w fun e w' => e = .returned (.tuple #[]) ∧ SbAt B b (l ++ (bl s ++ [10])) w' ∧ Below B w w' ∧ Lib.OthersKept 5 (some b) w w' := by
  have HS := Lib.hid hs
  have hsz : (s ++ ⟨#[10]⟩ : ByteArray).size = s.size + 1 := by rw [ByteArray.size_append]; rfl
  have hbl : bl (s ++ ⟨#[10]⟩) = bl s ++ [10] := by rw [bl_append]
  have W := Lib.hid (fun W (hS : SbAt B b l W) (hBW : B ≤ W.heap.size) => sb_WriteString B b l (s ++ ⟨#[10]⟩) W hS (by omega) hBW)
  rw [hbl] at W
  clear hs hbl
  go_enter Tryz.func78, Tryz.ntmps78
  go_wp2_with fail
  refine (W.out _ HS.out (by omega)).mono ?_
  rintro e w2 ⟨rfl, hs2, hb2, ho2⟩
  have HS2 := Lib.hid hs2
  have HB2 := Lib.hid hb2
  have HO2 := Lib.hid ho2
  clear hs2 hb2 ho2 W
  go_wp2
  go_end0
  exact ⟨rfl, HS2.out, HB2.out, HO2.out⟩

set_option maxRecDepth 100000 in
set_option maxHeartbeats 4000000 in
theorem rep_head {w : World} {v0 v1 v2 v3 : Value} {p : Pd} {us : List (Qd × Value)} (H : PolD w v0 v1 v2 v3 p us) (i : Nat) (k : Int) (hi : i < us.length) (hg : GoodQ us[i].1) (hus : us.length ≤ 100) :
    Calls Tryz.prog 80 #[pv v0 v1 v2 v3, .int .i64 i, .int .i64 k] w fun e w' => e = .returned (.string (headV i us[i].1 k)) ∧ Below w.heap.size w w' := by
  have DC := Lib.hid (fun W => rep_dec (i + 1) (by omega) W)
  have hlm : i < (us.map qz).length := by simpa using hi
  have e1 : (us.map qz)[i] = qz us[i] := by simp
  have QP := Lib.hid (fun W (hb : Below w.heap.size w W) => query_Print (qz us[i]) us[i].1.us W (rl_le_mono (good_a hg) (by decide)) (rl_le_mono (good_b hg) (by decide)) ((H.rw _ (List.getElem_mem hi)).below hb) (fun s hs => Nat.le_trans (good_us hg s hs) (by decide)))
  rw [show printQ (qz us[i]) us[i].1.us = textQ us[i].1 from if_pos (right_iff.2 hg)] at QP
  have HQ := Lib.hid H
  have z1 : (toBA (decL (i + 1))).size ≤ 4294967 := toBA_small (Nat.le_trans (dec_short (by omega)) (by decide))
  have z2 : (textQ us[i].1).size ≤ 4294967 := Nat.le_trans (textQ_size _ hg) (by decide)
  have z3 : (wordB k).size ≤ 4294967 := Nat.le_trans (wordB_size k) (by decide)
  have WW := Lib.hid (rep_Word k)
  have R := Lib.hid (show toBA (decL (i + 1)) ++ ⟨#[32]⟩ ++ textQ us[i].1 ++ ⟨#[32, 58, 32]⟩ ++ wordB k = headV i us[i].1 k from rfl)
  obtain ⟨a0, c0, rfl⟩ := H.rs.form
  obtain ⟨a1, c1, rfl⟩ := H.rg.form
  obtain ⟨a2, c2, rfl⟩ := H.rh.form
  have hu := H.rw _ (List.getElem_mem hi)
  obtain ⟨b3, o3, cc3, he3, hc3, hm3, hb3, hx3⟩ := H.rq.pos (by omega)
  subst he3
  obtain ⟨p0, p1, p2, p3, p4, p5⟩ := q_cell (w := w) (l := us.map qz) hx3 i hlm
  rw [e1] at p0 p1 p2 p3 p4 p5
  have hwi : IntKind.i64.wrap ((i : Int) + 1) = (i : Int) + 1 := Go.IntWalk.i64_in _ (by omega)
  have e2 : ((i + 1 : Nat) : Int) = (i : Int) + 1 := by omega
  rw [e2] at DC
  clear H hg hx3 e1 e2 hlm HQ
  generalize headV i us[i].1 k = res at *
  generalize toBA (decL (i + 1)) = x1 at *
  generalize textQ us[i].1 = x2 at *
  generalize wordB k = x3 at *
  have l1 : ¬ 9223372036854775807 < x1.size + 1 := by omega
  have l2 : ¬ 9223372036854775807 < x1.size + 1 + x2.size := by omega
  have l3 : ¬ 9223372036854775807 < x1.size + 1 + x2.size + 3 := by omega
  have l4 : ¬ 9223372036854775807 < x1.size + 1 + x2.size + 3 + x3.size := by omega
  generalize us[i] = z at *
  obtain ⟨⟨k0, ⟨q1, q2⟩, ⟨q3, q4⟩, uu⟩, zv⟩ := z
  dsimp only [qz] at hu p0 p1 p2 p3 p4 p5 QP
  obtain ⟨wo, wc, rfl⟩ := hu.form
  clear hu
  have HT := Lib.hid (show OneAt w #[.slice a0 p.l.length c0, .slice a1 p.g.length c1, .slice a2 p.h.length c2, .slice (some ⟨b3, o3, none⟩) us.length cc3] (w.alloc (.cells #[.slice a0 p.l.length c0, .slice a1 p.g.length c1, .slice a2 p.h.length c2, .slice (some ⟨b3, o3, none⟩) us.length cc3] 26)) from ⟨Blk.new w _ _, (Below.refl _ _).alloc (Nat.le_refl _) _⟩)
  go_enter Tryz.func80, Tryz.ntmps80
  have HA := Lib.hid ((Below.refl w.heap.size w).alloc (Nat.le_refl _) (.cells #[.slice a0 p.l.length c0, .slice a1 p.g.length c1, .slice a2 p.h.length c2, .slice (some ⟨b3, o3, none⟩) us.length cc3] 26))
  have hR1 : b3 < w.heap.size := hb3
  have HS := Lib.hid (fun (W : World) (hb : Below (w.alloc (.cells #[.slice a0 p.l.length c0, .slice a1 p.g.length c1, .slice a2 p.h.length c2, .slice (some ⟨b3, o3, none⟩) us.length cc3] 26)).heap.size (w.alloc (.cells #[.slice a0 p.l.length c0, .slice a1 p.g.length c1, .slice a2 p.h.length c2, .slice (some ⟨b3, o3, none⟩) us.length cc3] 26)) W) => show (W.cell? ⟨w.heap.size, 3, none⟩ = some (.slice (some ⟨b3, o3, none⟩) us.length cc3) ∧ W.cell? ⟨b3, o3 + i * 6, none⟩ = some (.int .i64 k0) ∧ W.cell? ⟨b3, o3 + i * 6 + 1, none⟩ = some (.string q1) ∧ W.cell? ⟨b3, o3 + i * 6 + 2, none⟩ = some (.string q2) ∧ W.cell? ⟨b3, o3 + i * 6 + 3, none⟩ = some (.string q3) ∧ W.cell? ⟨b3, o3 + i * 6 + 4, none⟩ = some (.string q4) ∧ W.cell? ⟨b3, o3 + i * 6 + 5, none⟩ = some (.slice wo uu.length wc)) from
    have hb0 : Below w.heap.size w W := HA.out.trans (hb.mono HA.out.size)
    ⟨(keep1 hb).1 3, (hb0.cell (p := ⟨b3, _, none⟩) hR1).trans p0, (hb0.cell (p := ⟨b3, _, none⟩) hR1).trans p1, (hb0.cell (p := ⟨b3, _, none⟩) hR1).trans p2, (hb0.cell (p := ⟨b3, _, none⟩) hR1).trans p3, (hb0.cell (p := ⟨b3, _, none⟩) hR1).trans p4, (hb0.cell (p := ⟨b3, _, none⟩) hR1).trans p5⟩)
  clear p0 p1 p2 p3 p4 p5
  obtain ⟨wa, hwa⟩ : ∃ W, W = w.alloc (.cells #[.slice a0 p.l.length c0, .slice a1 p.g.length c1, .slice a2 p.h.length c2, .slice (some ⟨b3, o3, none⟩) us.length cc3] 26) := ⟨_, rfl⟩
  go_wp2_with fail
  rw [← hwa] at HS HA ⊢
  clear hwa HT
  refine wp_region_held_drew (S := fun W => (W.cell? ⟨w.heap.size, 3, none⟩ = some (.slice (some ⟨b3, o3, none⟩) us.length cc3) ∧ W.cell? ⟨b3, o3 + i * 6, none⟩ = some (.int .i64 k0) ∧ W.cell? ⟨b3, o3 + i * 6 + 1, none⟩ = some (.string q1) ∧ W.cell? ⟨b3, o3 + i * 6 + 2, none⟩ = some (.string q2) ∧ W.cell? ⟨b3, o3 + i * 6 + 3, none⟩ = some (.string q3) ∧ W.cell? ⟨b3, o3 + i * 6 + 4, none⟩ = some (.string q4) ∧ W.cell? ⟨b3, o3 + i * 6 + 5, none⟩ = some (.slice wo uu.length wc))) (by kernel_rfl) (HS.out _ (below_drew (Below.refl _ _))) (fun hHeld => ?_)
  have HB := Lib.hid (below_drew (Below.refl wa.heap.size wa))
  obtain ⟨wk, hwk⟩ : ∃ W, W = wa.drew := ⟨_, rfl⟩
  rw [← hwk] at HB hHeld ⊢
  clear hwk
  (refine hyes 0 ?_); (refine hyes 1 ?_); (refine hyes 4 ?_); (refine hyes 5 ?_); (refine hyes 6 ?_); (refine hyes 7 ?_); (refine hyes 8 ?_); (refine hyes 12 ?_); (try simp only [Act.put, List.setIfInBounds_toArray, List.set])
  (refine held_call 2 rfl (by kernel_rfl) (fun K hK => ?_); go_simp)
  go_at_call 95; refine (DC.out _).mono ?_; rintro e w2 ⟨rfl, hb2⟩; have HB := Lib.hid (HB.out.trans (hb2.mono HB.out.size)); clear hb2
  (refine hK.out _ _ (HS.out _ HB.out) (fun hHeld => ?_); clear hK K; (try simp only [Act.put, List.setIfInBounds_toArray, List.set]))
  (refine hyes 3 ?_); (try simp only [Act.put, List.setIfInBounds_toArray, List.set])
  (refine held_call 9 rfl (by kernel_rfl) (fun K hK => ?_); go_simp)
  go_at_call 121; refine (QP.out _ (HA.out.trans (HB.out.mono HA.out.size))).mono ?_; rintro e w3 ⟨rfl, hb2⟩; have HB := Lib.hid (HB.out.trans (hb2.mono HB.out.size)); clear hb2
  (refine hK.out _ _ (HS.out _ HB.out) (fun hHeld => ?_); clear hK K; (try simp only [Act.put, List.setIfInBounds_toArray, List.set]))
  (refine hyes 10 ?_); (refine hyes 11 ?_); (try simp only [Act.put, List.setIfInBounds_toArray, List.set])
  (refine held_call 13 rfl (by kernel_rfl) (fun K hK => ?_); go_simp)
  go_at_call 30; refine (WW.out _).mono ?_; rintro e w4 ⟨rfl, hb2⟩; have HB := Lib.hid (HB.out.trans (hb2.mono HB.out.size)); clear hb2
  (refine hK.out _ _ (HS.out _ HB.out) (fun hHeld => ?_); clear hK K; (try simp only [Act.put, List.setIfInBounds_toArray, List.set]))
  (refine hyes 14 ?_); (refine hyes 15 ?_); (try simp only [Act.put, List.setIfInBounds_toArray, List.set])
  refine wpAnyH_done (by kernel_rfl) ?_ _
  go_wp2
  go_ret
  exact ⟨ret_s R.out, HA.out.trans (HB.out.mono HA.out.size)⟩
end Go.Proofs.YtomhekohcadijaaGreatDoor
