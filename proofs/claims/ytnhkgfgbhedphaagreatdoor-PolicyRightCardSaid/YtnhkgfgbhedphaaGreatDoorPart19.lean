/- crupperref01.Put, crupperref05.Prins, Names: the rows that are returned are the calls' own (turned by gen_owns.py). The statement PolicyRight: the walk of the law (printed by gen_law05g.py). Roles and statements among a law's arguments: opened to data, and read again in a later world. Rows of statements among a law's arguments: opened. Policies among a law's arguments: opened. -/
import Derived.Test.YtnhkgfgbhedphaaGreatDoorPart8
import Derived.Test.YtnhkgfgbhedphaaGreatDoorPart14
import Derived.Test.YtnhkgfgbhedphaaGreatDoorPart16
import Derived.Test.YtnhkgfgbhedphaaGreatDoorPart17
import Derived.Test.YtnhkgfgbhedphaaGreatDoorPart18
import Derived.Test.YtnhkgfgbhedphaaGreatDoorPart6
import Derived.ProofKit
import Derived.OpenShut
import Derived.ChangeMaps5
import Derived.Deep.Strs
import Derived.Test.YtnhkgfgbhedphaaGreatDoorPart4
import Derived.Deep.Slices
namespace Go.Proofs.YtnhkgfgbhedphaaGreatDoor
open Go.RowKit Go.Shelf

set_option maxRecDepth 100000 in
set_option maxHeartbeats 4000000 in
theorem ref1_PutO (va : Value) (l : List ByteArray) (s : ByteArray) (w : World) (ha : SlA w 1 va l.length (strs l)) (hn : l.length ≤ 100000) :
    Calls Tryz.prog 95 #[va, .string s] w fun e w' => ∃ v, e = .returned v ∧ ((v = va ∧ insSB l s = l) ∨ w'.ownsRow w.heap.size 9 1 v (insSB l s).length (strs (insSB l s))) ∧ Below w.heap.size w w' := by
  have HA := Lib.hid ha
  have HH := Lib.hid (ref1_HasB va l s w ha)
  have IY := Lib.hid (fun h => insS_hasB (l := l) (x := s) h)
  have IN := Lib.hid (fun h => insS_notB (l := l) (x := s) h)
  have NE := Lib.hid (fun (h : hasB l s = false) k (hk : k < l.length) => show ¬ l[k] = s from fun e => absurd (hasB_yes hk e) (by rw [h]; exact Bool.false_ne_true))
  generalize hasB l s = b at HH IY IN NE
  have hmax := ha.max
  obtain ⟨ao, cap, hva⟩ := ha.form
  subst hva
  clear ha
  go_enter Tryz.func95, Tryz.ntmps95
  go_wp2_with fail
  refine HH.out.mono ?_
  rintro e w1 ⟨rfl, rfl⟩
  cases b with
  | true =>
    go_wp2
    go_ret
    exact ⟨_, rfl, .inl ⟨rfl, IY.out (by first | rfl | trivial)⟩, Below.refl _ _⟩
  | false =>
    obtain ⟨wA, hwA⟩ : ∃ wA, wA = w1 := ⟨_, rfl⟩
    subst hwA
    have INS := Lib.hid (IN.out rfl)
    have NEQ := Lib.hid (NE.out rfl)
    clear IY IN NE
    go_wp2_with fail
    go_loopw [5, 6, 15] (fun vo dv i wr => ∃ (k : Nat) (d : Bool) (ss : List ByteArray), k ≤ l.length ∧ i = .int .i64 k ∧ dv = .bool d ∧ Hid (PutI l s k d ss) ∧ Hid (Below wA.heap.size wA wr) ∧ Hid (wr.ownsRow wA.heap.size 9 1 vo ss.length (strs ss))) (fun _ _ i _ => l.length - (intOf i).toNat)
    case atStart => exact ⟨0, false, [], by omega, rfl, rfl, Lib.hid (PutI.start l s), Lib.hid (Below.refl _ _), Lib.hid (World.ownsRow_nil _ _ _ _)⟩
    case round =>
      obtain ⟨k, d, ss, hk, rfl, rfl, HC, HB, HO⟩ := hrel
      obtain ⟨oo, oc, rfl⟩ := own_form HO.out
      have hss : ss.length ≤ 100002 := by have := HC.out.len; omega
      by_cases hlt : k < l.length
      · obtain ⟨b1, o1, c1, he1, hc1, hm1, hb1, hx1⟩ := HA.out.pos (by omega)
        simp only [Value.slice.injEq, true_and] at he1
        obtain ⟨rfl, rfl⟩ := he1
        have p0 := (HB.out.cell (p := ⟨b1, o1 + k, none⟩) hb1).trans (hx1 k _ (strs_get hlt))
        have hbr : b1 < wr.heap.size := Nat.lt_of_lt_of_le hb1 HB.out.size
        have PY := Lib.hid (fun (h : PutI l s k true ss) => h.yes hlt)
        have PN := Lib.hid (fun (h : PutI l s k false ss) e => h.no hlt (NEQ.out k hlt) e)
        have PP := Lib.hid (fun (h : PutI l s k false ss) e => h.put hlt e)
        clear hx1
        generalize l[k] = x at *
        cases d with
        | true =>
          have HC' := HC.out
          have hown := HO.out
          go_wp2_with (at_builtin; refine halt_ ?_)
          unfold Halt_
          refine app_own Tryz.underlying27 str_info rfl (by decide) (by decide) rfl _ _ rfl wA.heap.size rfl (hown.alloc _) [.string x] rfl (heap_new1 _ _) rfl (str1 _) ?_ ?_ ?_
          · omega
          · have := HB.out.size; simp; omega
          intro a' cap' w3 hown' hgrow
          obtain ⟨q1, q2⟩ := own_push (x := x) HB.out hown hown' hgrow
          have HO1 := Lib.hid q1
          have HB1 := Lib.hid q2
          clear hown hown' hgrow q1 q2
          go_wp2_with fail
          exact ⟨⟨k + 1, true, ss ++ [x], by omega, by go_num, rfl, Lib.hid (PY.out HC'), HB1, HO1⟩, by simp [intOf]; omega⟩
        | false =>
          have HC' := HC.out
          cases hbl : Op.bytesLess s.toList x.toList with
          | false =>
            have hown := HO.out
            go_wp2_with (at_builtin; refine halt_ ?_)
            unfold Halt_
            refine app_own Tryz.underlying27 str_info rfl (by decide) (by decide) rfl _ _ rfl wA.heap.size rfl (hown.alloc _) [.string x] rfl (heap_new1 _ _) rfl (str1 _) ?_ ?_ ?_
            · omega
            · have := HB.out.size; simp; omega
            intro a' cap' w3 hown' hgrow
            obtain ⟨q1, q2⟩ := own_push (x := x) HB.out hown hown' hgrow
            have HO1 := Lib.hid q1
            have HB1 := Lib.hid q2
            clear hown hown' hgrow q1 q2
            go_wp2_with fail
            exact ⟨⟨k + 1, false, ss ++ [x], by omega, by go_num, rfl, Lib.hid (PN.out HC' hbl), HB1, HO1⟩, by simp [intOf]; omega⟩
          | true =>
            have hown := HO.out
            go_wp2_with (at_builtin; refine halt_ ?_)
            unfold Halt_
            refine app_own Tryz.underlying27 str_info rfl (by decide) (by decide) rfl _ _ rfl wA.heap.size rfl (hown.alloc _) [.string s] rfl (heap_new1 _ _) rfl (str1 _) ?_ ?_ ?_
            · omega
            · have := HB.out.size; simp; omega
            intro a' cap' w3 hown' hgrow
            obtain ⟨q1, q2⟩ := own_push (x := s) HB.out hown hown' hgrow
            have HO1 := Lib.hid q1
            have HB1 := Lib.hid q2
            clear hown hown' hgrow q1 q2
            have hown := HO1.out
            go_wp2_with (at_builtin; refine halt_ ?_)
            unfold Halt_
            refine app_own Tryz.underlying27 str_info rfl (by decide) (by decide) rfl _ _ rfl wA.heap.size rfl (hown.alloc _) [.string x] rfl (heap_new1 _ _) rfl (str1 _) ?_ ?_ ?_
            · (simp only [List.length_append, List.length_cons, List.length_nil]; omega)
            · have := HB1.out.size; simp; omega
            intro a' cap' w3 hown' hgrow
            obtain ⟨q1, q2⟩ := own_push (x := x) HB1.out hown hown' hgrow
            have HO2 := Lib.hid q1
            have HB2 := Lib.hid q2
            clear hown hown' hgrow q1 q2
            go_wp2_with fail
            refine ⟨⟨k + 1, true, ss ++ [s] ++ [x], by omega, by go_num, rfl, Lib.hid (PP.out HC' hbl), HB2, Lib.hid (by have h := HO2.out; rw [show (ss ++ [s]).length + 1 = ss.length + 1 + 1 by simp] at h; exact h)⟩, by simp [intOf]; omega⟩
      · cases d with
        | true =>
          have HC' := HC.out
          have HSL := Lib.hid (Sl.of_own HO.out).a
          have HSO := Lib.hid (HO.out)
          go_wp2
          go_ret
          exact ⟨_, rfl, .inr (by rw [INS.out, ← HC'.endT (by omega)]; exact HSO.out), HB.out⟩
        | false =>
          have HC' := HC.out
          have hown := HO.out
          go_wp2_with (at_builtin; refine halt_ ?_)
          unfold Halt_
          refine app_own Tryz.underlying27 str_info rfl (by decide) (by decide) rfl _ _ rfl wA.heap.size rfl (hown.alloc _) [.string s] rfl (heap_new1 _ _) rfl (str1 _) ?_ ?_ ?_
          · omega
          · have := HB.out.size; simp; omega
          intro a' cap' w3 hown' hgrow
          obtain ⟨q1, q2⟩ := own_push (x := s) HB.out hown hown' hgrow
          have HO1 := Lib.hid q1
          have HB1 := Lib.hid q2
          clear hown hown' hgrow q1 q2
          have HSL := Lib.hid (Sl.of_own HO1.out).a
          have HSO := Lib.hid (HO1.out)
          go_wp2
          go_ret
          exact ⟨_, rfl, .inr (by rw [INS.out, ← HC'.endF (by omega)]; exact HSO.out), HB1.out⟩

def NewO (B : Nat) (w : World) (v : Value) (xs : List ByteArray) (n : Nat) : Prop := (w.ownsRow B 9 1 v (newB xs).length (strs (newB xs)) ∧ xs.length ≤ n) ∧ B ≤ w.heap.size
theorem NewO.below {B : Nat} {w w' : World} {v : Value} {xs : List ByteArray} {n : Nat} (h : NewO B w v xs n) (hb : Below w.heap.size w w') : NewO B w' v xs n := ⟨⟨own_below h.1.1 hb, h.1.2⟩, Nat.le_trans h.2 hb.size⟩
theorem NewO.mono {B : Nat} {w : World} {v : Value} {xs : List ByteArray} {n m : Nat} (h : NewO B w v xs n) (hm : n ≤ m) : NewO B w v xs m := ⟨⟨h.1.1, Nat.le_trans h.1.2 hm⟩, h.2⟩
theorem NewO.nil (B : Nat) (w : World) (hB : B ≤ w.heap.size) : NewO B w (.slice none 0 0) [] 0 := ⟨⟨World.ownsRow_nil _ _ _ _, Nat.le_refl _⟩, hB⟩
theorem NewO.eq {B : Nat} {w : World} {v : Value} {xs ys : List ByteArray} {n : Nat} (h : NewO B w v xs n) (e : ys = xs) : NewO B w v ys n := by rw [e]; exact h
theorem put_newO (B : Nat) (v : Value) (n : Nat) (xs : List ByteArray) (s : ByteArray) (w : World) (h : NewO B w v xs n) (hn : n ≤ 100000) :
    Calls Tryz.prog 95 #[v, .string s] w fun e w' => ∃ v', e = .returned v' ∧ NewO B w' v' (xs ++ [s]) (n + 1) ∧ Below w.heap.size w w' := by
  refine (ref1_PutO v (newB xs) s w (Sl.of_own h.1.1).a (Nat.le_trans (new_len xs) (Nat.le_trans h.1.2 hn))).mono ?_
  rintro e w' ⟨v', he, hr, hb⟩
  refine ⟨v', he, ⟨⟨?_, by rw [List.length_append]; exact Nat.succ_le_succ h.1.2⟩, Nat.le_trans h.2 hb.size⟩, hb⟩
  rw [new_snoc]
  rcases hr with ⟨rfl, e1⟩ | hr
  · rw [e1]; exact own_below h.1.1 hb
  · exact own_mono hr h.2
set_option maxRecDepth 100000 in
set_option maxHeartbeats 8000000 in
theorem ref5_PrinsO (v0 v1 v2 v3 : Value) (l : List St) (g h : List Rl) (qs : List Qv) (w : World) (hp : PolAt w v0 v1 v2 v3 l g h qs) (hl : l.length ≤ 100) (hg : g.length ≤ 100) (hh : h.length ≤ 100) (hq : qs.length ≤ 100) (F : Qv → List ByteArray) (hF : WhoF w qs F) :
    Calls Tryz.prog 39 #[pv v0 v1 v2 v3] w fun e w' => ∃ v, e = .returned v ∧ NewO w.heap.size w' v (allPrins l g h qs F) 10000 ∧ Below w.heap.size w w' := by
  have HP := Lib.hid hp
  have HR := Lib.hid (fun W (hb : Below w.heap.size w W) => ref5_RolesL v0 v1 v2 v3 l g h qs W (hp.below hb) hl hg hh hq)
  have HQ4 := Lib.hid hF
  obtain ⟨a0, c0, rfl⟩ := hp.rs.form
  obtain ⟨a1, c1, rfl⟩ := hp.rg.form
  obtain ⟨a2, c2, rfl⟩ := hp.rh.form
  obtain ⟨a3, c3, rfl⟩ := hp.rq.form
  have HT := Lib.hid (show OneAt w #[.slice a0 l.length c0, .slice a1 g.length c1, .slice a2 h.length c2, .slice a3 qs.length c3] (w.alloc (.cells #[.slice a0 l.length c0, .slice a1 g.length c1, .slice a2 h.length c2, .slice a3 qs.length c3] 26)) from ⟨Blk.new w _ _, (Below.refl _ _).alloc (Nat.le_refl _) _⟩)
  clear hp hF
  go_enter Tryz.func39, Tryz.ntmps39
  go_wp2_with fail
  refine (HR.out _ HT.out.low).mono ?_
  rintro e w1 ⟨vr, rfl, hr1, hr2, hr3, hb1⟩
  have HT := Lib.hid (HT.out.later hb1)
  have HRES := Lib.hid (show allPrins l g h qs F = ((allRoles l g h qs).map Rl.o ++ l.flatMap whoS) ++ qs.flatMap F from rfl)
  generalize allRoles l g h qs = rs at *
  have HRS := Lib.hid hr1
  have HRL := Lib.hid hr3
  obtain ⟨ro, rc, rfl⟩ := hr1.form
  clear hb1 hr1 hr3
  go_wp2_with fail
  go_loopw [3, 15] (fun vo i wr => ∃ (k : Nat) (vx : Value), k ≤ rs.length ∧ vx = vo ∧ i = .int .i64 k ∧ Hid (NewO w.heap.size wr vx ((rs.take k).map Rl.o) k) ∧ Hid (OneAt w #[.slice a0 l.length c0, .slice a1 g.length c1, .slice a2 h.length c2, .slice a3 qs.length c3] wr) ∧ Hid (Below w1.heap.size w1 wr)) (fun _ i _ => rs.length - (intOf i).toNat)
  case atStart => exact ⟨0, _, by omega, rfl, rfl, Lib.hid (NewO.nil _ _ HT.out.low.size), HT, Lib.hid (Below.refl _ _)⟩
  case round =>
    clear HT
    obtain ⟨k, vx, hk, rfl, rfl, HO, HT, HB⟩ := hrel
    by_cases hlt : k < rs.length
    · obtain ⟨b1, o1, e1, he1, hc1, hm1', hb1, hx1⟩ := HRS.out.pos (by omega)
      simp only [Value.slice.injEq, true_and] at he1
      obtain ⟨rfl, rfl⟩ := he1
      obtain ⟨p0, p1⟩ := rl_cell (w := wr) (fun j u hu => (HB.out.cell (p := ⟨b1, o1 + j, none⟩) hb1).trans (hx1 j u hu)) k hlt
      have hbr : b1 < wr.heap.size := Nat.lt_of_lt_of_le hb1 HB.out.size
      have HF := Lib.hid (take_snoc hlt)
      clear hx1
      generalize rs[k] = x at *
      obtain ⟨x1, x2⟩ := x
      have hba : Below wr.heap.size wr (wr.alloc (.cells #[.string x1, .string x2] 54)) := (Below.refl _ _).alloc (Nat.le_refl _) _
      have PC := Lib.hid (put_newO w.heap.size vx k _ x1 _ (HO.out.below hba) (by omega))
      have HT2 := Lib.hid (HT.out.later hba)
      have HB2 := Lib.hid (HB.out.trans (hba.mono HB.out.size))
      clear hba
      go_wp2_with fail
      refine PC.out.mono ?_
      rintro e w3 ⟨vz, rfl, hr, hb3⟩
      have HR3 := Lib.hid hr
      have HT3 := Lib.hid (HT2.out.later hb3)
      have HB3 := Lib.hid (HB2.out.trans (hb3.mono HB2.out.size))
      clear hr hb3
      go_wp2
      exact ⟨⟨k + 1, _, by omega, rfl, by go_num, Lib.hid (HR3.out.eq (by rw [HF.out, List.map_append]; rfl)), HT3, HB3⟩, by simp [intOf]; omega⟩
    · obtain ⟨ca, fa, za⟩ := HT.out.a
      have HO := Lib.hid ((HO.out.mono (show k ≤ 1000 by omega)).eq (ys := rs.map Rl.o) (by rw [List.take_of_length_le (show rs.length ≤ k by omega)]))
      clear HB HRS HRL hk
      go_wp2_with fail
      clear ca fa za
      go_loopw [3, 27] (fun vo i wr => ∃ (k : Nat) (vx : Value), k ≤ l.length ∧ vx = vo ∧ i = .int .i64 k ∧ Hid (NewO w.heap.size wr vx (rs.map Rl.o ++ (l.take k).flatMap whoS) (1000 + k)) ∧ Hid (OneAt w #[.slice a0 l.length c0, .slice a1 g.length c1, .slice a2 h.length c2, .slice a3 qs.length c3] wr)) (fun _ i _ => l.length - (intOf i).toNat)
      case atStart => exact ⟨0, _, by omega, rfl, rfl, Lib.hid (HO.out.eq (by simp)), HT⟩
      case round =>
        clear HT HO
        obtain ⟨k, vx, hk, rfl, rfl, HO, HT⟩ := hrel
        by_cases hlt : k < l.length
        · obtain ⟨b1, o1, e1, he1, hc1, hm1', hb1, hx1⟩ := HP.out.rs.pos (by omega)
          simp only [Value.slice.injEq, true_and] at he1
          obtain ⟨rfl, rfl⟩ := he1
          obtain ⟨p0, p1, p2, p3, p4, p5, p6, p7, p8⟩ := st_cell (w := wr) (fun j u hu => (HT.out.low.cell (p := ⟨b1, o1 + j, none⟩) hb1).trans (hx1 j u hu)) k hlt
          have hbr : b1 < wr.heap.size := Nat.lt_of_lt_of_le hb1 HT.out.low.size
          have HF := Lib.hid (flat_snocF whoS hlt)
          clear hx1
          generalize l[k] = x at *
          obtain ⟨xk, ⟨x1, x2⟩, xw, ⟨x3, x4⟩, ⟨x5, x6⟩, xv⟩ := x
          have hba : Below wr.heap.size wr (wr.alloc (.cells #[.int .i64 xk, .string x1, .string x2, .string xw, .string x3, .string x4, .string x5, .string x6, .string xv] 63)) := (Below.refl _ _).alloc (Nat.le_refl _) _
          have PC := Lib.hid (put_newO w.heap.size vx (1000 + k) _ xw _ (HO.out.below hba) (by omega))
          have HT2 := Lib.hid (HT.out.later hba)
          have HO2 := Lib.hid (HO.out.below hba)
          clear hba
          by_cases hkk : xk = 1
          · have d1 : (xk == 1) = true := by simp [hkk]
            have HK := Lib.hid (show whoS ⟨xk, ⟨x1, x2⟩, xw, ⟨x3, x4⟩, ⟨x5, x6⟩, xv⟩ = [xw] from if_pos hkk)
            clear hkk
            go_wp2_with fail
            refine PC.out.mono ?_
            rintro e w3 ⟨vz, rfl, hr, hb3⟩
            have HR3 := Lib.hid hr
            have HT3 := Lib.hid (HT2.out.later hb3)
            clear hr hb3
            go_wp2
            exact ⟨⟨k + 1, _, by omega, rfl, by go_num, Lib.hid (HR3.out.eq (by rw [HF.out, HK.out, List.append_assoc])), HT3⟩, by simp [intOf]; omega⟩
          · have d1 : (xk == 1) = false := by simp [hkk]
            have HK := Lib.hid (show whoS ⟨xk, ⟨x1, x2⟩, xw, ⟨x3, x4⟩, ⟨x5, x6⟩, xv⟩ = [] from if_neg hkk)
            clear hkk
            go_wp2
            exact ⟨⟨k + 1, _, by omega, rfl, by go_num, Lib.hid ((HO2.out.mono (by omega)).eq (by rw [HF.out, HK.out, List.append_nil])), HT2⟩, by simp [intOf]; omega⟩
        · obtain ⟨ca, fa, za⟩ := HT.out.a
          have HO := Lib.hid ((HO.out.mono (show 1000 + k ≤ 1100 by omega)).eq (ys := rs.map Rl.o ++ l.flatMap whoS) (by rw [List.take_of_length_le (show l.length ≤ k by omega)]))
          clear hk
          go_wp2_with fail
          clear ca fa za
          go_loopw [3, 42] (fun vo i wr => ∃ (k : Nat) (vx : Value), k ≤ qs.length ∧ vx = vo ∧ i = .int .i64 k ∧ Hid (NewO w.heap.size wr vx (rs.map Rl.o ++ l.flatMap whoS ++ (qs.take k).flatMap F) (1100 + 40 * k)) ∧ Hid (OneAt w #[.slice a0 l.length c0, .slice a1 g.length c1, .slice a2 h.length c2, .slice a3 qs.length c3] wr)) (fun _ i _ => qs.length - (intOf i).toNat)
          case atStart => exact ⟨0, _, by omega, rfl, rfl, Lib.hid (HO.out.eq (by simp)), HT⟩
          case round =>
            clear HT HO
            obtain ⟨k, vx, hk, rfl, rfl, HO, HT⟩ := hrel
            by_cases hlt : k < qs.length
            · obtain ⟨b1, o1, e1, he1, hc1, hm1', hb1, hx1⟩ := HP.out.rq.pos (by omega)
              simp only [Value.slice.injEq, true_and] at he1
              obtain ⟨rfl, rfl⟩ := he1
              obtain ⟨p0, p1, p2, p3, p4, p5⟩ := q_cell (w := wr) (fun j u hu => (HT.out.low.cell (p := ⟨b1, o1 + j, none⟩) hb1).trans (hx1 j u hu)) k hlt
              have hbr : b1 < wr.heap.size := Nat.lt_of_lt_of_le hb1 HT.out.low.size
              obtain ⟨hu1, hu2⟩ := HQ4.out _ (List.getElem_mem hlt)
              have HF := Lib.hid (flat_snocF F hlt)
              generalize F qs[k] = us at hu1 hu2 HF
              have HU := Lib.hid hu1
              obtain ⟨wo, wc, hw5⟩ := hu1.form
              clear hx1 hu1
              generalize qs[k] = x at *
              obtain ⟨xk, ⟨x1, x2⟩, ⟨x3, x4⟩, xw⟩ := x
              dsimp only at hw5 HU
              subst hw5
              obtain ⟨nw, hnw⟩ : ∃ nw, nw = us.length := ⟨_, rfl⟩
              have HNW := Lib.hid hnw
              rw [← hnw] at p5 HU hu2
              clear hnw
              have hba : Below wr.heap.size wr (wr.alloc (.cells #[.int .i64 xk, .string x1, .string x2, .string x3, .string x4, .slice wo nw wc] 66)) := (Below.refl _ _).alloc (Nat.le_refl _) _
              have HT2 := Lib.hid (HT.out.later hba)
              have HO2 := Lib.hid (HO.out.below hba)
              clear hba
              go_wp2_with fail
              go_loopw [3, 49] (fun vo i wr => ∃ (j : Nat) (vx : Value), j ≤ nw ∧ vx = vo ∧ i = .int .i64 j ∧ Hid (NewO w.heap.size wr vx (rs.map Rl.o ++ l.flatMap whoS ++ (qs.take k).flatMap F ++ us.take j) (1100 + 40 * k + j)) ∧ Hid (OneAt w #[.slice a0 l.length c0, .slice a1 g.length c1, .slice a2 h.length c2, .slice (some ⟨b1, o1, none⟩) qs.length c3] wr)) (fun _ i _ => nw - (intOf i).toNat)
              case atStart => exact ⟨0, _, by omega, rfl, rfl, Lib.hid (HO2.out.eq (by simp)), HT2⟩
              case round =>
                clear HT HO HT2 HO2
                obtain ⟨j, vx, hj, rfl, rfl, HO, HT⟩ := hrel
                by_cases hlj : j < nw
                · obtain ⟨b1, o1, e1, he1, hc1, hm1', hb1, hx1⟩ := HU.out.pos (by omega)
                  simp only [Value.slice.injEq, true_and] at he1
                  obtain ⟨rfl, rfl⟩ := he1
                  have hju : j < us.length := by have := HNW.out; omega
                  have p0 := (HT.out.low.cell (p := ⟨b1, o1 + j, none⟩) hb1).trans (hx1 j _ (strs_get hju))
                  have hbr : b1 < wr.heap.size := Nat.lt_of_lt_of_le hb1 HT.out.low.size
                  have PC := Lib.hid (put_newO w.heap.size vx (1100 + 40 * k + j) _ us[j] _ HO.out (by omega))
                  have HFJ := Lib.hid (take_snoc hju)
                  clear hx1
                  generalize us[j] = s at *
                  go_wp2_with fail
                  refine PC.out.mono ?_
                  rintro e w3 ⟨vz, rfl, hr, hb3⟩
                  have HR3 := Lib.hid hr
                  have HT3 := Lib.hid (HT.out.later hb3)
                  clear hr hb3
                  go_wp2
                  exact ⟨⟨j + 1, _, by omega, rfl, by go_num, Lib.hid (HR3.out.eq (by rw [HFJ.out]; simp only [List.append_assoc])), HT3⟩, by simp [intOf]; omega⟩
                · have HO3 := Lib.hid ((HO.out.mono (show 1100 + 40 * k + j ≤ 1100 + 40 * (k + 1) by omega)).eq (ys := rs.map Rl.o ++ l.flatMap whoS ++ (qs.take (k + 1)).flatMap F) (by rw [HF.out, List.take_of_length_le (show us.length ≤ j by have := HNW.out; omega)]; simp only [List.append_assoc]))
                  go_wp2
                  exact ⟨⟨k + 1, _, by omega, rfl, by go_num, HO3, HT⟩, by simp [intOf]; omega⟩
            · have HO3 := Lib.hid ((HO.out.mono (show 1100 + 40 * k ≤ 10000 by omega)).eq (ys := allPrins l g h qs F) (by rw [HRES.out, List.take_of_length_le (show qs.length ≤ k by omega)]))
              go_wp2
              go_ret
              exact ⟨_, rfl, HO3.out, HT.out.low⟩

set_option maxRecDepth 100000 in
set_option maxHeartbeats 8000000 in
theorem ref5_NamesO (v0 v1 v2 v3 : Value) (l : List St) (g h : List Rl) (qs : List Qv) (w : World) (hp : PolAt w v0 v1 v2 v3 l g h qs) (hl : l.length ≤ 100) (hg : g.length ≤ 100) (hh : h.length ≤ 100) (hq : qs.length ≤ 100)  :
    Calls Tryz.prog 41 #[pv v0 v1 v2 v3] w fun e w' => ∃ v, e = .returned v ∧ NewO w.heap.size w' v (allNames l g h qs) 10000 ∧ Below w.heap.size w w' := by
  have HP := Lib.hid hp
  have HR := Lib.hid (fun W (hb : Below w.heap.size w W) => ref5_RolesL v0 v1 v2 v3 l g h qs W (hp.below hb) hl hg hh hq)
  obtain ⟨a0, c0, rfl⟩ := hp.rs.form
  obtain ⟨a1, c1, rfl⟩ := hp.rg.form
  obtain ⟨a2, c2, rfl⟩ := hp.rh.form
  obtain ⟨a3, c3, rfl⟩ := hp.rq.form
  have HT := Lib.hid (show OneAt w #[.slice a0 l.length c0, .slice a1 g.length c1, .slice a2 h.length c2, .slice a3 qs.length c3] (w.alloc (.cells #[.slice a0 l.length c0, .slice a1 g.length c1, .slice a2 h.length c2, .slice a3 qs.length c3] 26)) from ⟨Blk.new w _ _, (Below.refl _ _).alloc (Nat.le_refl _) _⟩)
  clear hp 
  go_enter Tryz.func41, Tryz.ntmps41
  go_wp2_with fail
  refine (HR.out _ HT.out.low).mono ?_
  rintro e w1 ⟨vr, rfl, hr1, hr2, hr3, hb1⟩
  have HT := Lib.hid (HT.out.later hb1)
  have HRES := Lib.hid (show allNames l g h qs = ((allRoles l g h qs).map Rl.n ++ l.flatMap viaS)  from rfl)
  generalize allRoles l g h qs = rs at *
  have HRS := Lib.hid hr1
  have HRL := Lib.hid hr3
  obtain ⟨ro, rc, rfl⟩ := hr1.form
  clear hb1 hr1 hr3
  go_wp2_with fail
  go_loopw [3, 11] (fun vo i wr => ∃ (k : Nat) (vx : Value), k ≤ rs.length ∧ vx = vo ∧ i = .int .i64 k ∧ Hid (NewO w.heap.size wr vx ((rs.take k).map Rl.n) k) ∧ Hid (OneAt w #[.slice a0 l.length c0, .slice a1 g.length c1, .slice a2 h.length c2, .slice a3 qs.length c3] wr) ∧ Hid (Below w1.heap.size w1 wr)) (fun _ i _ => rs.length - (intOf i).toNat)
  case atStart => exact ⟨0, _, by omega, rfl, rfl, Lib.hid (NewO.nil _ _ HT.out.low.size), HT, Lib.hid (Below.refl _ _)⟩
  case round =>
    clear HT
    obtain ⟨k, vx, hk, rfl, rfl, HO, HT, HB⟩ := hrel
    by_cases hlt : k < rs.length
    · obtain ⟨b1, o1, e1, he1, hc1, hm1', hb1, hx1⟩ := HRS.out.pos (by omega)
      simp only [Value.slice.injEq, true_and] at he1
      obtain ⟨rfl, rfl⟩ := he1
      obtain ⟨p0, p1⟩ := rl_cell (w := wr) (fun j u hu => (HB.out.cell (p := ⟨b1, o1 + j, none⟩) hb1).trans (hx1 j u hu)) k hlt
      have hbr : b1 < wr.heap.size := Nat.lt_of_lt_of_le hb1 HB.out.size
      have HF := Lib.hid (take_snoc hlt)
      clear hx1
      generalize rs[k] = x at *
      obtain ⟨x1, x2⟩ := x
      have hba : Below wr.heap.size wr (wr.alloc (.cells #[.string x1, .string x2] 54)) := (Below.refl _ _).alloc (Nat.le_refl _) _
      have PC := Lib.hid (put_newO w.heap.size vx k _ x2 _ (HO.out.below hba) (by omega))
      have HT2 := Lib.hid (HT.out.later hba)
      have HB2 := Lib.hid (HB.out.trans (hba.mono HB.out.size))
      clear hba
      go_wp2_with fail
      refine PC.out.mono ?_
      rintro e w3 ⟨vz, rfl, hr, hb3⟩
      have HR3 := Lib.hid hr
      have HT3 := Lib.hid (HT2.out.later hb3)
      have HB3 := Lib.hid (HB2.out.trans (hb3.mono HB2.out.size))
      clear hr hb3
      go_wp2
      exact ⟨⟨k + 1, _, by omega, rfl, by go_num, Lib.hid (HR3.out.eq (by rw [HF.out, List.map_append]; rfl)), HT3, HB3⟩, by simp [intOf]; omega⟩
    · obtain ⟨ca, fa, za⟩ := HT.out.a
      have HO := Lib.hid ((HO.out.mono (show k ≤ 1000 by omega)).eq (ys := rs.map Rl.n) (by rw [List.take_of_length_le (show rs.length ≤ k by omega)]))
      clear HB HRS HRL hk
      go_wp2_with fail
      clear ca fa za
      go_loopw [3, 23] (fun vo i wr => ∃ (k : Nat) (vx : Value), k ≤ l.length ∧ vx = vo ∧ i = .int .i64 k ∧ Hid (NewO w.heap.size wr vx (rs.map Rl.n ++ (l.take k).flatMap viaS) (1000 + k)) ∧ Hid (OneAt w #[.slice a0 l.length c0, .slice a1 g.length c1, .slice a2 h.length c2, .slice a3 qs.length c3] wr)) (fun _ i _ => l.length - (intOf i).toNat)
      case atStart => exact ⟨0, _, by omega, rfl, rfl, Lib.hid (HO.out.eq (by simp)), HT⟩
      case round =>
        clear HT HO
        obtain ⟨k, vx, hk, rfl, rfl, HO, HT⟩ := hrel
        by_cases hlt : k < l.length
        · obtain ⟨b1, o1, e1, he1, hc1, hm1', hb1, hx1⟩ := HP.out.rs.pos (by omega)
          simp only [Value.slice.injEq, true_and] at he1
          obtain ⟨rfl, rfl⟩ := he1
          obtain ⟨p0, p1, p2, p3, p4, p5, p6, p7, p8⟩ := st_cell (w := wr) (fun j u hu => (HT.out.low.cell (p := ⟨b1, o1 + j, none⟩) hb1).trans (hx1 j u hu)) k hlt
          have hbr : b1 < wr.heap.size := Nat.lt_of_lt_of_le hb1 HT.out.low.size
          have HF := Lib.hid (flat_snocF viaS hlt)
          clear hx1
          generalize l[k] = x at *
          obtain ⟨xk, ⟨x1, x2⟩, xw, ⟨x3, x4⟩, ⟨x5, x6⟩, xv⟩ := x
          have hba : Below wr.heap.size wr (wr.alloc (.cells #[.int .i64 xk, .string x1, .string x2, .string xw, .string x3, .string x4, .string x5, .string x6, .string xv] 63)) := (Below.refl _ _).alloc (Nat.le_refl _) _
          have PC := Lib.hid (put_newO w.heap.size vx (1000 + k) _ xv _ (HO.out.below hba) (by omega))
          have HT2 := Lib.hid (HT.out.later hba)
          have HO2 := Lib.hid (HO.out.below hba)
          clear hba
          by_cases hkk : xk = 3
          · have d1 : (xk == 3) = true := by simp [hkk]
            have HK := Lib.hid (show viaS ⟨xk, ⟨x1, x2⟩, xw, ⟨x3, x4⟩, ⟨x5, x6⟩, xv⟩ = [xv] from if_pos hkk)
            clear hkk
            go_wp2_with fail
            refine PC.out.mono ?_
            rintro e w3 ⟨vz, rfl, hr, hb3⟩
            have HR3 := Lib.hid hr
            have HT3 := Lib.hid (HT2.out.later hb3)
            clear hr hb3
            go_wp2
            exact ⟨⟨k + 1, _, by omega, rfl, by go_num, Lib.hid (HR3.out.eq (by rw [HF.out, HK.out, List.append_assoc])), HT3⟩, by simp [intOf]; omega⟩
          · have d1 : (xk == 3) = false := by simp [hkk]
            have HK := Lib.hid (show viaS ⟨xk, ⟨x1, x2⟩, xw, ⟨x3, x4⟩, ⟨x5, x6⟩, xv⟩ = [] from if_neg hkk)
            clear hkk
            go_wp2
            exact ⟨⟨k + 1, _, by omega, rfl, by go_num, Lib.hid ((HO2.out.mono (by omega)).eq (by rw [HF.out, HK.out, List.append_nil])), HT2⟩, by simp [intOf]; omega⟩
        · have HO3 := Lib.hid ((HO.out.mono (show 1000 + k ≤ 10000 by omega)).eq (ys := allNames l g h qs) (by rw [HRES.out, List.take_of_length_le (show l.length ≤ k by omega)]))
          go_wp2
          go_ret
          exact ⟨_, rfl, HO3.out, HT.out.low⟩
end Go.Proofs.YtnhkgfgbhedphaaGreatDoor
namespace Go.Proofs.YtnhkgfgbhedphaaGreatDoor
open Go.RowKit Go.Shelf

theorem policy_RightB {w : World} {v0 v1 v2 v3 : Value} {p : Pd} {zs : List (Qd × Value)} {B : Bool} (H : PolD w v0 v1 v2 v3 p zs) (hle : LeP p 40 40) (hl : p.l.length ≤ 30) (hg : p.g.length ≤ 30) (hh : p.h.length ≤ 30) (hq : p.q.length ≤ 30) (hB : B = true ↔ RightD p) :
    Calls Tryz.prog 31 #[pv v0 v1 v2 v3] w fun e w' => e = .returned (.bool B) ∧ Below w.heap.size w w' := by
  refine (right_any H (hle.mono (by decide) (Nat.le_refl _)) (by omega) (by omega) (by omega) (by omega)).mono ?_
  rintro e w1 ⟨⟨b, rfl, hb⟩, hw⟩
  obtain rfl : b = B := Bool.eq_iff_iff.2 (hb.trans hB.symm)
  exact ⟨rfl, hw⟩
theorem ref5_RightB {w : World} {v0 v1 v2 v3 : Value} {p : Pd} {zs : List (Qd × Value)} {B : Bool} (H : PolD w v0 v1 v2 v3 p zs) (hle : LeP p 40 40) (hl : p.l.length ≤ 30) (hg : p.g.length ≤ 30) (hh : p.h.length ≤ 30) (hq : p.q.length ≤ 30) (hB : B = true ↔ RightD p) :
    Calls Tryz.prog 20 #[pv v0 v1 v2 v3] w fun e w' => e = .returned (.bool B) ∧ Below w.heap.size w w' := by
  have hm : ∀ z ∈ zs, z.1 ∈ p.q := fun z hz => by rw [← H.z]; exact List.mem_map_of_mem hz
  refine (ref5_RightL v0 v1 v2 v3 p.l p.g p.h (zs.map qz) w (H.at (hle.mono (by decide) (Nat.le_refl _))) hl hg hh (by rw [H.qlen]; exact hq) (fun x hx => hle.l x hx) (FAt w) (H.who hle (Nat.le_refl _)) (fun q hq s hs => by
    obtain ⟨z, hz, rfl⟩ := List.mem_map.1 hq
    rw [H.F z hz] at hs
    have := hle.qs _ (hm z hz) s hs
    omega)).mono ?_
  rintro e w1 ⟨⟨b, rfl, hb⟩, hw⟩
  obtain rfl : b = B := Bool.eq_iff_iff.2 ((hb.trans (rightD_iff H.z H.F (by omega) (by omega) (by omega))).trans hB.symm)
  exact ⟨rfl, hw⟩
theorem PrintR.eq {p : Pd} {e : Ending} {T : ByteArray} (h : PrintR p e) (h1 : RightD p → T = textP p) (h2 : ¬ RightD p → T = emp) : e = .returned (.string T) := by
  obtain ⟨t, rfl, a, b⟩ := h
  by_cases hr : RightD p
  · rw [a hr, h1 hr]
  · rw [b hr, h2 hr]
def RetRow (L : List ByteArray) (w : World) (e : Ending) (w' : World) : Prop := ∃ v, e = .returned v ∧ SlA w' 1 v L.length (strs L) ∧ Below w.heap.size w w'
set_option maxRecDepth 100000 in
set_option maxHeartbeats 8000000 in
theorem law5_PolicyRight (v0 v1 v2 v3 u0 u1 u2 u3 : Value) (l : List St) (g h : List Rl) (qs : List Qv) (l1 : List St) (g1 h1 : List Rl) (qs1 : List Qv) (w : World) (hg : Gl w) (hp : PolAt w v0 v1 v2 v3 l g h qs) (hp1 : PolAt w u0 u1 u2 u3 l1 g1 h1 qs1) :
    Calls Tryz.prog 8 #[pv v0 v1 v2 v3, pv u0 u1 u2 u3] w fun e w' => e = .returned (.bool true) ∧ Below w.heap.size w w' := by
  have HL := Lib.hid (fun W (hb : Below w.heap.size w W) => law5_lives W (hg.below hb))
  have HLt := Lib.hid (fun W (hb : Below w.heap.size w W) => law5_LightU v0 v1 v2 v3 l g h qs W (hp.below hb))
  have HLu := Lib.hid (fun W (hb : Below w.heap.size w W) => law5_LightU u0 u1 u2 u3 l1 g1 h1 qs1 W (hp1.below hb))
  obtain ⟨zs, hz1, hz2⟩ := hp.give
  have HZ := Lib.hid hz1
  have EZ := Lib.hid hz2
  obtain ⟨zs1, hy1, hy2⟩ := hp1.give
  have HY := Lib.hid hy1
  have HPA := Lib.hid hp
  clear hz1 hz2 hy1 hy2
  obtain ⟨a0, c0, rfl⟩ := hp.rs.form
  obtain ⟨a1, c1, rfl⟩ := hp.rg.form
  obtain ⟨a2, c2, rfl⟩ := hp.rh.form
  obtain ⟨a3, c3, rfl⟩ := hp.rq.form
  obtain ⟨b0, d0, rfl⟩ := hp1.rs.form
  obtain ⟨b1, d1, rfl⟩ := hp1.rg.form
  obtain ⟨b2, d2, rfl⟩ := hp1.rh.form
  obtain ⟨b3, d3, rfl⟩ := hp1.rq.form
  clear hg hp hp1
  have HT := Lib.hid (TwoAt.new w #[.slice a0 l.length c0, .slice a1 g.length c1, .slice a2 h.length c2, .slice a3 qs.length c3] #[.slice b0 l1.length d0, .slice b1 g1.length d1, .slice b2 h1.length d2, .slice b3 qs1.length d3] 26 26)
  go_enter Tryz.func8, Tryz.ntmps8
  go_wp2_with fail
  have HZ8 := Lib.hid (HZ.out.below HT.out.low)
  refine (HLt.out _ HT.out.low).mono ?_
  rintro e w2 ⟨⟨bL, rfl, hbL⟩, hb2⟩
  have HT2 := Lib.hid (HT.out.later hb2)
  clear hb2 HT HLt
  have HT := HT2
  clear HT2
  cases bL with
  | false =>
    clear hbL
    obtain ⟨ca, fa, za⟩ := HT.out.a
    obtain ⟨cb, fb, zb⟩ := HT.out.b
    go_wp2_with fail
    clear ca fa za cb fb zb
    refine (HL.out _ HT.out.low).mono ?_
    rintro e wz ⟨rfl, hbz⟩
    have HT := Lib.hid (HT.out.later hbz)
    clear hbz
    go_wp2
    go_ret
    exact ⟨rfl, HT.out.low⟩
  | true =>
    obtain ⟨⟨l30, g30, h30, q30, l40, qU⟩, gh⟩ := hbL rfl
    have LE := Lib.hid (leP_light HZ8.out l40 (by rw [EZ.out]; exact qU) gh)
    have q30' : (zs.map (·.1)).length ≤ 30 := by rw [List.length_map, ← List.length_map (f := qz), EZ.out]; exact q30
    clear hbL l40 qU gh HZ8
    obtain ⟨ca, fa, za⟩ := HT.out.a
    obtain ⟨cb, fb, zb⟩ := HT.out.b
    go_wp2_with fail
    clear ca fa za cb fb zb
    refine (HLu.out _ HT.out.low).mono ?_
    rintro e w3 ⟨⟨bM, rfl, _⟩, hb3⟩
    have HT := Lib.hid (HT.out.later hb3)
    clear hb3 HLu
    cases bM with
    | false =>
      obtain ⟨ca, fa, za⟩ := HT.out.a
      obtain ⟨cb, fb, zb⟩ := HT.out.b
      go_wp2_with fail
      clear ca fa za cb fb zb
      refine (HL.out _ HT.out.low).mono ?_
      rintro e wz ⟨rfl, hbz⟩
      have HT := Lib.hid (HT.out.later hbz)
      clear hbz
      go_wp2
      go_ret
      exact ⟨rfl, HT.out.low⟩
    | true =>
      obtain ⟨RB, hRB⟩ : ∃ B : Bool, B = true ↔ RightD ⟨l, g, h, zs.map (·.1)⟩ := by classical exact ⟨decide (RightD ⟨l, g, h, zs.map (·.1)⟩), by simp⟩
      obtain ⟨TX, hT1, hT2⟩ : ∃ T : ByteArray, (RightD ⟨l, g, h, zs.map (·.1)⟩ → T = textP ⟨l, g, h, zs.map (·.1)⟩) ∧ (¬ RightD ⟨l, g, h, zs.map (·.1)⟩ → T = emp) := by
        by_cases hr : RightD ⟨l, g, h, zs.map (·.1)⟩
        · exact ⟨_, fun _ => rfl, fun h => absurd hr h⟩
        · exact ⟨_, fun h => absurd h hr, fun _ => rfl⟩
      have CR1 := Lib.hid (fun W (hb : Below w.heap.size w W) => policy_RightB (HZ.out.below hb) LE.out l30 g30 h30 q30' hRB)
      have CR2 := Lib.hid (fun W (hb : Below w.heap.size w W) => ref5_RightB (HZ.out.below hb) LE.out l30 g30 h30 q30' hRB)
      have CF1 := Lib.hid (fun W (hb : Below w.heap.size w W) => policy_FitsD (.slice a0 l.length c0) (.slice a1 g.length c1) (.slice a2 h.length c2) (.slice a3 qs.length c3) ⟨l, g, h, zs.map (·.1)⟩ zs W (HZ.out.below hb) (LE.out.mono (by decide) (Nat.le_refl _)) (show (zs.map (·.1)).length ≤ 100 by omega))
      have CF2 := Lib.hid (fun W (hb : Below w.heap.size w W) => ref5_FitsD (.slice a0 l.length c0) (.slice a1 g.length c1) (.slice a2 h.length c2) (.slice a3 qs.length c3) ⟨l, g, h, zs.map (·.1)⟩ zs W (HZ.out.below hb) (LE.out.mono (by decide) (Nat.le_refl _)) (show (zs.map (·.1)).length ≤ 100 by omega))
      have CP1 := Lib.hid (fun W (hb : Below w.heap.size w W) => (policy_Print (.slice a0 l.length c0) (.slice a1 g.length c1) (.slice a2 h.length c2) (.slice a3 qs.length c3) ⟨l, g, h, zs.map (·.1)⟩ zs W (HZ.out.below hb) (LE.out.mono (by decide) (Nat.le_refl _)) (show l.length ≤ 80 by omega) (show g.length ≤ 40 by omega) (show h.length ≤ 40 by omega) (show (zs.map (·.1)).length ≤ 100 by omega)).mono (fun _ _ hh => (⟨hh.1.eq hT1 hT2, hh.2⟩ : _ ∧ _)))
      have CP2 := Lib.hid (fun W (hb : Below w.heap.size w W) => (ref5_Print (.slice a0 l.length c0) (.slice a1 g.length c1) (.slice a2 h.length c2) (.slice a3 qs.length c3) ⟨l, g, h, zs.map (·.1)⟩ zs W (HZ.out.below hb) LE.out l30 g30 h30 q30').mono (fun _ _ hh => (⟨hh.1.eq hT1 hT2, hh.2⟩ : _ ∧ _)))
      have CS1 := Lib.hid (fun W (hb : Below w.heap.size w W) => policy_Same _ _ _ _ _ _ _ _ ⟨l, g, h, zs.map (·.1)⟩ ⟨l1, g1, h1, zs1.map (·.1)⟩ zs zs1 W (HZ.out.below hb) (HY.out.below hb))
      have CS2 := Lib.hid (fun W (hb : Below w.heap.size w W) => ref5_SameD _ _ _ _ _ _ _ _ ⟨l, g, h, zs.map (·.1)⟩ ⟨l1, g1, h1, zs1.map (·.1)⟩ zs zs1 W (HZ.out.below hb) (HY.out.below hb))
      have CN1 := Lib.hid (fun W (hb : Below w.heap.size w W) => policy_Normal (.slice a0 l.length c0) (.slice a1 g.length c1) (.slice a2 h.length c2) (.slice a3 qs.length c3) ⟨l, g, h, zs.map (·.1)⟩ zs W (HZ.out.below hb) (show l.length ≤ 1000 by omega) (show g.length ≤ 1000 by omega) (show h.length ≤ 1000 by omega) (show (zs.map (·.1)).length ≤ 1000 by omega) (fun q hq => Nat.le_trans (LE.out.qn q hq) (by decide)))
      have CN2 := Lib.hid (fun W (hb : Below w.heap.size w W) => ref5_Normal (.slice a0 l.length c0) (.slice a1 g.length c1) (.slice a2 h.length c2) (.slice a3 qs.length c3) ⟨l, g, h, zs.map (·.1)⟩ zs W (HZ.out.below hb) (show l.length ≤ 1000 by omega) (show g.length ≤ 1000 by omega) (show h.length ≤ 1000 by omega))
      have CS3 := Lib.hid (fun x0 x1 x2 x3 y0 y1 y2 y3 us ys W (h1 : PolD W x0 x1 x2 x3 (normD ⟨l, g, h, zs.map (·.1)⟩) us) (h2 : PolD W y0 y1 y2 y3 (normD ⟨l, g, h, zs.map (·.1)⟩) ys) => ref5_SameD x0 x1 x2 x3 y0 y1 y2 y3 _ _ us ys W h1 h2)
      rw [sameD_iff.2 (rfl : normD ⟨l, g, h, zs.map (·.1)⟩ = normD ⟨l, g, h, zs.map (·.1)⟩)] at CS3
      have WH := Lib.hid (HZ.out.who LE.out (Nat.le_refl _))
      rw [EZ.out] at WH
      have CA1 := Lib.hid (fun W (hb : Below w.heap.size w W) => (policy_Prins (.slice a0 l.length c0) (.slice a1 g.length c1) (.slice a2 h.length c2) (.slice a3 qs.length c3) l g h qs W (HPA.out.below hb) (by omega) (by omega) (by omega) (by omega) (FAt w) (WH.out.below hb)).mono (fun (e : Ending) (w' : World) ⟨v, he, ho, _, hb'⟩ => (⟨v, he, (Sl.of_own ho).a, hb'⟩ : RetRow (newB (allPrins l g h qs (FAt w))) W e w')))
      have CA2 := Lib.hid (fun W (hb : Below w.heap.size w W) => (ref5_PrinsO (.slice a0 l.length c0) (.slice a1 g.length c1) (.slice a2 h.length c2) (.slice a3 qs.length c3) l g h qs W (HPA.out.below hb) (by omega) (by omega) (by omega) (by omega) (FAt w) (WH.out.below hb)).mono (fun (e : Ending) (w' : World) ⟨v, he, ho, hb'⟩ => (⟨v, he, (Sl.of_own ho.1.1).a, hb'⟩ : RetRow (newB (allPrins l g h qs (FAt w))) W e w')))
      have CB1 := Lib.hid (fun W (hb : Below w.heap.size w W) => (policy_Names (.slice a0 l.length c0) (.slice a1 g.length c1) (.slice a2 h.length c2) (.slice a3 qs.length c3) l g h qs W (HPA.out.below hb) (by omega) (by omega) (by omega) (by omega)).mono (fun (e : Ending) (w' : World) ⟨v, he, ho, _, hb'⟩ => (⟨v, he, (Sl.of_own ho).a, hb'⟩ : RetRow (newB (allNames l g h qs)) W e w')))
      have CB2 := Lib.hid (fun W (hb : Below w.heap.size w W) => (ref5_NamesO (.slice a0 l.length c0) (.slice a1 g.length c1) (.slice a2 h.length c2) (.slice a3 qs.length c3) l g h qs W (HPA.out.below hb) (by omega) (by omega) (by omega) (by omega)).mono (fun (e : Ending) (w' : World) ⟨v, he, ho, hb'⟩ => (⟨v, he, (Sl.of_own ho.1.1).a, hb'⟩ : RetRow (newB (allNames l g h qs)) W e w')))
      have S1 := Lib.hid (fun va vb L W (ha : SlA W 1 va L.length (strs L)) (hb : SlA W 1 vb L.length (strs L)) => ref1_SameB va vb L W ha hb)
      generalize fitsD ⟨l, g, h, zs.map (·.1)⟩ = FB at CF1 CF2
      generalize sameD ⟨l, g, h, zs.map (·.1)⟩ ⟨l1, g1, h1, zs1.map (·.1)⟩ = SB at CS1 CS2
      generalize normD ⟨l, g, h, zs.map (·.1)⟩ = NP at CN1 CN2 CS3
      generalize newB (allPrins l g h qs (FAt w)) = PL at CA1 CA2
      generalize newB (allNames l g h qs) = NL at CB1 CB2
      have f1 : (RB != RB) = false := bne_self_eq_false RB
      have f2 : (FB != FB) = false := bne_self_eq_false FB
      have f3 : (SB != SB) = false := bne_self_eq_false SB
      have f4 : (TX.toList != TX.toList) = false := by simp
      have f6 : (RB == RB) = true := beq_self_eq_true RB
      have f7 : (FB == FB) = true := beq_self_eq_true FB
      have f8 : (SB == SB) = true := beq_self_eq_true SB
      have f9 : (TX.toList == TX.toList) = true := beq_self_eq_true TX.toList
      clear hRB hT1 hT2 LE HZ HY EZ WH HPA l30 g30 h30 q30 q30'
      go_upto_region 3 with fail
      have HT := HT.out
      refine wp_region_held_drew (S := (fun W => (∀ o, W.cell? ⟨w.heap.size, o, none⟩ = (#[.slice a0 l.length c0, .slice a1 g.length c1, .slice a2 h.length c2, .slice a3 qs.length c3] : Array Value)[o]?) ∧ (∀ o, W.cell? ⟨w.heap.size + 1, o, none⟩ = (#[.slice b0 l1.length d0, .slice b1 g1.length d1, .slice b2 h1.length d2, .slice b3 qs1.length d3] : Array Value)[o]?))) (by kernel_rfl) ⟨HT.drew.a.1, HT.drew.b.1⟩ (fun hHeld => ?_)
      have HT := HT.drew
      obtain ⟨wk0, hwk⟩ : ∃ W, W = w3.drew := ⟨_, rfl⟩
      rw [← hwk] at HT hHeld ⊢
      clear hwk
      (refine hyes 0 ?_); (refine hyes 2 ?_); (try simp only [Act.put, List.setIfInBounds_toArray, List.set])
      (refine held_call 1 rfl (by kernel_rfl) (fun K hK => ?_); go_simp)
      go_at_call 31; refine (CR1.out _ HT.low).mono ?_; rintro e wq1 ⟨rfl, hbq⟩; have HT := HT.later hbq; clear hbq
      (refine hK.out _ _ (⟨HT.a.1, HT.b.1⟩) (fun hHeld => ?_); clear hK K; (try simp only [Act.put, List.setIfInBounds_toArray, List.set]))
      (refine held_call 3 rfl (by kernel_rfl) (fun K hK => ?_); go_simp)
      go_at_call 20; refine (CR2.out _ HT.low).mono ?_; rintro e wq2 ⟨rfl, hbq⟩; have HT := HT.later hbq; clear hbq
      (refine hK.out _ _ (⟨HT.a.1, HT.b.1⟩) (fun hHeld => ?_); clear hK K; (try simp only [Act.put, List.setIfInBounds_toArray, List.set]))
      (refine hyes 4 ?_); (refine hyes 5 ?_); (refine hyes 6 ?_); (refine hyes 8 ?_); (try simp only [Act.put, List.setIfInBounds_toArray, List.set])
      (refine held_call 7 rfl (by kernel_rfl) (fun K hK => ?_); go_simp)
      go_at_call 33; refine (CF1.out _ HT.low).mono ?_; rintro e wq3 ⟨rfl, hbq⟩; have HT := HT.later hbq; clear hbq
      (refine hK.out _ _ (⟨HT.a.1, HT.b.1⟩) (fun hHeld => ?_); clear hK K; (try simp only [Act.put, List.setIfInBounds_toArray, List.set]))
      (refine held_call 9 rfl (by kernel_rfl) (fun K hK => ?_); go_simp)
      go_at_call 34; refine (CF2.out _ HT.low).mono ?_; rintro e wq4 ⟨rfl, hbq⟩; have HT := HT.later hbq; clear hbq
      (refine hK.out _ _ (⟨HT.a.1, HT.b.1⟩) (fun hHeld => ?_); clear hK K; (try simp only [Act.put, List.setIfInBounds_toArray, List.set]))
      (refine hyes 10 ?_); (refine hyes 11 ?_); (refine hyes 12 ?_); (refine hyes 13 ?_); (refine hyes 15 ?_); (try simp only [Act.put, List.setIfInBounds_toArray, List.set])
      (refine held_call 14 rfl (by kernel_rfl) (fun K hK => ?_); go_simp)
      go_at_call 30; refine (CP1.out _ HT.low).mono ?_; rintro e wq5 ⟨rfl, hbq⟩; have HT := HT.later hbq; clear hbq
      (refine hK.out _ _ (⟨HT.a.1, HT.b.1⟩) (fun hHeld => ?_); clear hK K; (try simp only [Act.put, List.setIfInBounds_toArray, List.set]))
      (refine held_call 16 rfl (by kernel_rfl) (fun K hK => ?_); go_simp)
      go_at_call 35; refine (CP2.out _ HT.low).mono ?_; rintro e wq6 ⟨rfl, hbq⟩; have HT := HT.later hbq; clear hbq
      (refine hK.out _ _ (⟨HT.a.1, HT.b.1⟩) (fun hHeld => ?_); clear hK K; (try simp only [Act.put, List.setIfInBounds_toArray, List.set]))
      (refine hyes 17 ?_); (refine hyes 18 ?_); (refine hyes 19 ?_); (refine hyes 20 ?_); (refine hyes 21 ?_); (refine hyes 23 ?_); (refine hyes 24 ?_); (try simp only [Act.put, List.setIfInBounds_toArray, List.set])
      (refine held_call 22 rfl (by kernel_rfl) (fun K hK => ?_); go_simp)
      go_at_call 32; refine (CS1.out _ HT.low).mono ?_; rintro e wq7 ⟨rfl, hbq⟩; have HT := HT.later hbq; clear hbq
      (refine hK.out _ _ (⟨HT.a.1, HT.b.1⟩) (fun hHeld => ?_); clear hK K; (try simp only [Act.put, List.setIfInBounds_toArray, List.set]))
      (refine held_call 25 rfl (by kernel_rfl) (fun K hK => ?_); go_simp)
      go_at_call 26; refine (CS2.out _ HT.low).mono ?_; rintro e wq8 ⟨rfl, hbq⟩; have HT := HT.later hbq; clear hbq
      (refine hK.out _ _ (⟨HT.a.1, HT.b.1⟩) (fun hHeld => ?_); clear hK K; (try simp only [Act.put, List.setIfInBounds_toArray, List.set]))
      (refine hyes 26 ?_); (refine hyes 27 ?_); (try simp only [Act.put, List.setIfInBounds_toArray, List.set])
      refine wpAnyH_done (by kernel_rfl) ?_ _
      have HT := Lib.hid HT
      clear CR1 CR2 CF1 CF2 CP1 CP2 CS1 CS2 f1 f2 f3 f4 f6 f7 f8 f9
      obtain ⟨wd, hwd⟩ : ∃ X, X = wq8 := ⟨_, rfl⟩
      rw [← hwd] at HT ⊢
      clear hwd
      go_upto_region 5 with fail
      have HT := HT.out
      refine wp_region_held_drew (S := (fun W => (∀ o, W.cell? ⟨w.heap.size, o, none⟩ = (#[.slice a0 l.length c0, .slice a1 g.length c1, .slice a2 h.length c2, .slice a3 qs.length c3] : Array Value)[o]?) ∧ (∀ o, W.cell? ⟨w.heap.size + 1, o, none⟩ = (#[.slice b0 l1.length d0, .slice b1 g1.length d1, .slice b2 h1.length d2, .slice b3 qs1.length d3] : Array Value)[o]?))) (by kernel_rfl) ⟨HT.drew.a.1, HT.drew.b.1⟩ (fun hHeld => ?_)
      have HT := HT.drew
      obtain ⟨wk0, hwk⟩ : ∃ W, W = wd.drew := ⟨_, rfl⟩
      rw [← hwk] at HT hHeld ⊢
      clear hwk
      (refine hyes 0 ?_); (refine hyes 2 ?_); (try simp only [Act.put, List.setIfInBounds_toArray, List.set])
      (refine held_call 1 rfl (by kernel_rfl) (fun K hK => ?_); go_simp)
      go_at_call 36; refine (CN1.out _ HT.low).mono ?_; rintro e wq9 ⟨⟨u0, u1, u2, u3, us, rfl, hn⟩, hbq⟩; have HT := HT.later hbq; have HN1 := Lib.hid hn; clear hn; clear hbq
      (refine hK.out _ _ (⟨HT.a.1, HT.b.1⟩) (fun hHeld => ?_); clear hK K; (try simp only [Act.put, List.setIfInBounds_toArray, List.set]))
      (refine held_call 3 rfl (by kernel_rfl) (fun K hK => ?_); go_simp)
      go_at_call 37; refine (CN2.out _ HT.low).mono ?_; rintro e wq10 ⟨⟨y0, y1, y2, y3, ys, rfl, hn⟩, hbq⟩; have HT := HT.later hbq; have HN1 := Lib.hid (HN1.out.below hbq); have HN2 := Lib.hid hn; clear hn; clear hbq
      (refine hK.out _ _ (⟨HT.a.1, HT.b.1⟩) (fun hHeld => ?_); clear hK K; (try simp only [Act.put, List.setIfInBounds_toArray, List.set]))
      (refine held_call 4 rfl (by kernel_rfl) (fun K hK => ?_); go_simp)
      go_at_call 26; refine (CS3.out _ _ _ _ _ _ _ _ _ _ _ HN1.out HN2.out).mono ?_; rintro e wq11 ⟨rfl, hbq⟩; have HT := HT.later hbq; clear hbq
      (refine hK.out _ _ (⟨HT.a.1, HT.b.1⟩) (fun hHeld => ?_); clear hK K; (try simp only [Act.put, List.setIfInBounds_toArray, List.set]))
      clear HN1 HN2
      (refine hyes 5 ?_); (refine hyes 6 ?_); (refine hyes 8 ?_); (try simp only [Act.put, List.setIfInBounds_toArray, List.set])
      (refine held_call 7 rfl (by kernel_rfl) (fun K hK => ?_); go_simp)
      go_at_call 38; refine (CA1.out _ HT.low).mono ?_; rintro e wq12 ⟨x, rfl, hn, hbq⟩; have HT := HT.later hbq; have HN1 := Lib.hid hn; clear hn; clear hbq
      (refine hK.out _ _ (⟨HT.a.1, HT.b.1⟩) (fun hHeld => ?_); clear hK K; (try simp only [Act.put, List.setIfInBounds_toArray, List.set]))
      (refine held_call 9 rfl (by kernel_rfl) (fun K hK => ?_); go_simp)
      go_at_call 39; refine (CA2.out _ HT.low).mono ?_; rintro e wq13 ⟨y, rfl, hn, hbq⟩; have HT := HT.later hbq; have HN1 := Lib.hid (HN1.out.below hbq); have HN2 := Lib.hid hn; clear hn; clear hbq
      (refine hK.out _ _ (⟨HT.a.1, HT.b.1⟩) (fun hHeld => ?_); clear hK K; (try simp only [Act.put, List.setIfInBounds_toArray, List.set]))
      (refine held_call 10 rfl (by kernel_rfl) (fun K hK => ?_); go_simp)
      go_at_call 13; refine (S1.out _ _ _ _ HN1.out HN2.out).mono ?_; rintro e wq14 ⟨rfl, hbq⟩; have HT := HT.later hbq; clear hbq
      (refine hK.out _ _ (⟨HT.a.1, HT.b.1⟩) (fun hHeld => ?_); clear hK K; (try simp only [Act.put, List.setIfInBounds_toArray, List.set]))
      clear HN1 HN2
      (refine hyes 11 ?_); (refine hyes 12 ?_); (refine hyes 13 ?_); (refine hyes 15 ?_); (try simp only [Act.put, List.setIfInBounds_toArray, List.set])
      (refine held_call 14 rfl (by kernel_rfl) (fun K hK => ?_); go_simp)
      go_at_call 40; refine (CB1.out _ HT.low).mono ?_; rintro e wq15 ⟨x, rfl, hn, hbq⟩; have HT := HT.later hbq; have HN1 := Lib.hid hn; clear hn; clear hbq
      (refine hK.out _ _ (⟨HT.a.1, HT.b.1⟩) (fun hHeld => ?_); clear hK K; (try simp only [Act.put, List.setIfInBounds_toArray, List.set]))
      (refine held_call 16 rfl (by kernel_rfl) (fun K hK => ?_); go_simp)
      go_at_call 41; refine (CB2.out _ HT.low).mono ?_; rintro e wq16 ⟨y, rfl, hn, hbq⟩; have HT := HT.later hbq; have HN1 := Lib.hid (HN1.out.below hbq); have HN2 := Lib.hid hn; clear hn; clear hbq
      (refine hK.out _ _ (⟨HT.a.1, HT.b.1⟩) (fun hHeld => ?_); clear hK K; (try simp only [Act.put, List.setIfInBounds_toArray, List.set]))
      (refine held_call 17 rfl (by kernel_rfl) (fun K hK => ?_); go_simp)
      go_at_call 13; refine (S1.out _ _ _ _ HN1.out HN2.out).mono ?_; rintro e wq17 ⟨rfl, hbq⟩; have HT := HT.later hbq; clear hbq
      (refine hK.out _ _ (⟨HT.a.1, HT.b.1⟩) (fun hHeld => ?_); clear hK K; (try simp only [Act.put, List.setIfInBounds_toArray, List.set]))
      clear HN1 HN2
      (refine hyes 18 ?_); (refine hyes 19 ?_); (try simp only [Act.put, List.setIfInBounds_toArray, List.set])
      (refine held_call 20 rfl (by kernel_rfl) (fun K hK => ?_); go_simp)
      go_at_call 23; refine (HL.out _ HT.low).mono ?_; rintro e wq18 ⟨rfl, hbq⟩; have HT := HT.later hbq; clear hbq
      (refine hK.out _ _ (⟨HT.a.1, HT.b.1⟩) (fun hHeld => ?_); clear hK K; (try simp only [Act.put, List.setIfInBounds_toArray, List.set]))
      (refine hyes 21 ?_); (refine hyes 22 ?_); (try simp only [Act.put, List.setIfInBounds_toArray, List.set])
      refine wpAnyH_done (by kernel_rfl) ?_ _
      have HT := Lib.hid HT
      go_wp2
      go_ret
      exact ⟨rfl, HT.out.low⟩
end Go.Proofs.YtnhkgfgbhedphaaGreatDoor
namespace Go.Proofs.YtnhkgfgbhedphaaGreatDoor
open Go.ChangeShapes Go.WideShapes Go.ChangeAt Go.RowKit

section
variable {H : Type} {enc : TypeId × Value → H} {w : World} {base fuel n : Nat} {sp : Nat → Bool} {held : Bool} {cs : List Value} {x : DataW H × List MemPlace} {v : Value} {d : DataW H} {ps : List MemPlace}
def dStr (H : Type) (s : ByteArray) : DataW H := .lit (.string s.data.toList)
def dRl (H : Type) (r : Rl) : DataW H := .agg [dStr H r.o, dStr H r.n]
def dSt (H : Type) (s : St) : DataW H := .agg [.lit (.int .i64 s.k), dRl H s.h, dStr H s.who, dRl H s.a, dRl H s.b, dStr H s.via]
def St.fits (s : St) : Prop := s.le maxLen ∧ (Lit.int IntKind.i64 s.k).wf = true

theorem two_of (h : cs.length = 2) : ∃ a b, cs = [a, b] := by
  match cs, h with
  | [a, b], _ => exact ⟨a, b, rfl⟩
theorem trod_role (h : DataW.trod enc Tryz.prog w base sp held fuel 54 cs = some x) : ∃ r : Rl, cs = r.cells ∧ x = (dRl H r, []) ∧ r.le maxLen := by
  obtain ⟨xs, n, _, rfl, hl, hlen, hf⟩ := DataW.trod_struct Tryz.underlying54 h
  have hc : Tryz.prog.cellsOf 54 = 2 := by kernel_rfl
  have hs : Tryz.prog.cellsOf 9 = 1 := by kernel_rfl
  rw [hc] at hl
  obtain ⟨a, b, rfl⟩ := two_of hl
  have f0 : DataW.trod enc Tryz.prog w base sp held n 9 [a] = xs[0]? := by simpa [hs] using hf 0 _ rfl
  have f1 : DataW.trod enc Tryz.prog w base sp held n 9 [b] = xs[1]? := by simpa [hs] using hf 1 _ rfl
  match xs, hlen with
  | [y0, y1], _ =>
    simp only [List.getElem?_cons_zero, List.getElem?_cons_succ] at f0 f1
    obtain ⟨s0, e0, g0, l0⟩ := DataW.trod_string Tryz.underlying9 f0
    obtain ⟨s1, e1, g1, l1⟩ := DataW.trod_string Tryz.underlying9 f1
    simp only [List.cons.injEq, and_true] at e0 e1
    subst e0 e1 g0 g1
    exact ⟨⟨s0, s1⟩, rfl, rfl, l0, l1⟩
theorem nine_of (h : cs.length = 9) : ∃ a b c d e f g i j, cs = [a, b, c, d, e, f, g, i, j] := by
  match cs, h with
  | [a, b, c, d, e, f, g, i, j], _ => exact ⟨a, b, c, d, e, f, g, i, j, rfl⟩
theorem trod_stmt (h : DataW.trod enc Tryz.prog w base sp held fuel 63 cs = some x) : ∃ s : St, cs = s.cells ∧ x = (dSt H s, []) ∧ s.fits := by
  obtain ⟨xs, n, _, rfl, hl, hlen, hf⟩ := DataW.trod_struct Tryz.underlying63 h
  have hc : Tryz.prog.cellsOf 63 = 9 := by kernel_rfl
  have hr : Tryz.prog.cellsOf 54 = 2 := by kernel_rfl
  have hi : Tryz.prog.cellsOf 3 = 1 := by kernel_rfl
  have hs : Tryz.prog.cellsOf 9 = 1 := by kernel_rfl
  rw [hc] at hl
  obtain ⟨c0, c1, c2, c3, c4, c5, c6, c7, c8, rfl⟩ := nine_of hl
  have f0 : DataW.trod enc Tryz.prog w base sp held n 3 [c0] = xs[0]? := by simpa [hi] using hf 0 _ rfl
  have f1 : DataW.trod enc Tryz.prog w base sp held n 54 [c1, c2] = xs[1]? := by simpa [hr] using hf 1 _ rfl
  have f2 : DataW.trod enc Tryz.prog w base sp held n 9 [c3] = xs[2]? := by simpa [hs] using hf 2 _ rfl
  have f3 : DataW.trod enc Tryz.prog w base sp held n 54 [c4, c5] = xs[3]? := by simpa [hr] using hf 3 _ rfl
  have f4 : DataW.trod enc Tryz.prog w base sp held n 54 [c6, c7] = xs[4]? := by simpa [hr] using hf 4 _ rfl
  have f5 : DataW.trod enc Tryz.prog w base sp held n 9 [c8] = xs[5]? := by simpa [hs] using hf 5 _ rfl
  match xs, hlen with
  | [y0, y1, y2, y3, y4, y5], _ =>
    simp only [List.getElem?_cons_zero, List.getElem?_cons_succ] at f0 f1 f2 f3 f4 f5
    obtain ⟨k, e0, g0, l0⟩ := DataW.trod_int Tryz.underlying3 f0
    obtain ⟨r1, e1, g1, l1⟩ := trod_role f1
    obtain ⟨s2, e2, g2, l2⟩ := DataW.trod_string Tryz.underlying9 f2
    obtain ⟨r3, e3, g3, l3⟩ := trod_role f3
    obtain ⟨r4, e4, g4, l4⟩ := trod_role f4
    obtain ⟨s5, e5, g5, l5⟩ := DataW.trod_string Tryz.underlying9 f5
    simp only [Rl.cells, List.cons.injEq, and_true] at e0 e1 e2 e3 e4 e5
    obtain ⟨rfl, rfl⟩ := e1
    obtain ⟨rfl, rfl⟩ := e3
    obtain ⟨rfl, rfl⟩ := e4
    subst e0 e2 e5 g0 g1 g2 g3 g4 g5
    exact ⟨⟨k, r1, s2, r3, r4, s5⟩, rfl, rfl, ⟨l1, l2, l3, l4, l5⟩, l0⟩
end
end Go.Proofs.YtnhkgfgbhedphaaGreatDoor
namespace Go.Proofs.YtnhkgfgbhedphaaGreatDoor
open Go.ChangeShapes Go.WideShapes Go.ChangeAt Go.RowKit Go.Deep

theorem laid_out : laidOutB Tryz.prog = true := by kernel_rfl
end Go.Proofs.YtnhkgfgbhedphaaGreatDoor
namespace Go.Proofs.YtnhkgfgbhedphaaGreatDoor
open Go.ChangeShapes Go.WideShapes Go.ChangeAt Go.RowKit Go.Deep

section
variable {H : Type} {enc : TypeId × Value → H} {w : World} {base : Nat} {held : Bool}
theorem open_rowOf {α : Type} [Inhabited α] (cells : α → List Value) (k : Nat) (hk : 0 < k) (hlen : ∀ x, (cells x).length = k) {t e : TypeId} (ht : Tryz.prog.underlying t = some (.slice e)) (hc : Tryz.prog.cellsOf e = k) (p : α → Prop)
    (each : ∀ n cs y, DataW.trod enc Tryz.prog w base (fun _ => true) held n e cs = some y → ∃ x : α, cs = cells x ∧ p x) {fuel : Nat} {c : Value} {y : DataW H × List MemPlace}
    (hf : DataW.trod enc Tryz.prog w base (fun _ => true) held fuel t [c] = some y) : ∃ l : List α, SlA w k c l.length (l.flatMap cells) ∧ ∀ x ∈ l, p x := by
  rcases open_slice ht hf with ⟨hcs, _⟩ | ⟨a, len, cap, m, n, D, Pl, hcs, _, hl, hm, hmm, _, hx⟩
  · simp only [List.cons.injEq, and_true] at hcs
    subst hcs
    exact ⟨[], (Sl.nil _ _).a, fun s hs => by cases hs⟩
  · simp only [List.cons.injEq, and_true] at hcs
    subst hcs
    simp only [if_true] at hmm
    subst hmm
    rw [hc] at hx
    have hex : ∀ i, i < m → ∃ s : α, w.cells? base (a.add (i * k)) k = some (cells s) ∧ p s := by
      intro i hi
      obtain ⟨cs', h1, h2⟩ := hx i hi
      obtain ⟨s, rfl, hs⟩ := each _ _ _ h2
      exact ⟨s, h1, hs⟩
    obtain ⟨S, hS⟩ := choose_lt hex
    obtain ⟨b, off, spot⟩ := a
    by_cases h0 : 0 < len
    · have hk0 : 0 < (cells (S 0)).length := by rw [hlen]; exact hk
      have c0 := (World.cells?_some (hS 0 (by omega)).1).2.2 0 hk
      rw [List.getElem?_eq_getElem hk0] at c0
      have hspot : spot = none := by simpa [Addr.add] using World.cell?_spot c0
      subst hspot
      have hlenl : ((List.range len).map S).length = len := by simp
      have hcell : ∀ j u, (((List.range len).map S).flatMap cells)[j]? = some u → w.cell? ⟨b, off + j, none⟩ = some u := by
        intro j u hu
        have hj : j < len * k := by
          have := (List.getElem?_eq_some_iff.1 hu).1
          rwa [flat_len cells k hlen, hlenl] at this
        have hf9 : j % k < k := Nat.mod_lt _ hk
        have hi : j / k < len := Nat.div_lt_of_lt_mul (by rwa [Nat.mul_comm])
        have e : j = j / k * k + j % k := by rw [Nat.mul_comm]; exact (Nat.div_add_mod j k).symm
        rw [e, flat_get cells k hlen _ (j / k) (j % k) hf9 (S (j / k)) (by simp [hi])] at hu
        have h1 := (World.cells?_some (hS (j / k) (by omega)).1).2.2 (j % k) hf9
        rw [add_add, add_plain, ← e] at h1
        exact h1.trans hu
      refine ⟨(List.range len).map S, .inl ?_, fun s hs => ?_⟩
      · rw [hlenl]
        refine ⟨by rw [flat_len cells k hlen, hlenl], by omega, .inr ⟨b, off, m, rfl, hl, hm, ?_, hcell⟩⟩
        rw [add_add, add_plain] at c0
        exact World.block_lt_of_cell? _ _ c0
      · obtain ⟨i, hi, rfl⟩ := List.mem_map.1 hs
        exact (hS i (by have := List.mem_range.1 hi; omega)).2
    · have hl0 : len = 0 := by omega
      subst hl0
      exact ⟨[], .inr ⟨⟨_, _, rfl⟩, rfl, rfl⟩, fun s hs => by cases hs⟩

theorem maxLen_eq : maxLen = 9223372036854775807 := by decide
theorem le_max {s : St} (h : s.fits) : s.le 9223372036854775807 := by have := h.1; rwa [maxLen_eq] at this
theorem rle_max {r : Rl} (h : r.le maxLen) : r.le 9223372036854775807 := by rwa [maxLen_eq] at h
instance : Inhabited Rl := ⟨noR⟩
theorem open_stsC {fuel : Nat} {c : Value} {y : DataW H × List MemPlace} (hf : DataW.trod enc Tryz.prog w base (fun _ => true) held fuel 22 [c] = some y) :
    ∃ l : List St, SlA w 9 c l.length (l.flatMap St.cells) ∧ allLe l 9223372036854775807 :=
  open_rowOf St.cells 9 (by decide) St.cells_len Tryz.underlying22 (by kernel_rfl) (fun s => s.le 9223372036854775807)
    (fun _ _ _ h => by obtain ⟨s, e, _, hs⟩ := trod_stmt h; exact ⟨s, e, le_max hs⟩) hf
theorem open_rls {fuel : Nat} {c : Value} {y : DataW H × List MemPlace} (hf : DataW.trod enc Tryz.prog w base (fun _ => true) held fuel 23 [c] = some y) :
    ∃ l : List Rl, SlA w 2 c l.length (l.flatMap Rl.cells) ∧ ∀ x ∈ l, x.le 9223372036854775807 :=
  open_rowOf Rl.cells 2 (by decide) Rl.cells_len Tryz.underlying23 (by kernel_rfl) (fun s => s.le 9223372036854775807)
    (fun _ _ _ h => by obtain ⟨s, e, _, hs⟩ := trod_role h; exact ⟨s, e, rle_max hs⟩) hf
theorem strs_flat (l : List ByteArray) : (l.flatMap fun s => [Value.string s]) = strs l := by
  induction l with
  | nil => rfl
  | cons a r ih => rw [List.flatMap_cons, ih]; rfl
theorem open_strsC {fuel : Nat} {c : Value} {y : DataW H × List MemPlace} (hf : DataW.trod enc Tryz.prog w base (fun _ => true) held fuel 27 [c] = some y) :
    ∃ l : List ByteArray, SlA w 1 c l.length (strs l) ∧ ∀ x ∈ l, x.size ≤ 9223372036854775807 := by
  obtain ⟨l, h1, h2⟩ := open_rowOf (fun s : ByteArray => [Value.string s]) 1 (by decide) (fun _ => rfl) Tryz.underlying27 (by kernel_rfl) (fun s => s.size ≤ 9223372036854775807)
    (fun _ cs _ h => by obtain ⟨s, e, _, hs⟩ := DataW.trod_string Tryz.underlying9 h; exact ⟨s, e, by rwa [maxLen_eq] at hs⟩) hf
  exact ⟨l, by rwa [strs_flat] at h1, h2⟩

theorem six_of {cs : List Value} (h : cs.length = 6) : ∃ a b c d e f, cs = [a, b, c, d, e, f] := by
  match cs, h with
  | [a, b, c, d, e, f], _ => exact ⟨a, b, c, d, e, f, rfl⟩
theorem trod_query {fuel : Nat} {cs : List Value} {x : DataW H × List MemPlace} (h : DataW.trod enc Tryz.prog w base (fun _ => true) held fuel 66 cs = some x) : ∃ q : Qv, cs = q.cells ∧ q.ok w := by
  obtain ⟨xs, n, _, rfl, hl, hlen, hf⟩ := DataW.trod_struct Tryz.underlying66 h
  have hc : Tryz.prog.cellsOf 66 = 6 := by kernel_rfl
  have hr : Tryz.prog.cellsOf 54 = 2 := by kernel_rfl
  have hi : Tryz.prog.cellsOf 3 = 1 := by kernel_rfl
  have hs : Tryz.prog.cellsOf 27 = 1 := by kernel_rfl
  rw [hc] at hl
  obtain ⟨c0, c1, c2, c3, c4, c5, rfl⟩ := six_of hl
  have f0 : DataW.trod enc Tryz.prog w base (fun _ => true) held n 3 [c0] = xs[0]? := by simpa [hi] using hf 0 _ rfl
  have f1 : DataW.trod enc Tryz.prog w base (fun _ => true) held n 54 [c1, c2] = xs[1]? := by simpa [hr] using hf 1 _ rfl
  have f2 : DataW.trod enc Tryz.prog w base (fun _ => true) held n 54 [c3, c4] = xs[2]? := by simpa [hr] using hf 2 _ rfl
  have f3 : DataW.trod enc Tryz.prog w base (fun _ => true) held n 27 [c5] = xs[3]? := by simpa [hs] using hf 3 _ rfl
  match xs, hlen with
  | [y0, y1, y2, y3], _ =>
    simp only [List.getElem?_cons_zero, List.getElem?_cons_succ] at f0 f1 f2 f3
    obtain ⟨k, e0, _, _⟩ := DataW.trod_int Tryz.underlying3 f0
    obtain ⟨r1, e1, _, l1⟩ := trod_role f1
    obtain ⟨r2, e2, _, l2⟩ := trod_role f2
    obtain ⟨ss, s3, l3⟩ := open_strsC f3
    simp only [Rl.cells, List.cons.injEq, and_true] at e0 e1 e2
    obtain ⟨rfl, rfl⟩ := e1
    obtain ⟨rfl, rfl⟩ := e2
    subst e0
    exact ⟨⟨k, r1, r2, c5⟩, rfl, rle_max l1, rle_max l2, ss, s3, l3⟩
theorem open_qs {fuel : Nat} {c : Value} {y : DataW H × List MemPlace} (hf : DataW.trod enc Tryz.prog w base (fun _ => true) held fuel 24 [c] = some y) :
    ∃ l : List Qv, SlA w 6 c l.length (l.flatMap Qv.cells) ∧ ∀ x ∈ l, x.ok w :=
  open_rowOf Qv.cells 6 (by decide) Qv.cells_len Tryz.underlying24 (by kernel_rfl) (fun q => q.ok w) (fun _ _ _ h => trod_query h) hf
theorem four_of {cs : List Value} (h : cs.length = 4) : ∃ a b c d, cs = [a, b, c, d] := by
  match cs, h with
  | [a, b, c, d], _ => exact ⟨a, b, c, d, rfl⟩
set_option maxRecDepth 100000 in
theorem open_pol {r : Reach} {b0 : Nat} {v : Value} {d : DataW H} {ps : List MemPlace} (hval : Value.okWide Tryz.prog w r b0 26 v) (hd : DataW.Trod enc Tryz.prog w base (fun _ => true) held 26 v d ps) :
    ∃ v0 v1 v2 v3 l g h qs, v = pv v0 v1 v2 v3 ∧ PolAt w v0 v1 v2 v3 l g h qs := by
  obtain ⟨cs, rfl, _⟩ := okWide_struct Tryz.underlying26 hval
  obtain ⟨fuel, hf⟩ := hd
  obtain ⟨xs, n, _, _, hl, hlen, hf'⟩ := DataW.trod_struct Tryz.underlying26 hf
  have hc : Tryz.prog.cellsOf 26 = 4 := by kernel_rfl
  have h0 : Tryz.prog.cellsOf 22 = 1 := by kernel_rfl
  have h1 : Tryz.prog.cellsOf 23 = 1 := by kernel_rfl
  have h2 : Tryz.prog.cellsOf 24 = 1 := by kernel_rfl
  rw [hc] at hl
  obtain ⟨c0, c1, c2, c3, hcs⟩ := four_of hl
  rw [hcs] at hf'
  have f0 : DataW.trod enc Tryz.prog w base (fun _ => true) held n 22 [c0] = xs[0]? := by simpa [h0] using hf' 0 _ rfl
  have f1 : DataW.trod enc Tryz.prog w base (fun _ => true) held n 23 [c1] = xs[1]? := by simpa [h1] using hf' 1 _ rfl
  have f2 : DataW.trod enc Tryz.prog w base (fun _ => true) held n 23 [c2] = xs[2]? := by simpa [h1] using hf' 2 _ rfl
  have f3 : DataW.trod enc Tryz.prog w base (fun _ => true) held n 24 [c3] = xs[3]? := by simpa [h2] using hf' 3 _ rfl
  match xs, hlen with
  | [y0, y1, y2, y3], _ =>
    simp only [List.getElem?_cons_zero, List.getElem?_cons_succ] at f0 f1 f2 f3
    obtain ⟨l, s0, l0⟩ := open_stsC f0
    obtain ⟨g, s1, l1⟩ := open_rls f1
    obtain ⟨h, s2, l2⟩ := open_rls f2
    obtain ⟨qs, s3, l3⟩ := open_qs f3
    refine ⟨c0, c1, c2, c3, l, g, h, qs, ?_, ⟨s0, s1, s2, s3, l0, l1, l2, l3⟩⟩
    obtain ⟨cl⟩ := cs
    simp only [Value.cells] at hcs
    have : cl = [c0, c1, c2, c3] := by simpa using hcs
    rw [this]
end
end Go.Proofs.YtnhkgfgbhedphaaGreatDoor
