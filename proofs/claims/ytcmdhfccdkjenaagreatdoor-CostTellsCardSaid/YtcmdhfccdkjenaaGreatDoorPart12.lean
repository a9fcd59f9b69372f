/- crupperref01.Put, crupperref05.Prins, Names: the rows that are returned are the calls' own (turned by gen_owns.py). crupperref05.SortRoles: the row that is returned is the call's own (turned out of RlSort by gen_owns.py). crupperref12.Fresh, Prins, Roles, Maximal (printed by gen_ref12.py). The document's example of layer 11. The statement LowTells: the walk of the law. crupperlaw12.small; how much a policy's states can tell. simple.Decide: the walk (printed by gen_simdecide.py). simple.Decide, by the least state (printed by gen_simdecide.py). simple.Decide (printed by gen_simdecide.py). simple.Decide, where the policy or the query may not be (printed by gen_simdecidee.py). sem.Bound; no model takes more steps. -/
import Derived.Test.YtcmdhfccdkjenaaGreatDoorPart6
import Derived.Test.YtcmdhfccdkjenaaGreatDoorPart11
import Derived.Test.YtcmdhfccdkjenaaGreatDoorPart5
import Derived.Test.YtcmdhfccdkjenaaGreatDoorPart7
namespace Go.Proofs.YtcmdhfccdkjenaaGreatDoor
open Go.RowKit Go.Shelf

set_option maxRecDepth 100000 in
set_option maxHeartbeats 4000000 in
theorem ref1_PutO (va : Value) (l : List ByteArray) (s : ByteArray) (w : World) (ha : SlA w 1 va l.length (strs l)) (hn : l.length ≤ 100000) :
    Calls Tryz.prog 91 #[va, .string s] w fun e w' => ∃ v, e = .returned v ∧ ((v = va ∧ insSB l s = l) ∨ w'.ownsRow w.heap.size 9 1 v (insSB l s).length (strs (insSB l s))) ∧ Below w.heap.size w w' := by
  have HA := Lib.hid ha
  have HH := Lib.hid (ref1_HasB va l s w ha)
  have IY := Lib.hid (fun h => insS_hasB (l := l) (x := s) h)
  have IN := Lib.hid (fun h => insS_notB (l := l) (x := s) h)
  have NE := Lib.hid (fun (h : hasB l s = false) k (hk : k < l.length) => show ¬ l[k] = s from fun e => absurd (hasB_yes hk e) (by rw [h]; exact Bool.false_ne_true))
  generalize hasB l s = b at HH IY IN NE
  have hmax := ha.max
  obtain ⟨ao, cap, hva⟩ := ha.form
  subst hva
  clear ha
  go_enter Tryz.func91, Tryz.ntmps91
  go_wp2_with fail
  refine HH.out.mono ?_
  rintro e w1 ⟨rfl, rfl⟩
  cases b with
  | true =>
    go_wp2
    go_ret
    exact ⟨_, rfl, .inl ⟨rfl, IY.out (by first | rfl | trivial)⟩, Below.refl _ _⟩
  | false =>
    obtain ⟨wA, hwA⟩ : ∃ wA, wA = w1 := ⟨_, rfl⟩
    subst hwA
    have INS := Lib.hid (IN.out rfl)
    have NEQ := Lib.hid (NE.out rfl)
    clear IY IN NE
    go_wp2_with fail
    go_loopw [5, 6, 15] (fun vo dv i wr => ∃ (k : Nat) (d : Bool) (ss : List ByteArray), k ≤ l.length ∧ i = .int .i64 k ∧ dv = .bool d ∧ Hid (PutI l s k d ss) ∧ Hid (Below wA.heap.size wA wr) ∧ Hid (wr.ownsRow wA.heap.size 9 1 vo ss.length (strs ss))) (fun _ _ i _ => l.length - (intOf i).toNat)
    case atStart => exact ⟨0, false, [], by omega, rfl, rfl, Lib.hid (PutI.start l s), Lib.hid (Below.refl _ _), Lib.hid (World.ownsRow_nil _ _ _ _)⟩
    case round =>
      obtain ⟨k, d, ss, hk, rfl, rfl, HC, HB, HO⟩ := hrel
      obtain ⟨oo, oc, rfl⟩ := own_form HO.out
      have hss : ss.length ≤ 100002 := by have := HC.out.len; omega
      by_cases hlt : k < l.length
      · obtain ⟨b1, o1, c1, he1, hc1, hm1, hb1, hx1⟩ := HA.out.pos (by omega)
        simp only [Value.slice.injEq, true_and] at he1
        obtain ⟨rfl, rfl⟩ := he1
        have p0 := (HB.out.cell (p := ⟨b1, o1 + k, none⟩) hb1).trans (hx1 k _ (strs_get hlt))
        have hbr : b1 < wr.heap.size := Nat.lt_of_lt_of_le hb1 HB.out.size
        have PY := Lib.hid (fun (h : PutI l s k true ss) => h.yes hlt)
        have PN := Lib.hid (fun (h : PutI l s k false ss) e => h.no hlt (NEQ.out k hlt) e)
        have PP := Lib.hid (fun (h : PutI l s k false ss) e => h.put hlt e)
        clear hx1
        generalize l[k] = x at *
        cases d with
        | true =>
          have HC' := HC.out
          have hown := HO.out
          go_wp2_with (at_builtin; refine halt_ ?_)
          unfold Halt_
          refine app_own Tryz.underlying38 str_info rfl (by decide) (by decide) rfl _ _ rfl wA.heap.size rfl (hown.alloc _) [.string x] rfl (heap_new1 _ _) rfl (str1 _) ?_ ?_ ?_
          · omega
          · have := HB.out.size; simp; omega
          intro a' cap' w3 hown' hgrow
          obtain ⟨q1, q2⟩ := own_push (x := x) HB.out hown hown' hgrow
          have HO1 := Lib.hid q1
          have HB1 := Lib.hid q2
          clear hown hown' hgrow q1 q2
          go_wp2_with fail
          exact ⟨⟨k + 1, true, ss ++ [x], by omega, by go_num, rfl, Lib.hid (PY.out HC'), HB1, HO1⟩, by simp [intOf]; omega⟩
        | false =>
          have HC' := HC.out
          cases hbl : Op.bytesLess s.toList x.toList with
          | false =>
            have hown := HO.out
            go_wp2_with (at_builtin; refine halt_ ?_)
            unfold Halt_
            refine app_own Tryz.underlying38 str_info rfl (by decide) (by decide) rfl _ _ rfl wA.heap.size rfl (hown.alloc _) [.string x] rfl (heap_new1 _ _) rfl (str1 _) ?_ ?_ ?_
            · omega
            · have := HB.out.size; simp; omega
            intro a' cap' w3 hown' hgrow
            obtain ⟨q1, q2⟩ := own_push (x := x) HB.out hown hown' hgrow
            have HO1 := Lib.hid q1
            have HB1 := Lib.hid q2
            clear hown hown' hgrow q1 q2
            go_wp2_with fail
            exact ⟨⟨k + 1, false, ss ++ [x], by omega, by go_num, rfl, Lib.hid (PN.out HC' hbl), HB1, HO1⟩, by simp [intOf]; omega⟩
          | true =>
            have hown := HO.out
            go_wp2_with (at_builtin; refine halt_ ?_)
            unfold Halt_
            refine app_own Tryz.underlying38 str_info rfl (by decide) (by decide) rfl _ _ rfl wA.heap.size rfl (hown.alloc _) [.string s] rfl (heap_new1 _ _) rfl (str1 _) ?_ ?_ ?_
            · omega
            · have := HB.out.size; simp; omega
            intro a' cap' w3 hown' hgrow
            obtain ⟨q1, q2⟩ := own_push (x := s) HB.out hown hown' hgrow
            have HO1 := Lib.hid q1
            have HB1 := Lib.hid q2
            clear hown hown' hgrow q1 q2
            have hown := HO1.out
            go_wp2_with (at_builtin; refine halt_ ?_)
            unfold Halt_
            refine app_own Tryz.underlying38 str_info rfl (by decide) (by decide) rfl _ _ rfl wA.heap.size rfl (hown.alloc _) [.string x] rfl (heap_new1 _ _) rfl (str1 _) ?_ ?_ ?_
            · (simp only [List.length_append, List.length_cons, List.length_nil]; omega)
            · have := HB1.out.size; simp; omega
            intro a' cap' w3 hown' hgrow
            obtain ⟨q1, q2⟩ := own_push (x := x) HB1.out hown hown' hgrow
            have HO2 := Lib.hid q1
            have HB2 := Lib.hid q2
            clear hown hown' hgrow q1 q2
            go_wp2_with fail
            refine ⟨⟨k + 1, true, ss ++ [s] ++ [x], by omega, by go_num, rfl, Lib.hid (PP.out HC' hbl), HB2, Lib.hid (by have h := HO2.out; rw [show (ss ++ [s]).length + 1 = ss.length + 1 + 1 by simp] at h; exact h)⟩, by simp [intOf]; omega⟩
      · cases d with
        | true =>
          have HC' := HC.out
          have HSL := Lib.hid (Sl.of_own HO.out).a
          have HSO := Lib.hid (HO.out)
          go_wp2
          go_ret
          exact ⟨_, rfl, .inr (by rw [INS.out, ← HC'.endT (by omega)]; exact HSO.out), HB.out⟩
        | false =>
          have HC' := HC.out
          have hown := HO.out
          go_wp2_with (at_builtin; refine halt_ ?_)
          unfold Halt_
          refine app_own Tryz.underlying38 str_info rfl (by decide) (by decide) rfl _ _ rfl wA.heap.size rfl (hown.alloc _) [.string s] rfl (heap_new1 _ _) rfl (str1 _) ?_ ?_ ?_
          · omega
          · have := HB.out.size; simp; omega
          intro a' cap' w3 hown' hgrow
          obtain ⟨q1, q2⟩ := own_push (x := s) HB.out hown hown' hgrow
          have HO1 := Lib.hid q1
          have HB1 := Lib.hid q2
          clear hown hown' hgrow q1 q2
          have HSL := Lib.hid (Sl.of_own HO1.out).a
          have HSO := Lib.hid (HO1.out)
          go_wp2
          go_ret
          exact ⟨_, rfl, .inr (by rw [INS.out, ← HC'.endF (by omega)]; exact HSO.out), HB1.out⟩

/-- A value is the call's own row, in order, each once, of these at most n texts. -/
def NewO (B : Nat) (w : World) (v : Value) (xs : List ByteArray) (n : Nat) : Prop := (w.ownsRow B 9 1 v (newB xs).length (strs (newB xs)) ∧ xs.length ≤ n) ∧ B ≤ w.heap.size
theorem NewO.below {B : Nat} {w w' : World} {v : Value} {xs : List ByteArray} {n : Nat} (h : NewO B w v xs n) (hb : Below w.heap.size w w') : NewO B w' v xs n := ⟨⟨own_below h.1.1 hb, h.1.2⟩, Nat.le_trans h.2 hb.size⟩
theorem NewO.mono {B : Nat} {w : World} {v : Value} {xs : List ByteArray} {n m : Nat} (h : NewO B w v xs n) (hm : n ≤ m) : NewO B w v xs m := ⟨⟨h.1.1, Nat.le_trans h.1.2 hm⟩, h.2⟩
theorem NewO.nil (B : Nat) (w : World) (hB : B ≤ w.heap.size) : NewO B w (.slice none 0 0) [] 0 := ⟨⟨World.ownsRow_nil _ _ _ _, Nat.le_refl _⟩, hB⟩
theorem NewO.eq {B : Nat} {w : World} {v : Value} {xs ys : List ByteArray} {n : Nat} (h : NewO B w v xs n) (e : ys = xs) : NewO B w v ys n := by rw [e]; exact h
theorem put_newO (B : Nat) (v : Value) (n : Nat) (xs : List ByteArray) (s : ByteArray) (w : World) (h : NewO B w v xs n) (hn : n ≤ 100000) :
    Calls Tryz.prog 91 #[v, .string s] w fun e w' => ∃ v', e = .returned v' ∧ NewO B w' v' (xs ++ [s]) (n + 1) ∧ Below w.heap.size w w' := by
  refine (ref1_PutO v (newB xs) s w (Sl.of_own h.1.1).a (Nat.le_trans (new_len xs) (Nat.le_trans h.1.2 hn))).mono ?_
  rintro e w' ⟨v', he, hr, hb⟩
  refine ⟨v', he, ⟨⟨?_, by rw [List.length_append]; exact Nat.succ_le_succ h.1.2⟩, Nat.le_trans h.2 hb.size⟩, hb⟩
  rw [new_snoc]
  rcases hr with ⟨rfl, e1⟩ | hr
  · rw [e1]; exact own_below h.1.1 hb
  · exact own_mono hr h.2
set_option maxRecDepth 100000 in
set_option maxHeartbeats 8000000 in
theorem ref5_PrinsO (v0 v1 v2 v3 : Value) (l : List St) (g h : List Rl) (qs : List Qv) (w : World) (hp : PolAt w v0 v1 v2 v3 l g h qs) (hl : l.length ≤ 100) (hg : g.length ≤ 100) (hh : h.length ≤ 100) (hq : qs.length ≤ 100) (F : Qv → List ByteArray) (hF : WhoF w qs F) :
    Calls Tryz.prog 45 #[pv v0 v1 v2 v3] w fun e w' => ∃ v, e = .returned v ∧ NewO w.heap.size w' v (allPrins l g h qs F) 10000 ∧ Below w.heap.size w w' := by
  have HP := Lib.hid hp
  have HR := Lib.hid (fun W (hb : Below w.heap.size w W) => ref5_RolesL v0 v1 v2 v3 l g h qs W (hp.below hb) hl hg hh hq)
  have HQ4 := Lib.hid hF
  obtain ⟨a0, c0, rfl⟩ := hp.rs.form
  obtain ⟨a1, c1, rfl⟩ := hp.rg.form
  obtain ⟨a2, c2, rfl⟩ := hp.rh.form
  obtain ⟨a3, c3, rfl⟩ := hp.rq.form
  have HT := Lib.hid (show OneAt w #[.slice a0 l.length c0, .slice a1 g.length c1, .slice a2 h.length c2, .slice a3 qs.length c3] (w.alloc (.cells #[.slice a0 l.length c0, .slice a1 g.length c1, .slice a2 h.length c2, .slice a3 qs.length c3] 26)) from ⟨Blk.new w _ _, (Below.refl _ _).alloc (Nat.le_refl _) _⟩)
  clear hp hF
  go_enter Tryz.func45, Tryz.ntmps45
  go_wp2_with fail
  refine (HR.out _ HT.out.low).mono ?_
  rintro e w1 ⟨vr, rfl, hr1, hr2, hr3, hb1⟩
  have HT := Lib.hid (HT.out.later hb1)
  have HRES := Lib.hid (show allPrins l g h qs F = ((allRoles l g h qs).map Rl.o ++ l.flatMap whoS) ++ qs.flatMap F from rfl)
  generalize allRoles l g h qs = rs at *
  have HRS := Lib.hid hr1
  have HRL := Lib.hid hr3
  obtain ⟨ro, rc, rfl⟩ := hr1.form
  clear hb1 hr1 hr3
  go_wp2_with fail
  go_loopw [3, 15] (fun vo i wr => ∃ (k : Nat) (vx : Value), k ≤ rs.length ∧ vx = vo ∧ i = .int .i64 k ∧ Hid (NewO w.heap.size wr vx ((rs.take k).map Rl.o) k) ∧ Hid (OneAt w #[.slice a0 l.length c0, .slice a1 g.length c1, .slice a2 h.length c2, .slice a3 qs.length c3] wr) ∧ Hid (Below w1.heap.size w1 wr)) (fun _ i _ => rs.length - (intOf i).toNat)
  case atStart => exact ⟨0, _, by omega, rfl, rfl, Lib.hid (NewO.nil _ _ HT.out.low.size), HT, Lib.hid (Below.refl _ _)⟩
  case round =>
    clear HT
    obtain ⟨k, vx, hk, rfl, rfl, HO, HT, HB⟩ := hrel
    by_cases hlt : k < rs.length
    · obtain ⟨b1, o1, e1, he1, hc1, hm1', hb1, hx1⟩ := HRS.out.pos (by omega)
      simp only [Value.slice.injEq, true_and] at he1
      obtain ⟨rfl, rfl⟩ := he1
      obtain ⟨p0, p1⟩ := rl_cell (w := wr) (fun j u hu => (HB.out.cell (p := ⟨b1, o1 + j, none⟩) hb1).trans (hx1 j u hu)) k hlt
      have hbr : b1 < wr.heap.size := Nat.lt_of_lt_of_le hb1 HB.out.size
      have HF := Lib.hid (take_snoc hlt)
      clear hx1
      generalize rs[k] = x at *
      obtain ⟨x1, x2⟩ := x
      have hba : Below wr.heap.size wr (wr.alloc (.cells #[.string x1, .string x2] 28)) := (Below.refl _ _).alloc (Nat.le_refl _) _
      have PC := Lib.hid (put_newO w.heap.size vx k _ x1 _ (HO.out.below hba) (by omega))
      have HT2 := Lib.hid (HT.out.later hba)
      have HB2 := Lib.hid (HB.out.trans (hba.mono HB.out.size))
      clear hba
      go_wp2_with fail
      refine PC.out.mono ?_
      rintro e w3 ⟨vz, rfl, hr, hb3⟩
      have HR3 := Lib.hid hr
      have HT3 := Lib.hid (HT2.out.later hb3)
      have HB3 := Lib.hid (HB2.out.trans (hb3.mono HB2.out.size))
      clear hr hb3
      go_wp2
      exact ⟨⟨k + 1, _, by omega, rfl, by go_num, Lib.hid (HR3.out.eq (by rw [HF.out, List.map_append]; rfl)), HT3, HB3⟩, by simp [intOf]; omega⟩
    · obtain ⟨ca, fa, za⟩ := HT.out.a
      have HO := Lib.hid ((HO.out.mono (show k ≤ 1000 by omega)).eq (ys := rs.map Rl.o) (by rw [List.take_of_length_le (show rs.length ≤ k by omega)]))
      clear HB HRS HRL hk
      go_wp2_with fail
      clear ca fa za
      go_loopw [3, 27] (fun vo i wr => ∃ (k : Nat) (vx : Value), k ≤ l.length ∧ vx = vo ∧ i = .int .i64 k ∧ Hid (NewO w.heap.size wr vx (rs.map Rl.o ++ (l.take k).flatMap whoS) (1000 + k)) ∧ Hid (OneAt w #[.slice a0 l.length c0, .slice a1 g.length c1, .slice a2 h.length c2, .slice a3 qs.length c3] wr)) (fun _ i _ => l.length - (intOf i).toNat)
      case atStart => exact ⟨0, _, by omega, rfl, rfl, Lib.hid (HO.out.eq (by simp)), HT⟩
      case round =>
        clear HT HO
        obtain ⟨k, vx, hk, rfl, rfl, HO, HT⟩ := hrel
        by_cases hlt : k < l.length
        · obtain ⟨b1, o1, e1, he1, hc1, hm1', hb1, hx1⟩ := HP.out.rs.pos (by omega)
          simp only [Value.slice.injEq, true_and] at he1
          obtain ⟨rfl, rfl⟩ := he1
          obtain ⟨p0, p1, p2, p3, p4, p5, p6, p7, p8⟩ := st_cell (w := wr) (fun j u hu => (HT.out.low.cell (p := ⟨b1, o1 + j, none⟩) hb1).trans (hx1 j u hu)) k hlt
          have hbr : b1 < wr.heap.size := Nat.lt_of_lt_of_le hb1 HT.out.low.size
          have HF := Lib.hid (flat_snocF whoS hlt)
          clear hx1
          generalize l[k] = x at *
          obtain ⟨xk, ⟨x1, x2⟩, xw, ⟨x3, x4⟩, ⟨x5, x6⟩, xv⟩ := x
          have hba : Below wr.heap.size wr (wr.alloc (.cells #[.int .i64 xk, .string x1, .string x2, .string xw, .string x3, .string x4, .string x5, .string x6, .string xv] 35)) := (Below.refl _ _).alloc (Nat.le_refl _) _
          have PC := Lib.hid (put_newO w.heap.size vx (1000 + k) _ xw _ (HO.out.below hba) (by omega))
          have HT2 := Lib.hid (HT.out.later hba)
          have HO2 := Lib.hid (HO.out.below hba)
          clear hba
          by_cases hkk : xk = 1
          · have d1 : (xk == 1) = true := by simp [hkk]
            have HK := Lib.hid (show whoS ⟨xk, ⟨x1, x2⟩, xw, ⟨x3, x4⟩, ⟨x5, x6⟩, xv⟩ = [xw] from if_pos hkk)
            clear hkk
            go_wp2_with fail
            refine PC.out.mono ?_
            rintro e w3 ⟨vz, rfl, hr, hb3⟩
            have HR3 := Lib.hid hr
            have HT3 := Lib.hid (HT2.out.later hb3)
            clear hr hb3
            go_wp2
            exact ⟨⟨k + 1, _, by omega, rfl, by go_num, Lib.hid (HR3.out.eq (by rw [HF.out, HK.out, List.append_assoc])), HT3⟩, by simp [intOf]; omega⟩
          · have d1 : (xk == 1) = false := by simp [hkk]
            have HK := Lib.hid (show whoS ⟨xk, ⟨x1, x2⟩, xw, ⟨x3, x4⟩, ⟨x5, x6⟩, xv⟩ = [] from if_neg hkk)
            clear hkk
            go_wp2
            exact ⟨⟨k + 1, _, by omega, rfl, by go_num, Lib.hid ((HO2.out.mono (by omega)).eq (by rw [HF.out, HK.out, List.append_nil])), HT2⟩, by simp [intOf]; omega⟩
        · obtain ⟨ca, fa, za⟩ := HT.out.a
          have HO := Lib.hid ((HO.out.mono (show 1000 + k ≤ 1100 by omega)).eq (ys := rs.map Rl.o ++ l.flatMap whoS) (by rw [List.take_of_length_le (show l.length ≤ k by omega)]))
          clear hk
          go_wp2_with fail
          clear ca fa za
          go_loopw [3, 42] (fun vo i wr => ∃ (k : Nat) (vx : Value), k ≤ qs.length ∧ vx = vo ∧ i = .int .i64 k ∧ Hid (NewO w.heap.size wr vx (rs.map Rl.o ++ l.flatMap whoS ++ (qs.take k).flatMap F) (1100 + 40 * k)) ∧ Hid (OneAt w #[.slice a0 l.length c0, .slice a1 g.length c1, .slice a2 h.length c2, .slice a3 qs.length c3] wr)) (fun _ i _ => qs.length - (intOf i).toNat)
          case atStart => exact ⟨0, _, by omega, rfl, rfl, Lib.hid (HO.out.eq (by simp)), HT⟩
          case round =>
            clear HT HO
            obtain ⟨k, vx, hk, rfl, rfl, HO, HT⟩ := hrel
            by_cases hlt : k < qs.length
            · obtain ⟨b1, o1, e1, he1, hc1, hm1', hb1, hx1⟩ := HP.out.rq.pos (by omega)
              simp only [Value.slice.injEq, true_and] at he1
              obtain ⟨rfl, rfl⟩ := he1
              obtain ⟨p0, p1, p2, p3, p4, p5⟩ := q_cell (w := wr) (fun j u hu => (HT.out.low.cell (p := ⟨b1, o1 + j, none⟩) hb1).trans (hx1 j u hu)) k hlt
              have hbr : b1 < wr.heap.size := Nat.lt_of_lt_of_le hb1 HT.out.low.size
              obtain ⟨hu1, hu2⟩ := HQ4.out _ (List.getElem_mem hlt)
              have HF := Lib.hid (flat_snocF F hlt)
              generalize F qs[k] = us at hu1 hu2 HF
              have HU := Lib.hid hu1
              obtain ⟨wo, wc, hw5⟩ := hu1.form
              clear hx1 hu1
              generalize qs[k] = x at *
              obtain ⟨xk, ⟨x1, x2⟩, ⟨x3, x4⟩, xw⟩ := x
              dsimp only at hw5 HU
              subst hw5
              obtain ⟨nw, hnw⟩ : ∃ nw, nw = us.length := ⟨_, rfl⟩
              have HNW := Lib.hid hnw
              rw [← hnw] at p5 HU hu2
              clear hnw
              have hba : Below wr.heap.size wr (wr.alloc (.cells #[.int .i64 xk, .string x1, .string x2, .string x3, .string x4, .slice wo nw wc] 45)) := (Below.refl _ _).alloc (Nat.le_refl _) _
              have HT2 := Lib.hid (HT.out.later hba)
              have HO2 := Lib.hid (HO.out.below hba)
              clear hba
              go_wp2_with fail
              go_loopw [3, 49] (fun vo i wr => ∃ (j : Nat) (vx : Value), j ≤ nw ∧ vx = vo ∧ i = .int .i64 j ∧ Hid (NewO w.heap.size wr vx (rs.map Rl.o ++ l.flatMap whoS ++ (qs.take k).flatMap F ++ us.take j) (1100 + 40 * k + j)) ∧ Hid (OneAt w #[.slice a0 l.length c0, .slice a1 g.length c1, .slice a2 h.length c2, .slice (some ⟨b1, o1, none⟩) qs.length c3] wr)) (fun _ i _ => nw - (intOf i).toNat)
              case atStart => exact ⟨0, _, by omega, rfl, rfl, Lib.hid (HO2.out.eq (by simp)), HT2⟩
              case round =>
                clear HT HO HT2 HO2
                obtain ⟨j, vx, hj, rfl, rfl, HO, HT⟩ := hrel
                by_cases hlj : j < nw
                · obtain ⟨b1, o1, e1, he1, hc1, hm1', hb1, hx1⟩ := HU.out.pos (by omega)
                  simp only [Value.slice.injEq, true_and] at he1
                  obtain ⟨rfl, rfl⟩ := he1
                  have hju : j < us.length := by have := HNW.out; omega
                  have p0 := (HT.out.low.cell (p := ⟨b1, o1 + j, none⟩) hb1).trans (hx1 j _ (strs_get hju))
                  have hbr : b1 < wr.heap.size := Nat.lt_of_lt_of_le hb1 HT.out.low.size
                  have PC := Lib.hid (put_newO w.heap.size vx (1100 + 40 * k + j) _ us[j] _ HO.out (by omega))
                  have HFJ := Lib.hid (take_snoc hju)
                  clear hx1
                  generalize us[j] = s at *
                  go_wp2_with fail
                  refine PC.out.mono ?_
                  rintro e w3 ⟨vz, rfl, hr, hb3⟩
                  have HR3 := Lib.hid hr
                  have HT3 := Lib.hid (HT.out.later hb3)
                  clear hr hb3
                  go_wp2
                  exact ⟨⟨j + 1, _, by omega, rfl, by go_num, Lib.hid (HR3.out.eq (by rw [HFJ.out]; simp only [List.append_assoc])), HT3⟩, by simp [intOf]; omega⟩
                · have HO3 := Lib.hid ((HO.out.mono (show 1100 + 40 * k + j ≤ 1100 + 40 * (k + 1) by omega)).eq (ys := rs.map Rl.o ++ l.flatMap whoS ++ (qs.take (k + 1)).flatMap F) (by rw [HF.out, List.take_of_length_le (show us.length ≤ j by have := HNW.out; omega)]; simp only [List.append_assoc]))
                  go_wp2
                  exact ⟨⟨k + 1, _, by omega, rfl, by go_num, HO3, HT⟩, by simp [intOf]; omega⟩
            · have HO3 := Lib.hid ((HO.out.mono (show 1100 + 40 * k ≤ 10000 by omega)).eq (ys := allPrins l g h qs F) (by rw [HRES.out, List.take_of_length_le (show qs.length ≤ k by omega)]))
              go_wp2
              go_ret
              exact ⟨_, rfl, HO3.out, HT.out.low⟩

set_option maxRecDepth 100000 in
set_option maxHeartbeats 8000000 in
theorem ref5_NamesO (v0 v1 v2 v3 : Value) (l : List St) (g h : List Rl) (qs : List Qv) (w : World) (hp : PolAt w v0 v1 v2 v3 l g h qs) (hl : l.length ≤ 100) (hg : g.length ≤ 100) (hh : h.length ≤ 100) (hq : qs.length ≤ 100)  :
    Calls Tryz.prog 46 #[pv v0 v1 v2 v3] w fun e w' => ∃ v, e = .returned v ∧ NewO w.heap.size w' v (allNames l g h qs) 10000 ∧ Below w.heap.size w w' := by
  have HP := Lib.hid hp
  have HR := Lib.hid (fun W (hb : Below w.heap.size w W) => ref5_RolesL v0 v1 v2 v3 l g h qs W (hp.below hb) hl hg hh hq)
  obtain ⟨a0, c0, rfl⟩ := hp.rs.form
  obtain ⟨a1, c1, rfl⟩ := hp.rg.form
  obtain ⟨a2, c2, rfl⟩ := hp.rh.form
  obtain ⟨a3, c3, rfl⟩ := hp.rq.form
  have HT := Lib.hid (show OneAt w #[.slice a0 l.length c0, .slice a1 g.length c1, .slice a2 h.length c2, .slice a3 qs.length c3] (w.alloc (.cells #[.slice a0 l.length c0, .slice a1 g.length c1, .slice a2 h.length c2, .slice a3 qs.length c3] 26)) from ⟨Blk.new w _ _, (Below.refl _ _).alloc (Nat.le_refl _) _⟩)
  clear hp 
  go_enter Tryz.func46, Tryz.ntmps46
  go_wp2_with fail
  refine (HR.out _ HT.out.low).mono ?_
  rintro e w1 ⟨vr, rfl, hr1, hr2, hr3, hb1⟩
  have HT := Lib.hid (HT.out.later hb1)
  have HRES := Lib.hid (show allNames l g h qs = ((allRoles l g h qs).map Rl.n ++ l.flatMap viaS)  from rfl)
  generalize allRoles l g h qs = rs at *
  have HRS := Lib.hid hr1
  have HRL := Lib.hid hr3
  obtain ⟨ro, rc, rfl⟩ := hr1.form
  clear hb1 hr1 hr3
  go_wp2_with fail
  go_loopw [3, 11] (fun vo i wr => ∃ (k : Nat) (vx : Value), k ≤ rs.length ∧ vx = vo ∧ i = .int .i64 k ∧ Hid (NewO w.heap.size wr vx ((rs.take k).map Rl.n) k) ∧ Hid (OneAt w #[.slice a0 l.length c0, .slice a1 g.length c1, .slice a2 h.length c2, .slice a3 qs.length c3] wr) ∧ Hid (Below w1.heap.size w1 wr)) (fun _ i _ => rs.length - (intOf i).toNat)
  case atStart => exact ⟨0, _, by omega, rfl, rfl, Lib.hid (NewO.nil _ _ HT.out.low.size), HT, Lib.hid (Below.refl _ _)⟩
  case round =>
    clear HT
    obtain ⟨k, vx, hk, rfl, rfl, HO, HT, HB⟩ := hrel
    by_cases hlt : k < rs.length
    · obtain ⟨b1, o1, e1, he1, hc1, hm1', hb1, hx1⟩ := HRS.out.pos (by omega)
      simp only [Value.slice.injEq, true_and] at he1
      obtain ⟨rfl, rfl⟩ := he1
      obtain ⟨p0, p1⟩ := rl_cell (w := wr) (fun j u hu => (HB.out.cell (p := ⟨b1, o1 + j, none⟩) hb1).trans (hx1 j u hu)) k hlt
      have hbr : b1 < wr.heap.size := Nat.lt_of_lt_of_le hb1 HB.out.size
      have HF := Lib.hid (take_snoc hlt)
      clear hx1
      generalize rs[k] = x at *
      obtain ⟨x1, x2⟩ := x
      have hba : Below wr.heap.size wr (wr.alloc (.cells #[.string x1, .string x2] 28)) := (Below.refl _ _).alloc (Nat.le_refl _) _
      have PC := Lib.hid (put_newO w.heap.size vx k _ x2 _ (HO.out.below hba) (by omega))
      have HT2 := Lib.hid (HT.out.later hba)
      have HB2 := Lib.hid (HB.out.trans (hba.mono HB.out.size))
      clear hba
      go_wp2_with fail
      refine PC.out.mono ?_
      rintro e w3 ⟨vz, rfl, hr, hb3⟩
      have HR3 := Lib.hid hr
      have HT3 := Lib.hid (HT2.out.later hb3)
      have HB3 := Lib.hid (HB2.out.trans (hb3.mono HB2.out.size))
      clear hr hb3
      go_wp2
      exact ⟨⟨k + 1, _, by omega, rfl, by go_num, Lib.hid (HR3.out.eq (by rw [HF.out, List.map_append]; rfl)), HT3, HB3⟩, by simp [intOf]; omega⟩
    · obtain ⟨ca, fa, za⟩ := HT.out.a
      have HO := Lib.hid ((HO.out.mono (show k ≤ 1000 by omega)).eq (ys := rs.map Rl.n) (by rw [List.take_of_length_le (show rs.length ≤ k by omega)]))
      clear HB HRS HRL hk
      go_wp2_with fail
      clear ca fa za
      go_loopw [3, 23] (fun vo i wr => ∃ (k : Nat) (vx : Value), k ≤ l.length ∧ vx = vo ∧ i = .int .i64 k ∧ Hid (NewO w.heap.size wr vx (rs.map Rl.n ++ (l.take k).flatMap viaS) (1000 + k)) ∧ Hid (OneAt w #[.slice a0 l.length c0, .slice a1 g.length c1, .slice a2 h.length c2, .slice a3 qs.length c3] wr)) (fun _ i _ => l.length - (intOf i).toNat)
      case atStart => exact ⟨0, _, by omega, rfl, rfl, Lib.hid (HO.out.eq (by simp)), HT⟩
      case round =>
        clear HT HO
        obtain ⟨k, vx, hk, rfl, rfl, HO, HT⟩ := hrel
        by_cases hlt : k < l.length
        · obtain ⟨b1, o1, e1, he1, hc1, hm1', hb1, hx1⟩ := HP.out.rs.pos (by omega)
          simp only [Value.slice.injEq, true_and] at he1
          obtain ⟨rfl, rfl⟩ := he1
          obtain ⟨p0, p1, p2, p3, p4, p5, p6, p7, p8⟩ := st_cell (w := wr) (fun j u hu => (HT.out.low.cell (p := ⟨b1, o1 + j, none⟩) hb1).trans (hx1 j u hu)) k hlt
          have hbr : b1 < wr.heap.size := Nat.lt_of_lt_of_le hb1 HT.out.low.size
          have HF := Lib.hid (flat_snocF viaS hlt)
          clear hx1
          generalize l[k] = x at *
          obtain ⟨xk, ⟨x1, x2⟩, xw, ⟨x3, x4⟩, ⟨x5, x6⟩, xv⟩ := x
          have hba : Below wr.heap.size wr (wr.alloc (.cells #[.int .i64 xk, .string x1, .string x2, .string xw, .string x3, .string x4, .string x5, .string x6, .string xv] 35)) := (Below.refl _ _).alloc (Nat.le_refl _) _
          have PC := Lib.hid (put_newO w.heap.size vx (1000 + k) _ xv _ (HO.out.below hba) (by omega))
          have HT2 := Lib.hid (HT.out.later hba)
          have HO2 := Lib.hid (HO.out.below hba)
          clear hba
          by_cases hkk : xk = 3
          · have d1 : (xk == 3) = true := by simp [hkk]
            have HK := Lib.hid (show viaS ⟨xk, ⟨x1, x2⟩, xw, ⟨x3, x4⟩, ⟨x5, x6⟩, xv⟩ = [xv] from if_pos hkk)
            clear hkk
            go_wp2_with fail
            refine PC.out.mono ?_
            rintro e w3 ⟨vz, rfl, hr, hb3⟩
            have HR3 := Lib.hid hr
            have HT3 := Lib.hid (HT2.out.later hb3)
            clear hr hb3
            go_wp2
            exact ⟨⟨k + 1, _, by omega, rfl, by go_num, Lib.hid (HR3.out.eq (by rw [HF.out, HK.out, List.append_assoc])), HT3⟩, by simp [intOf]; omega⟩
          · have d1 : (xk == 3) = false := by simp [hkk]
            have HK := Lib.hid (show viaS ⟨xk, ⟨x1, x2⟩, xw, ⟨x3, x4⟩, ⟨x5, x6⟩, xv⟩ = [] from if_neg hkk)
            clear hkk
            go_wp2
            exact ⟨⟨k + 1, _, by omega, rfl, by go_num, Lib.hid ((HO2.out.mono (by omega)).eq (by rw [HF.out, HK.out, List.append_nil])), HT2⟩, by simp [intOf]; omega⟩
        · have HO3 := Lib.hid ((HO.out.mono (show 1000 + k ≤ 10000 by omega)).eq (ys := allNames l g h qs) (by rw [HRES.out, List.take_of_length_le (show l.length ≤ k by omega)]))
          go_wp2
          go_ret
          exact ⟨_, rfl, HO3.out, HT.out.low⟩
end Go.Proofs.YtcmdhfccdkjenaaGreatDoor
namespace Go.Proofs.YtcmdhfccdkjenaaGreatDoor
open Go.RowKit Go.Shelf

end Go.Proofs.YtcmdhfccdkjenaaGreatDoor
namespace Go.Proofs.YtcmdhfccdkjenaaGreatDoor
open Go.RowKit Go.Shelf

section
variable {w : World} {v0 v1 v2 v3 : Value} {l : List St} {g h : List Rl} {qs : List Qv} {F : Qv → List ByteArray} {PS NS : List ByteArray}
theorem ref5_PrinsX (P : PolX w v0 v1 v2 v3 l g h qs F PS NS) : Calls Tryz.prog 45 #[pv v0 v1 v2 v3] w fun e w' => ∃ v, e = .returned v ∧ w'.ownsRow w.heap.size 9 1 v PS.length (strs PS) ∧ Below w.heap.size w w' := by
  refine (ref5_PrinsO v0 v1 v2 v3 l g h qs w P.at_ P.hl P.hg P.hh P.hq F P.hF).mono ?_
  rintro e w' ⟨v, rfl, ⟨⟨h1, _⟩, _⟩, hb⟩
  rw [P.eP] at h1
  exact ⟨v, rfl, h1, hb⟩
theorem ref5_NamesX (P : PolX w v0 v1 v2 v3 l g h qs F PS NS) : Calls Tryz.prog 46 #[pv v0 v1 v2 v3] w fun e w' => ∃ v, e = .returned v ∧ w'.ownsRow w.heap.size 9 1 v NS.length (strs NS) ∧ Below w.heap.size w w' := by
  refine (ref5_NamesO v0 v1 v2 v3 l g h qs w P.at_ P.hl P.hg P.hh P.hq).mono ?_
  rintro e w' ⟨v, rfl, ⟨⟨h1, _⟩, _⟩, hb⟩
  rw [P.eN] at h1
  exact ⟨v, rfl, h1, hb⟩
end
end Go.Proofs.YtcmdhfccdkjenaaGreatDoor
namespace Go.Proofs.YtcmdhfccdkjenaaGreatDoor
open Go.RowKit Go.Shelf

section
variable {w : World} {b1 b2 : Nat}
end
end Go.Proofs.YtcmdhfccdkjenaaGreatDoor
namespace Go.Proofs.YtcmdhfccdkjenaaGreatDoor
open Go.RowKit Go.Shelf

/-- What a light policy that may be gives. -/
structure GoodP (l : List St) (g h : List Rl) (qs : List Qv) (F : Qv → List ByteArray) : Prop where
  right : ∀ s ∈ l, rightS s = true
  ps : (newB (allPrins l g h qs F)).length ≤ 16
  ns : (newB (allNames l g h qs)).length ≤ 12
theorem RightP.good {l : List St} {g h : List Rl} {qs : List Qv} {F : Qv → List ByteArray} (hr : RightP l g h qs F) : GoodP l g h qs F := by
  obtain ⟨h1, _, _, _, _, _, h2⟩ := hr
  unfold fitsP at h2
  simp only [Bool.and_eq_true, decide_eq_true_iff] at h2
  exact ⟨h1, h2.2.1, h2.2.2⟩
end Go.Proofs.YtcmdhfccdkjenaaGreatDoor
namespace Go.Proofs.YtcmdhfccdkjenaaGreatDoor
open Go.RowKit Go.Shelf

theorem RightP.polx {w : World} {v0 v1 v2 v3 : Value} {l : List St} {g h : List Rl} {qs : List Qv} {F : Qv → List ByteArray} (hr : RightP l g h qs F) (hp : PolAt w v0 v1 v2 v3 l g h qs) (hT : TB w) (hl : l.length ≤ 30) (hg : g.length ≤ 30) (hh : h.length ≤ 30) (hq : qs.length ≤ 30) (hF : WhoF w qs F) (hs : allLe l 40) :
    PolX w v0 v1 v2 v3 l g h qs F (newB (allPrins l g h qs F)) (newB (allNames l g h qs)) :=
  ⟨hp, by omega, by omega, by omega, by omega, hF, fun x hx => (hs x hx).mono (by decide), hT, rfl, rfl, by have := hr.good.ps; omega, by have := hr.good.ns; omega, hr.1, hr.names.1, hr.names.2⟩
end Go.Proofs.YtcmdhfccdkjenaaGreatDoor
namespace Go.Proofs.YtcmdhfccdkjenaaGreatDoor
open Go.RowKit Go.Shelf

/-- A store into a small block leaves the rows of what is greater. -/
theorem Sl.setBlk {w : World} {size n b o : Nat} {v x : Value} {xs : List Value} {A : Array Value} (h : Sl w size v n xs) (hg : Blk w b A) (hs : A.size < size) : Sl (w.setCell ⟨b, o, none⟩ x) size v n xs := by
  obtain ⟨h1, h2, h3⟩ := h
  refine ⟨h1, h2, ?_⟩
  rcases h3 with h3 | ⟨b', off, cap, hv, hc, hm, hb, hcell⟩
  · exact .inl h3
  · refine .inr ⟨b', off, cap, hv, hc, hm, by simpa using hb, fun j u hu => ?_⟩
    by_cases e : b = b'
    · subst e
      exfalso
      have hj : j < xs.length := (List.getElem?_eq_some_iff.1 hu).1
      have hn : 1 ≤ n := by
        rcases Nat.eq_zero_or_pos n with h0 | h0
        · rw [h1, h0, Nat.zero_mul] at hj; omega
        · exact h0
      have hlast : size - 1 < xs.length := by have := Nat.mul_le_mul_right size hn; omega
      have h4 := hcell (size - 1) _ (List.getElem?_eq_getElem hlast)
      rw [hg.1, Array.getElem?_eq_none (by omega)] at h4
      cases h4
    · exact (cell_far _ _ _ _ _ _ e).trans (hcell j u hu)
theorem SlA.setBlk {w : World} {size n b o : Nat} {v x : Value} {xs : List Value} {A : Array Value} (h : SlA w size v n xs) (hg : Blk w b A) (hs : A.size < size) : SlA (w.setCell ⟨b, o, none⟩ x) size v n xs := by
  rcases h with h | h
  · exact .inl (h.setBlk hg hs)
  · exact .inr h
theorem SlA.putsBlk {size n b : Nat} {v : Value} {xs : List Value} : ∀ (vs : List Value) (o : Nat) (w : World) (A : Array Value), SlA w size v n xs → Blk w b A → A.size < size → o + vs.length ≤ A.size → SlA (puts w b o vs) size v n xs
  | [], _, _, _, h, _, _, _ => h
  | y :: vs, o, w, A, h, hg, hs, ho => by
    rw [List.length_cons] at ho
    exact SlA.putsBlk vs (o + 1) _ _ (h.setBlk hg hs) (hg.put (by omega)) (by simpa using hs) (by simp; omega)
/-- Three blocks of a call's own that stand whole. -/
structure TriAt (w : World) (A B C : Array Value) (wx : World) : Prop where
  a : Blk wx w.heap.size A
  b : Blk wx (w.heap.size + 1) B
  c : Blk wx (w.heap.size + 1 + 1) C
  low : Below w.heap.size w wx
theorem TriAt.later {w wx w' : World} {A B C : Array Value} (h : TriAt w A B C wx) (hb : Below wx.heap.size wx w') : TriAt w A B C w' := ⟨h.a.below hb, h.b.below hb, h.c.below hb, h.low.trans (hb.mono h.low.size)⟩
theorem TriAt.drew {w wx : World} {A B C : Array Value} (h : TriAt w A B C wx) : TriAt w A B C wx.drew := h.later (below_drew (Below.refl _ _))
theorem TriAt.new (w : World) (A B C : Array Value) (t u s : TypeId) : TriAt w A B C (((w.alloc (.cells A t)).alloc (.cells B u)).alloc (.cells C s)) :=
  ⟨((Blk.new w A t).alloc _).alloc _, (by have := Blk.new (w.alloc (.cells A t)) B u; simpa using this.alloc _), by have := Blk.new ((w.alloc (.cells A t)).alloc (.cells B u)) C s; simpa using this, (((Below.refl _ _).alloc (Nat.le_refl _) _).alloc (by simp) _).alloc (by simp; omega) _⟩
theorem Blk.four0 {w : World} {g : Nat} {z0 z1 z2 z3 : Value} (h : Blk w g #[z0, z1, z2, z3]) (x0 x1 x2 x3 : Value) : Blk (puts w g 0 [x0, x1, x2, x3]) g #[x0, x1, x2, x3] := by
  have h := (((h.put (o := 0) (v := x0) (by simp)).put (o := 1) (v := x1) (by simp)).put (o := 2) (v := x2) (by simp)).put (o := 3) (v := x3) (by simp)
  simp at h
  exact h
theorem TriAt.putsA {w wx : World} {B C : Array Value} {z0 z1 z2 z3 : Value} (h : TriAt w #[z0, z1, z2, z3] B C wx) (x0 x1 x2 x3 : Value) : TriAt w #[x0, x1, x2, x3] B C (puts wx w.heap.size 0 [x0, x1, x2, x3]) :=
  ⟨h.a.four0 x0 x1 x2 x3, h.b.puts_far (by omega) _ 0 wx, h.c.puts_far (by omega) _ 0 wx, below_puts (by omega) _ 0 wx h.low⟩
theorem TriAt.putsC {w wx : World} {A B : Array Value} {z0 z1 z2 z3 : Value} (h : TriAt w A B #[z0, z1, z2, z3] wx) (x0 x1 x2 x3 : Value) : TriAt w A B #[x0, x1, x2, x3] (puts wx (w.heap.size + 1 + 1) 0 [x0, x1, x2, x3]) :=
  ⟨h.a.puts_far (by omega) _ 0 wx, h.b.puts_far (by omega) _ 0 wx, h.c.four0 x0 x1 x2 x3, below_puts (by omega) _ 0 wx h.low⟩
/-- All that a policy and a query give when they may be. -/
structure SimIn (w : World) (v0 v1 v2 v3 : Value) (l : List St) (g h : List Rl) (qs : List Qv) (q : Qv) (us PS NS : List ByteArray) : Prop where
  at_ : PolAt w v0 v1 v2 v3 l g h qs
  hu : SlA w 1 q.w us.length (strs us)
  qok : q.ok w
  hl : l.length ≤ 30
  hg : g.length ≤ 30
  hh : h.length ≤ 30
  l40 : allLe l 40
  gh : ∀ x ∈ g ++ h, x.le 40
  qa : q.a.le 40
  qb : q.b.le 40
  ul : us.length ≤ 40
  uz : ∀ s ∈ us, s.size ≤ 9223372036854775807
  hT : TB w
  right : RightP l g h [q] (fun _ => us)
  q6 : ¬ q.k = 6
  eP : newB (allPrins l g h [q] (fun _ => us)) = PS
  eN : newB (allNames l g h [q]) = NS
  h6 : PS.length ≤ 16
  h4 : NS.length ≤ 12
section
variable {w W : World} {v0 v1 v2 v3 vq : Value} {l : List St} {g h : List Rl} {qs : List Qv} {q : Qv} {us PS NS : List ByteArray}
theorem SimIn.below (P : SimIn w v0 v1 v2 v3 l g h qs q us PS NS) (hb : Below w.heap.size w W) : SimIn W v0 v1 v2 v3 l g h qs q us PS NS :=
  ⟨P.at_.below hb, P.hu.below hb, P.qok.below hb, P.hl, P.hg, P.hh, P.l40, P.gh, P.qa, P.qb, P.ul, P.uz, P.hT.below hb, P.right, P.q6, P.eP, P.eN, P.h6, P.h4⟩
theorem SimIn.whoF (P : SimIn w v0 v1 v2 v3 l g h qs q us PS NS) (hb : Below w.heap.size w W) : WhoF W [q] (fun _ => us) := fun x hx => by
  rw [List.mem_singleton.1 hx]; exact ⟨P.hu.below hb, P.ul⟩
theorem SimIn.polx (P : SimIn w v0 v1 v2 v3 l g h qs q us PS NS) (hb : Below w.heap.size w W) (hq : SlA W 6 vq 1 q.cells) : PolX W v0 v1 v2 vq l g h [q] (fun _ => us) PS NS := by
  have := P.right.polx (P.at_.only hb hq P.qok) (P.hT.below hb) P.hl P.hg P.hh (by simp) (P.whoF hb) P.l40
  rw [P.eP, P.eN] at this
  exact this
theorem SimIn.rightQ (P : SimIn w v0 v1 v2 v3 l g h qs q us PS NS) : rightQ q us = true := P.right.2.2.1 q (List.mem_singleton.2 rfl)
theorem sim_Right (P : SimIn w v0 v1 v2 v3 l g h qs q us PS NS) (hb : Below w.heap.size w W) (hq : SlA W 6 vq 1 q.cells) :
    Calls Tryz.prog 94 #[pv v0 v1 v2 vq] W fun e w' => e = .returned (.bool true) ∧ Below W.heap.size W w' := by
  have hle : ∀ {x : Rl}, x.le 40 → x.le 4294967 := fun h => h.mono (by decide)
  refine (policy_RightL v0 v1 v2 vq l g h [q] W (P.at_.only hb hq P.qok) (by have := P.hl; omega) (by have := P.hg; omega) (by have := P.hh; omega) (by simp) (fun x hx => (P.l40 x hx).mono (by decide)) (fun x hx => hle (P.gh x hx))
    (fun x hx => by rw [List.mem_singleton.1 hx]; exact ⟨hle P.qa, hle P.qb⟩) (fun _ => us) (P.whoF hb) (fun x hx => P.uz)).mono ?_
  rintro e w' ⟨⟨b, rfl, hi⟩, hb'⟩
  rw [hi.2 P.right]
  exact ⟨rfl, hb'⟩
theorem sim_IsT (P : SimIn w v0 v1 v2 v3 l g h qs q us PS NS) (hb : Below w.heap.size w W) :
    Calls Tryz.prog 31 #[qv q] W fun e w' => e = .returned (.bool true) ∧ Below W.heap.size W w' := by
  refine (sim_Is q us W (P.qa.mono (by decide)) (P.qb.mono (by decide)) (P.hu.below hb) P.uz).mono ?_
  rintro e w' ⟨rfl, hb'⟩
  rw [P.rightQ, decide_eq_false P.q6]
  exact ⟨rfl, hb'⟩
end
end Go.Proofs.YtcmdhfccdkjenaaGreatDoor
namespace Go.Proofs.YtcmdhfccdkjenaaGreatDoor
open Go.RowKit Go.Shelf

end Go.Proofs.YtcmdhfccdkjenaaGreatDoor
namespace Go.Proofs.YtcmdhfccdkjenaaGreatDoor
open Go.RowKit Go.Shelf

end Go.Proofs.YtcmdhfccdkjenaaGreatDoor
namespace Go.Proofs.YtcmdhfccdkjenaaGreatDoor
open Go.RowKit Go.Shelf

/-- A policy and a query of few and short texts. -/
structure SimQ (w : World) (v0 v1 v2 v3 : Value) (l : List St) (g h : List Rl) (qs : List Qv) (q : Qv) (us : List ByteArray) : Prop where
  at_ : PolAt w v0 v1 v2 v3 l g h qs
  hu : SlA w 1 q.w us.length (strs us)
  qok : q.ok w
  hl : l.length ≤ 30
  hg : g.length ≤ 30
  hh : h.length ≤ 30
  l40 : allLe l 40
  gh : ∀ x ∈ g ++ h, x.le 40
  qa : q.a.le 40
  qb : q.b.le 40
  ul : us.length ≤ 40
  uz : ∀ s ∈ us, s.size ≤ 9223372036854775807
section
variable {w W : World} {v0 v1 v2 v3 vq : Value} {l : List St} {g h : List Rl} {qs : List Qv} {q : Qv} {us PS NS : List ByteArray}
theorem SimQ.below (P : SimQ w v0 v1 v2 v3 l g h qs q us) (hb : Below w.heap.size w W) : SimQ W v0 v1 v2 v3 l g h qs q us :=
  ⟨P.at_.below hb, P.hu.below hb, P.qok.below hb, P.hl, P.hg, P.hh, P.l40, P.gh, P.qa, P.qb, P.ul, P.uz⟩
theorem SimQ.whoF (P : SimQ w v0 v1 v2 v3 l g h qs q us) (hb : Below w.heap.size w W) : WhoF W [q] (fun _ => us) := fun x hx => by
  rw [List.mem_singleton.1 hx]; exact ⟨P.hu.below hb, P.ul⟩
theorem SimQ.simIn (P : SimQ w v0 v1 v2 v3 l g h qs q us) (hT : TB w) (hr : RightP l g h [q] (fun _ => us)) (h6 : ¬ q.k = 6) : SimIn w v0 v1 v2 v3 l g h qs q us (newB (allPrins l g h [q] (fun _ => us))) (newB (allNames l g h [q])) :=
  ⟨P.at_, P.hu, P.qok, P.hl, P.hg, P.hh, P.l40, P.gh, P.qa, P.qb, P.ul, P.uz, hT, hr, h6, rfl, rfl, hr.good.ps, hr.good.ns⟩
theorem simq_Right (P : SimQ w v0 v1 v2 v3 l g h qs q us) (hb : Below w.heap.size w W) (hq : SlA W 6 vq 1 q.cells) :
    Calls Tryz.prog 94 #[pv v0 v1 v2 vq] W fun e w' => RightI l g h [q] (fun _ => us) e ∧ Below W.heap.size W w' := by
  have hle : ∀ {x : Rl}, x.le 40 → x.le 4294967 := fun h => h.mono (by decide)
  exact policy_RightL v0 v1 v2 vq l g h [q] W (P.at_.only hb hq P.qok) (by have := P.hl; omega) (by have := P.hg; omega) (by have := P.hh; omega) (by simp) (fun x hx => (P.l40 x hx).mono (by decide)) (fun x hx => hle (P.gh x hx))
    (fun x hx => by rw [List.mem_singleton.1 hx]; exact ⟨hle P.qa, hle P.qb⟩) (fun _ => us) (P.whoF hb) (fun x hx => P.uz)
theorem simq_Is (P : SimQ w v0 v1 v2 v3 l g h qs q us) (hb : Below w.heap.size w W) :
    Calls Tryz.prog 31 #[qv q] W fun e w' => e = .returned (.bool (rightQ q us && !decide (q.k = 6))) ∧ Below W.heap.size W w' :=
  sim_Is q us W (P.qa.mono (by decide)) (P.qb.mono (by decide)) (P.hu.below hb) P.uz
end
set_option maxRecDepth 100000 in
set_option maxHeartbeats 8000000 in
theorem sim_DecideNo (v0 v1 v2 v3 : Value) (l : List St) (g h : List Rl) (qs : List Qv) (q : Qv) (us : List ByteArray) (w : World) (P : SimQ w v0 v1 v2 v3 l g h qs q us) (hno : ¬ (RightP l g h [q] (fun _ => us) ∧ ¬ q.k = 6)) :
    Calls Tryz.prog 28 #[pv v0 v1 v2 v3, qv q] w fun e w' => e = .returned (.tuple #[.agg #[.int .i64 0, .slice none 0 0, .int .i64 0, .int .i64 0], .int .i64 6]) ∧ Below w.heap.size w w' := by
  have HP := Lib.hid P
  have HN := Lib.hid hno
  obtain ⟨a0, c0, rfl⟩ := P.at_.rs.form
  obtain ⟨a1, c1, rfl⟩ := P.at_.rg.form
  obtain ⟨a2, c2, rfl⟩ := P.at_.rh.form
  obtain ⟨a3, c3, rfl⟩ := P.at_.rq.form
  obtain ⟨xk, ⟨x1, x2⟩, ⟨x3, x4⟩, wv⟩ := q
  obtain ⟨wo, wc, e1⟩ := P.hu.form
  dsimp only at e1
  subst e1
  clear P hno
  have HT := Lib.hid (show TriAt w #[.slice a0 l.length c0, .slice a1 g.length c1, .slice a2 h.length c2, .slice a3 qs.length c3] #[.int .i64 xk, .string x1, .string x2, .string x3, .string x4, .slice wo us.length wc] #[.int .i64 0, .slice none 0 0, .int .i64 0, .int .i64 0] (((w.alloc (.cells #[.slice a0 l.length c0, .slice a1 g.length c1, .slice a2 h.length c2, .slice a3 qs.length c3] 26)).alloc (.cells #[.int .i64 xk, .string x1, .string x2, .string x3, .string x4, .slice wo us.length wc] 45)).alloc (.cells #[.int .i64 0, .slice none 0 0, .int .i64 0, .int .i64 0] 48))
    from TriAt.new w _ _ _ _ _ _)
  go_enter Tryz.func28, Tryz.ntmps28
  go_upto_region 1 with fail
  obtain ⟨wk, hwk⟩ : ∃ W, W = (((w.alloc (.cells #[.slice a0 l.length c0, .slice a1 g.length c1, .slice a2 h.length c2, .slice a3 qs.length c3] 26)).alloc (.cells #[.int .i64 xk, .string x1, .string x2, .string x3, .string x4, .slice wo us.length wc] 45)).alloc (.cells #[.int .i64 0, .slice none 0 0, .int .i64 0, .int .i64 0] 48)) := ⟨_, rfl⟩
  rw [← hwk] at HT ⊢
  clear hwk
  obtain ⟨ca, fa, za⟩ := HT.out.a
  obtain ⟨cb, fb, zb⟩ := HT.out.b
  go_wp2_with fail
  refine (sim_Only (.slice a0 l.length c0) (.slice a1 g.length c1) (.slice a2 h.length c2) (.slice a3 qs.length c3) l g h qs ⟨xk, ⟨x1, x2⟩, ⟨x3, x4⟩, .slice wo us.length wc⟩ wk (HP.out.at_.below HT.out.low)).mono ?_
  rintro e w1 ⟨vq, rfl, hvq, hb1⟩
  obtain ⟨qa, qc, rfl⟩ := hvq.form
  have HT := Lib.hid (HT.out.later hb1)
  have HQ := Lib.hid hvq
  clear hvq hb1 ca fa za cb fb zb
  obtain ⟨ca, fa, za⟩ := HT.out.a
  go_upto_region 2 with fail
  obtain ⟨w2, hw2⟩ : ∃ W, W = puts w1 w.heap.size 0 [.slice a0 l.length c0, .slice a1 g.length c1, .slice a2 h.length c2, .slice qa 1 qc] := ⟨_, rfl⟩
  have hch : ((((w1.setCell ⟨w.heap.size, 0, none⟩ (.slice a0 l.length c0)).setCell ⟨w.heap.size, 1, none⟩ (.slice a1 g.length c1)).setCell ⟨w.heap.size, 2, none⟩ (.slice a2 h.length c2)).setCell ⟨w.heap.size, 3, none⟩ (.slice qa 1 qc)) = w2 := hw2.symm
  rw [hch]
  have HQ := Lib.hid (HQ.out.putsBlk [.slice a0 l.length c0, .slice a1 g.length c1, .slice a2 h.length c2, .slice qa 1 qc] 0 w1 _ HT.out.a (by simp) (by simp))
  have HT := Lib.hid (HT.out.putsA (.slice a0 l.length c0) (.slice a1 g.length c1) (.slice a2 h.length c2) (.slice qa 1 qc))
  rw [← hw2] at HQ HT
  clear hch hw2 ca fa za
  obtain ⟨ca, fa, za⟩ := HT.out.a
  obtain ⟨cb, fb, zb⟩ := HT.out.b
  go_wp2_with fail
  refine (simq_Right HP.out HT.out.low HQ.out).mono ?_
  rintro e w3 ⟨⟨br, rfl, hri⟩, hb3⟩
  have HRI := Lib.hid hri
  have HT := Lib.hid (HT.out.later hb3)
  clear hb3 hri ca fa za cb fb zb HQ
  cases br with
  | false =>
    obtain ⟨cc, fc, zc⟩ := HT.out.c
    go_wp2
    obtain ⟨wy, hwy⟩ : ∃ W, W = puts w3 (w.heap.size + 1 + 1) 0 [.int .i64 0, .slice none 0 0, .int .i64 0, .int .i64 0] := ⟨_, rfl⟩
    have hch : ((((w3.setCell ⟨w.heap.size + 1 + 1, 0, none⟩ (.int .i64 0)).setCell ⟨w.heap.size + 1 + 1, 1, none⟩ (.slice none 0 0)).setCell ⟨w.heap.size + 1 + 1, 2, none⟩ (.int .i64 0)).setCell ⟨w.heap.size + 1 + 1, 3, none⟩ (.int .i64 0)) = wy := hwy.symm
    rw [hch]
    have HT := Lib.hid (HT.out.putsC (.int .i64 0) (.slice none 0 0) (.int .i64 0) (.int .i64 0))
    rw [← hwy] at HT
    clear hch hwy cc fc zc
    obtain ⟨cc, fc, zc⟩ := HT.out.c
    exact bodyPost_ret (v := .tuple #[.agg #[.int .i64 0, .slice none 0 0, .int .i64 0, .int .i64 0], .int .i64 6]) (by simp [results, Tryz.results28, go_sem, cc]) rfl ⟨rfl, HT.out.low⟩
  | true =>
    have HK := Lib.hid (show (rightQ ⟨xk, ⟨x1, x2⟩, ⟨x3, x4⟩, .slice wo us.length wc⟩ us && !decide (xk = 6)) = false by
      have hr := HRI.out.1 (by first | rfl | trivial)
      have h6 : xk = 6 := Decidable.byContradiction (fun hn => HN.out ⟨hr, hn⟩)
      rw [decide_eq_true h6, Bool.not_true, Bool.and_false])
    clear HRI
    obtain ⟨cb, fb, zb⟩ := HT.out.b
    go_wp2_with fail
    refine (simq_Is HP.out HT.out.low).mono ?_
    rintro e w4 ⟨rfl, hb4⟩
    rw [HK.out]
    have HT := Lib.hid (HT.out.later hb4)
    clear hb4 cb fb zb
    obtain ⟨cc, fc, zc⟩ := HT.out.c
    go_wp2
    obtain ⟨wy, hwy⟩ : ∃ W, W = puts w4 (w.heap.size + 1 + 1) 0 [.int .i64 0, .slice none 0 0, .int .i64 0, .int .i64 0] := ⟨_, rfl⟩
    have hch : ((((w4.setCell ⟨w.heap.size + 1 + 1, 0, none⟩ (.int .i64 0)).setCell ⟨w.heap.size + 1 + 1, 1, none⟩ (.slice none 0 0)).setCell ⟨w.heap.size + 1 + 1, 2, none⟩ (.int .i64 0)).setCell ⟨w.heap.size + 1 + 1, 3, none⟩ (.int .i64 0)) = wy := hwy.symm
    rw [hch]
    have HT := Lib.hid (HT.out.putsC (.int .i64 0) (.slice none 0 0) (.int .i64 0) (.int .i64 0))
    rw [← hwy] at HT
    clear hch hwy cc fc zc
    obtain ⟨cc, fc, zc⟩ := HT.out.c
    exact bodyPost_ret (v := .tuple #[.agg #[.int .i64 0, .slice none 0 0, .int .i64 0, .int .i64 0], .int .i64 6]) (by simp [results, Tryz.results28, go_sem, cc]) rfl ⟨rfl, HT.out.low⟩
end Go.Proofs.YtcmdhfccdkjenaaGreatDoor
namespace Go.Proofs.YtcmdhfccdkjenaaGreatDoor
open Go.RowKit Go.Shelf

/-- Layer 8's bound. -/
def boundN (n k L : Nat) : Nat := 4 * (n + 1) * (n + 1) * (n + 1) * (k + 1) * (k + 1) * (L + 1)
theorem cube_le (n : Nat) : n * n * (n + 3) ≤ (n + 1) * (n + 1) * (n + 1) := by
  have h1 : (n + 1) * (n + 1) * (n + 1) = n * n * n + 3 * (n * n) + 3 * n + 1 := by
    simp only [Nat.mul_add, Nat.add_mul, Nat.mul_one, Nat.one_mul]; omega
  have h2 : n * n * (n + 3) = n * n * n + 3 * (n * n) := by rw [Nat.mul_add]; omega
  omega
theorem bound_of {st R F P N n k L : Nat} (hs : st ≤ 2 * R + F * (R * (P + 3))) (hF : F ≤ P * N * P) (hR : R ≤ L) (hP : P ≤ n) (hN : N ≤ k) : st ≤ boundN n k L := by
  have h1 : F * (R * (P + 3)) ≤ n * k * n * (L * (n + 3)) :=
    Nat.mul_le_mul (Nat.le_trans hF (Nat.mul_le_mul (Nat.mul_le_mul hP hN) hP)) (Nat.mul_le_mul hR (by omega))
  have h2 : n * k * n * (L * (n + 3)) = n * n * (n + 3) * (k * L) := by
    simp only [Nat.mul_assoc, Nat.mul_comm, Nat.mul_left_comm]
  have hk2 : k * L ≤ (k + 1) * (k + 1) * (L + 1) := Nat.mul_le_mul (Nat.le_trans (Nat.le_succ k) (Nat.le_mul_of_pos_right _ (Nat.succ_pos k))) (Nat.le_succ L)
  have h3 : n * n * (n + 3) * (k * L) ≤ (n + 1) * (n + 1) * (n + 1) * ((k + 1) * (k + 1) * (L + 1)) := Nat.mul_le_mul (cube_le n) hk2
  have hX : 1 * (1 * L) ≤ (n + 1) * (n + 1) * (n + 1) * ((k + 1) * (k + 1) * (L + 1)) := by
    refine Nat.mul_le_mul ?_ (Nat.mul_le_mul ?_ (Nat.le_succ L))
    · exact Nat.mul_pos (Nat.mul_pos (Nat.succ_pos n) (Nat.succ_pos n)) (Nat.succ_pos n)
    · exact Nat.mul_pos (Nat.succ_pos k) (Nat.succ_pos k)
  have hB : boundN n k L = 4 * ((n + 1) * (n + 1) * (n + 1) * ((k + 1) * (k + 1) * (L + 1))) := by unfold boundN; simp only [Nat.mul_assoc]
  generalize (n + 1) * (n + 1) * (n + 1) * ((k + 1) * (k + 1) * (L + 1)) = X at *
  omega
theorem TmAt.bound {w : World} {t M : Nat} {PS NS : List ByteArray} {l : List St} {fs : List (Nat × Nat)} {st n k L : Nat} (h : TmAt w t M PS NS l fs st) (hL : l.length ≤ L) (hP : PS.length ≤ n) (hN : NS.length ≤ k) : st ≤ boundN n k L := by
  obtain ⟨F, W0, g0, hm⟩ := h.mod
  exact bound_of h.steps (fam_len hm.f) (Nat.le_trans (rulesN_len _ _ _) hL) hP hN
theorem mul_wrap {a b c B : Nat} (e : a * b = c) (h : c ≤ B) (hB : B ≤ 9223372036854775807) : IntKind.i64.wrap ((a : Int) * (b : Int)) = (c : Int) := by
  rw [← Int.natCast_mul, e]
  exact Go.IntWalk.i64_in _ (by omega)
end Go.Proofs.YtcmdhfccdkjenaaGreatDoor
