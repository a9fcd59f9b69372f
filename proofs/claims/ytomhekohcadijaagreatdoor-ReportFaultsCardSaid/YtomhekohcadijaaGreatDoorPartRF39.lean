/- report.Read: what a text is read as, verdicts of a policy (printed by gen_repread.py). -/
import Derived.Test.YtomhekohcadijaaGreatDoorPartRF37
import Derived.Test.YtomhekohcadijaaGreatDoorPartRF38
namespace Go.Proofs.YtomhekohcadijaaGreatDoor
open Go.RowKit Go.Shelf

theorem parse_bad (s : ByteArray) (h : ¬ (parseS s).2.2 = 0) : (parseS s).1 = noS := by
  unfold parseS at h ⊢
  by_cases h1 : (tokens (bl s)).2.2 = 0
  · rw [parseT_good h1] at h ⊢
    generalize (Rd.mk (tokens (bl s)).1 (endOf s) 0 0).stmt = q at *
    obtain ⟨x, r⟩ := q
    dsimp only at *
    unfold Rd.fin at h ⊢
    by_cases h2 : r.why = 0
    · rw [if_neg (fun x => x h2)] at h ⊢
      cases hl : r.l with
      | nil => rw [hl] at h; exact absurd rfl h
      | cons t l => rfl
    · rw [if_pos h2]
  · rw [parseT_bad h1]
theorem noS_le (m : Nat) : noS.le m := by
  unfold noS St.le Rl.le noR
  refine ⟨⟨?_, ?_⟩, ?_, ⟨?_, ?_⟩, ⟨?_, ?_⟩, ?_⟩ <;> exact Nat.zero_le _
theorem parse_small (s : ByteArray) : (parseS s).1.le 8 := by
  by_cases h : (parseS s).2.2 = 0
  · exact rightS_le (parse_right s h)
  · rw [parse_bad s h]; exact noS_le 8
theorem takeM_small (m : ByteArray) : ∀ (L : List ByteArray), allLe (takeM m L).1 8 ∧ (takeM m L).1.length ≤ L.length ∧ (takeM m L).2.length ≤ L.length ∧ ∀ s ∈ (takeM m L).2, s ∈ L
  | [] => ⟨fun x hx => (by simp [takeM] at hx), Nat.le_refl _, Nat.le_refl _, fun s hs => (by simp [takeM] at hs)⟩
  | s :: r => by
    obtain ⟨h1, h2, h3, h4⟩ := takeM_small m r
    cases h : preB s m with
    | true =>
      rw [takeM_yes h]
      refine ⟨fun x hx => ?_, by simp; omega, by simp; omega, fun x hx => List.mem_cons_of_mem _ (h4 x hx)⟩
      rcases List.mem_cons.1 hx with rfl | hx
      · exact parse_small _
      · exact h1 x hx
    | false =>
      rw [takeM_no h]
      exact ⟨(fun x hx => by cases hx), (by simp), (by simp), fun x hx => hx⟩
theorem union_small {l m : List St} {n : Nat} (hl : allLe l n) (hm : allLe m n) : allLe (unionS l m) n := fun x hx => by
  unfold unionS at hx
  rw [ord_mem] at hx
  rcases List.mem_append.1 hx with hx | hx
  · exact hl x hx
  · exact hm x hx
theorem minus_small {l m : List St} {n : Nat} (hl : allLe l n) : allLe (minusS l m) n := fun x hx => hl x ((minus_mem _ _ x).1 hx).1
theorem readR_step_yes {l : List St} {q : Qd} {qs : List Qd} {L : List ByteArray} (h : statedV (kindVB (behW (L.headD ⟨#[]⟩))) = true) :
    readR l (q :: qs) L = (⟨kindVB (behW (L.headD ⟨#[]⟩)), unionS (minusS l (takeM mk0 (takeM mk1 L.tail).2).1) (takeM mk1 L.tail).1⟩ :: (readR l qs (takeM mk0 (takeM mk1 L.tail).2).2).1, (readR l qs (takeM mk0 (takeM mk1 L.tail).2).2).2) := by
  rw [readR, if_pos h]
theorem readR_step_no {l : List St} {q : Qd} {qs : List Qd} {L : List ByteArray} (h : statedV (kindVB (behW (L.headD ⟨#[]⟩))) = false) :
    readR l (q :: qs) L = (⟨kindVB (behW (L.headD ⟨#[]⟩)), []⟩ :: (readR l qs L.tail).1, (readR l qs L.tail).2) := by
  rw [readR, if_neg (by rw [h]; exact Bool.false_ne_true)]
theorem rep_cut (s : ByteArray) (w : World) (hs : s.size ≤ 10000) (hg : Gl w) :
    Calls Tryz.prog 91 #[.string s, .string ⟨#[32, 58, 32]⟩] w fun e w' => ∃ (x : ByteArray) (b : Bool), e = .returned (.tuple #[.string x, .string (behW s), .bool b]) ∧ Below w.heap.size w w' := by
  obtain ⟨m, hm⟩ := hg
  have hcon := Tryz.strings_Cut s ⟨#[32, 58, 32]⟩ m w (by omega) hm
  exact hcon.mono fun e w' ⟨h1, n, h2⟩ => ⟨_, _, h1, by rw [h2]; exact below_of_drewN n⟩
theorem vz_info : (Tryz.prog.info? 56).map (fun i => (i.zero, i.size, i.bytes)) = some (some (.agg #[.int .i64 0, .slice none 0 0, .int .i64 0, .int .i64 0]), 4, 48) := by kernel_rfl
def FewL (L : List ByteArray) : Prop := L.length ≤ 4000 ∧ ∀ s ∈ L, s.size ≤ 10000
theorem FewL.sub {L M : List ByteArray} (h : FewL L) (h1 : M.length ≤ L.length) (h2 : ∀ s ∈ M, s ∈ L) : FewL M := ⟨Nat.le_trans h1 h.1, fun s hs => h.2 s (h2 s hs)⟩
theorem FewL.tail {L : List ByteArray} (h : FewL L) : FewL L.tail := h.sub (by simp) (fun s hs => List.mem_of_mem_tail hs)
theorem FewL.take {L : List ByteArray} (h : FewL L) (m : ByteArray) : FewL (takeM m L).2 := h.sub (takeM_small m L).2.2.1 (takeM_small m L).2.2.2
theorem FewL.head {L : List ByteArray} (h : FewL L) : (L.headD ⟨#[]⟩).size ≤ 10000 := by
  cases L with
  | nil => exact Nat.zero_le _
  | cons s r => exact h.2 s (by simp)
theorem lines_few (s : ByteArray) (h : s.size ≤ 3999) : FewL (linesB s) :=
  ⟨by unfold linesB; rw [List.length_map]; have := lines_len (bl s); rw [bl_len] at this; omega, fun x hx => by have := linesB_size s x hx; omega⟩
theorem win_kp {w3 w : World} {g n : Nat} {v : Value} {x0 : Option Addr} {x1 x2 : Nat} {L : List ByteArray} (h : SlA w3 1 v n (strs L)) (hn : n = L.length) (k : Kp (fun b => b = g ∨ g + 1 ≤ b) w3 w) (hg : Blk w3 g #[.slice x0 x1 x2]) (hs : w3.heap.size = g + 1) : SlA w 1 v n (strs L) := by
  refine h.kp k (fun b o c e h0 => ?_)
  obtain ⟨b', o', c', he, hc, hm, hb, hx⟩ := h.pos h0
  rw [e] at he
  simp only [Value.slice.injEq, Option.some.injEq, Addr.mk.injEq] at he
  obtain ⟨⟨rfl, rfl, _⟩, _, rfl⟩ := he
  rintro (rfl | hge)
  · cases L with
    | nil => simp at hn; omega
    | cons s r =>
      have p0 : w3.cell? ⟨b, o + 0, none⟩ = some (.string s) := hx 0 _ rfl
      have h1 := hg.1 (o + 0)
      rw [p0] at h1
      cases o with
      | zero => simp at h1
      | succ o => simp at h1
  · omega
structure VOwn (C : Nat) (w : World) (z : VZ) : Prop where
  o : w.ownsRow C 80 9 z.v z.d.st.length (z.d.st.flatMap St.cells)
  s : z.s = 0
  n : z.n = 0
  le : allLe z.d.st 4294967
  few : z.d.st.length ≤ 5000
theorem VOwn.kp {C : Nat} {X : Nat → Prop} {w w' : World} {z : VZ} (h : VOwn C w z) (k : Kp X w w') (hx : ∀ g, z.v.ownBlock = some g → ¬ X g) : VOwn C w' z := ⟨k.own h.o hx, h.s, h.n, h.le, h.few⟩
def ReadRP (p : Pd) (text : ByteArray) (w : World) (e : Ending) (w' : World) : Prop :=
  ∃ v ms ok, e = .returned (.tuple #[v, .bool ok]) ∧ VsAt w' v ms ∧ Below w.heap.size w w' ∧ (∀ z ∈ ms, z.s = 0 ∧ z.n = 0 ∧ allLe z.d.st 4294967 ∧ z.d.st.length ≤ 5000) ∧ (ok = false → ms = []) ∧
    (ok = true → RightD p ∧ rightR true p ms = true ∧ textR p.l p.q (ms.map (·.d)) = text) ∧
    (∀ vs : List Vd, RightD p → vs.length = p.q.length → (∀ v ∈ vs, OkV v) → text = textR p.l p.q vs → ok = true ∧ ms.map (·.d) = vs)
theorem readRP_no {p : Pd} {text : ByteArray} {w w' : World} (hb : Below w.heap.size w w') (h : ∀ vs : List Vd, RightD p → vs.length = p.q.length → (∀ v ∈ vs, OkV v) → text = textR p.l p.q vs → False) :
    ReadRP p text w (.returned (.tuple #[.slice none 0 0, .bool false])) w' :=
  ⟨_, [], false, rfl, ⟨(Sl.nil _ _).a, fun z hz => by cases hz⟩, hb, (fun z hz => by cases hz), fun _ => rfl, (fun h => by cases h), fun vs h1 h2 h3 h4 => (h vs h1 h2 h3 h4).elim⟩
set_option maxRecDepth 100000 in
set_option maxHeartbeats 16000000 in
theorem rep_Read {w : World} {v0 v1 v2 v3 : Value} {p : Pd} {us : List (Qd × Value)} {B : Bool} (H : PolD w v0 v1 v2 v3 p us) (hle : LeP p 40 40) (hl : p.l.length ≤ 30) (hg : p.g.length ≤ 30) (hh : p.h.length ≤ 30) (hq : p.q.length ≤ 30) (hB : B = true ↔ RightD p) (text : ByteArray) (ht : text.size ≤ 1000000) (hfew : FewL (linesB text)) (hgl : Gl w) :
    Calls Tryz.prog 38 #[pv v0 v1 v2 v3, .string text] w fun e w' => ReadRP p text w e w' := by
  have RB := Lib.hid (fun W (hb : Below w.heap.size w W) => policy_RightB (H.below hb) hle hl hg hh hq hB)
  have LN := Lib.hid (fun W => scan_Lines text W (by omega))
  have hul : us.length = p.q.length := by rw [← H.z, List.length_map]
  have HP := Lib.hid H
  have HG := Lib.hid hgl
  have HLE := Lib.hid hle
  have HBD := Lib.hid hB
  have hus : us.length ≤ 30 := by omega
  have HUL := Lib.hid hul
  have FW := Lib.hid hfew
  have RT := Lib.hid (fun (vs : List Vd) (h1 : RightD p) (h2 : vs.length = p.q.length) (h3 : ∀ v ∈ vs, OkV v) (h4 : text = textR p.l p.q vs) => show readR p.l p.q (linesB text) = (vs, []) by
    rw [h4]; exact read_text p.l p.q vs h1.ok.l h1.ok.q h3 h2.symm)
  generalize hLS : linesB text = LS at *
  clear hLS
  obtain ⟨a0, c0, rfl⟩ := H.rs.form
  obtain ⟨a1, c1, rfl⟩ := H.rg.form
  obtain ⟨a2, c2, rfl⟩ := H.rh.form
  obtain ⟨a3, c3, rfl⟩ := H.rq.form
  have HT := Lib.hid (show OneAt w #[.slice a0 p.l.length c0, .slice a1 p.g.length c1, .slice a2 p.h.length c2, .slice a3 us.length c3] (w.alloc (.cells #[.slice a0 p.l.length c0, .slice a1 p.g.length c1, .slice a2 p.h.length c2, .slice a3 us.length c3] 26)) from ⟨Blk.new w _ _, (Below.refl _ _).alloc (Nat.le_refl _) _⟩)
  have RR := Lib.hid (fun va zs W (hb : Below w.heap.size w W) (hv : VsAt W va zs) (hz : ∀ z ∈ zs, allLe z.d.st 4294967) => rep_Right (H.below hb) hle hl hg hh hq hB va zs hv hz)
  have PR := Lib.hid (fun va zs W (hb : Below w.heap.size w W) (hv : VsAt W va zs) (hz : ∀ z ∈ zs, allLe z.d.st 4294967) (hs : ∀ z ∈ zs, z.d.st.length ≤ 5000) => rep_Print (H.below hb) hle hl hg hh hq hB va zs hv hz hs)
  clear H hle hB hgl hul hfew
  go_enter Tryz.func38, Tryz.ntmps38
  go_wp2_with fail
  refine (RB.out _ HT.out.low).mono ?_
  rintro e w1 ⟨rfl, hb1⟩
  have HT := Lib.hid (HT.out.later hb1)
  clear hb1 RB
  cases B with
  | false =>
    have R := Lib.hid (fun (h : RightD p) => Bool.false_ne_true (HBD.out.2 h))
    go_wp2_with fail
    refine bodyPost_ret (v := .tuple #[.slice none 0 0, .bool false]) (by simp [results, Tryz.results38, go_sem]) rfl ?_
    exact readRP_no HT.out.low (fun vs h1 _ _ _ => R.out h1)
  | true =>
    have HRD := Lib.hid (HBD.out.1 rfl)
    clear HBD
    obtain ⟨ca, fa, za⟩ := HT.out.a
    have hR0 : w.heap.size < w1.heap.size := za
    go_wp2_with fail
    refine (LN.out _).mono ?_
    rintro e w2 ⟨vL, rfl, hoL, hb2⟩
    obtain ⟨aL, cL, rfl⟩ := own_form hoL
    have HT := Lib.hid (HT.out.later hb2)
    have HSL := Lib.hid (Sl.of_own hoL).a
    clear hoL hb2 LN ca fa za
    obtain ⟨g, hgv⟩ : ∃ g, g = w2.heap.size := ⟨_, rfl⟩
    have hgw : w.heap.size < g := by have := HT.out.a.2.2; omega
    have HGB := Lib.hid (Blk.new w2 #[.slice aL LS.length cL] 27)
    have HBW := Lib.hid ((Below.refl w2.heap.size w2).alloc (Nat.le_refl _) (.cells #[.slice aL LS.length cL] 27))
    have HT := Lib.hid (HT.out.later HBW.out)
    have HSL := Lib.hid (HSL.out.below HBW.out)
    have hsz3 : g + 1 = (w2.alloc (.cells #[.slice aL LS.length cL] 27)).heap.size := by rw [hgv]; simp
    rw [← hgv] at HGB
    obtain ⟨w3, hw3⟩ : ∃ W, W = w2.alloc (.cells #[.slice aL LS.length cL] 27) := ⟨_, rfl⟩
    have HT3 := HT
    rw [← hw3] at HGB HT HSL hsz3
    clear HT3 HBW
    obtain ⟨ca, fa, za⟩ := HT.out.a
    obtain ⟨cg, fg, zg⟩ := HGB.out
    go_upto_region 6 with fail
    rw [← hgv, ← hw3]
    clear hw3 hgv
    go_wp2_with fail
    clear ca fa za cg fg zg
    have HGB0 := HGB
    go_loopw [8, 25] (fun ov iv wr => ∃ (k : Nat) (ds : List VZ) (Lk : List ByteArray) (oo a : Option Addr) (oc c : Nat), k ≤ us.length ∧ iv = .int .i64 k ∧ ov = .slice oo k oc ∧ Hid (ds.length = k) ∧ Hid (wr.ownsRow (g + 1) 56 4 (.slice oo k oc) k (ds.flatMap VZ.cells)) ∧ Hid (∀ z ∈ ds, VOwn (g + 1) wr z) ∧ Hid (Blk wr g #[.slice a Lk.length c]) ∧ Hid (SlA w3 1 (.slice a Lk.length c) Lk.length (strs Lk)) ∧ Hid (FewL Lk) ∧ Hid (readR p.l p.q LS = (ds.map (·.d) ++ (readR p.l (p.q.drop k) Lk).1, (readR p.l (p.q.drop k) Lk).2)) ∧ Hid (Kp (fun b => b = g ∨ g + 1 ≤ b) w3 wr) ∧ Hid (k = us.length → 0 < k → Lk.length = 0)) (fun _ iv _ => us.length - (intOf iv).toNat)
    case atStart => exact ⟨0, [], LS, none, aL, 0, cL, by omega, rfl, rfl, Lib.hid rfl, Lib.hid (World.ownsRow_nil _ _ _ _), Lib.hid (fun z hz => by cases hz), HGB, HSL, FW, Lib.hid rfl, Lib.hid (Kp.refl _ _), Lib.hid (fun _ h => absurd h (by omega))⟩
    case round =>
      clear HGB HSL
      obtain ⟨k, ds, Lk, oo, a, oc, c, hk, rfl, rfl, HDL, HOV, HVO, HGB, HSL, HFL, HRE, HKP, HEND⟩ := hrel
      have hsz := HKP.out.size
      have HLOW := Lib.hid (HT.out.low.trans (HKP.out.below HT.out.low.size (fun b hb e => by omega)))
      have HPB := Lib.hid (HKP.out.blk HT.out.a (by omega))
      by_cases hlt : k < us.length
      · have hltq : k < p.q.length := by rw [← HUL.out]; exact hlt
        have hdq := List.drop_eq_getElem_cons hltq
        have HSLr := Lib.hid (win_kp HSL.out rfl HKP.out HGB0.out hsz3.symm)
        have NX := Lib.hid (rep_next g a c Lk wr HGB.out HSLr.out)
        have RY := Lib.hid (fun (h : statedV (kindVB (behW (Lk.headD ⟨#[]⟩))) = true) => (by
          have e := HRE.out
          rw [hdq, readR_step_yes h] at e
          exact e : readR p.l p.q LS = (ds.map (·.d) ++ (⟨kindVB (behW (Lk.headD ⟨#[]⟩)), unionS (minusS p.l (takeM mk0 (takeM mk1 Lk.tail).2).1) (takeM mk1 Lk.tail).1⟩ :: (readR p.l (p.q.drop (k + 1)) (takeM mk0 (takeM mk1 Lk.tail).2).2).1), (readR p.l (p.q.drop (k + 1)) (takeM mk0 (takeM mk1 Lk.tail).2).2).2)))
        have RN := Lib.hid (fun (h : statedV (kindVB (behW (Lk.headD ⟨#[]⟩))) = false) => (by
          have e := HRE.out
          rw [hdq, readR_step_no h] at e
          exact e : readR p.l p.q LS = (ds.map (·.d) ++ (⟨kindVB (behW (Lk.headD ⟨#[]⟩)), []⟩ :: (readR p.l (p.q.drop (k + 1)) Lk.tail).1), (readR p.l (p.q.drop (k + 1)) Lk.tail).2)))
        have CU := Lib.hid (fun W (hG : Gl W) => rep_cut (Lk.headD ⟨#[]⟩) W HFL.out.head hG)
        have KD := Lib.hid (fun W => rep_Kind (behW (Lk.headD ⟨#[]⟩)) W)
        have SD := Lib.hid (rep_stated (kindVB (behW (Lk.headD ⟨#[]⟩))))
        have HFT := Lib.hid HFL.out.tail
        have hkr := kind_rng (behW (Lk.headD ⟨#[]⟩))
        generalize kindVB (behW (Lk.headD ⟨#[]⟩)) = kk at *
        generalize behW (Lk.headD ⟨#[]⟩) = wd at *
        clear hdq HRE HFL HEND
        go_wp2_with fail
        refine NX.out.mono ?_
        rintro e w4 ⟨rfl, a4, c4, hb4, hw4, hk4⟩
        generalize Lk.tail = Lt at *
        have HK4 := Lib.hid (hk4.mono (fun b (h : b = g) => (.inl h : b = g ∨ g + 1 ≤ b)))
        have HGB4 := Lib.hid hb4
        have HWN := Lib.hid (HSL.out)
        have HSL4 := Lib.hid (hw4 _ HSL.out)
        have HOV4 := Lib.hid (hk4.own HOV.out (fun b hb e => by have := (own_type HOV.out hb).1; omega))
        have HVO4 := Lib.hid (fun z (hz : z ∈ ds) => (HVO.out z hz).kp hk4 (fun b hb e => by have := (own_type (HVO.out z hz).o hb).1; omega))
        have HKP4 := Lib.hid (HKP.out.trans HK4.out (fun _ _ h => h))
        have hsz4 := HKP4.out.size
        clear hb4 hw4 hk4 NX HSLr HGB HOV HVO HKP HK4 HLOW HPB HWN HSL
        have HLOW := Lib.hid (HT.out.low.trans (HKP4.out.below HT.out.low.size (fun b hb e => by omega)))
        have HGl := Lib.hid (HG.out.below HLOW.out)
        generalize Lk.headD ⟨#[]⟩ = hd at *
        go_wp2_with fail
        refine (CU.out _ HGl.out).mono ?_
        rintro e w5 ⟨x5, b5, rfl, hb5⟩
        have HB5 := Lib.hid hb5
        clear hb5 CU HGl
        go_wp2_with fail
        refine (KD.out _).mono ?_
        rintro e w6 ⟨rfl, hb6⟩
        have HB6 := Lib.hid (HB5.out.trans (hb6.mono HB5.out.size))
        clear hb6 KD HB5
        obtain ⟨gv, hgv⟩ : ∃ b, b = w6.heap.size := ⟨_, rfl⟩
        have HBA := Lib.hid (HB6.out.trans (((Below.refl w6.heap.size w6).alloc (Nat.le_refl _) (.cells #[.int .i64 kk, .slice none 0 0, .int .i64 0, .int .i64 0] 56)).mono HB6.out.size))
        have HVB := Lib.hid (Blk.new w6 #[.int .i64 kk, .slice none 0 0, .int .i64 0, .int .i64 0] 56)
        have HVH := Lib.hid (heap_new1 w6 (.cells #[.int .i64 kk, .slice none 0 0, .int .i64 0, .int .i64 0] 56))
        obtain ⟨w7, hw7⟩ : ∃ W, W = w6.alloc (.cells #[.int .i64 kk, .slice none 0 0, .int .i64 0, .int .i64 0] 56) := ⟨_, rfl⟩
        have hgv4 : w4.heap.size ≤ gv := by have := HB6.out.size; omega
        rw [← hw7, ← hgv] at HVB HVH
        rw [← hw7] at HBA
        have HK7 := Lib.hid (Kp.of_below (X := fun b => b = g ∨ g + 1 ≤ b) HBA.out)
        have HKP := Lib.hid (HKP4.out.trans HK7.out (fun _ _ h => h))
        have HGB := Lib.hid (HGB4.out.below HBA.out)
        have HOV := Lib.hid (own_below HOV4.out HBA.out)
        have HVO := Lib.hid (fun z (hz : z ∈ ds) => (HVO4.out z hz).kp (Kp.of_below (X := fun _ => False) HBA.out) (fun _ _ h => h))
        have HPB := Lib.hid (HKP.out.blk HT.out.a (by omega))
        have HLT := Lib.hid (fun b (hb : (Value.slice oo k oc).ownBlock = some b) => (show b < gv by
          obtain ⟨_, cs, h⟩ := own_type HOV4.out hb
          have := (Array.getElem?_eq_some_iff.1 h).1
          omega))
        have HVT := Lib.hid (fun z (hz : z ∈ ds) b (hb : z.v.ownBlock = some b) => (show b < gv by
          obtain ⟨_, cs, h⟩ := own_type (HVO4.out z hz).o hb
          have := (Array.getElem?_eq_some_iff.1 h).1
          omega))
        have hsz7 := HKP.out.size
        have hgv7 : gv < w7.heap.size := HVB.out.2.2
        clear HKP4 HK7 HGB4 HOV4 HVO4 HB6 HLOW
        go_upto_region 11 with fail
        rw [← hgv, ← hw7]
        clear hw7 hgv HBA
        obtain ⟨cv, fv, zv⟩ := HVB.out
        go_wp2_with fail
        refine (SD.out _).mono ?_
        rintro e w8 ⟨rfl, rfl⟩
        clear cv fv zv
        cases hstd : statedV kk with
        | false =>
          have HR := Lib.hid (RN.out hstd)
          have HVN := Lib.hid (show VOwn (g + 1) w8 ⟨⟨kk, []⟩, .slice none 0 0, 0, 0⟩ from ⟨World.ownsRow_nil _ _ _ _, rfl, rfl, (fun x hx => by cases hx), Nat.zero_le _⟩)
          rw [hstd] at *
          clear RY RN hstd
          obtain ⟨cv, fv, zv⟩ := HVB.out
          have hown := HOV.out
          go_wp2_with (at_builtin; refine halt_ ?_)
          unfold Halt_
          refine app_own Tryz.underlying53 vz_info rfl (by decide) (by decide) rfl _ _ rfl (g + 1) rfl (hown.alloc _) [.int .i64 kk, .slice none 0 0, .int .i64 0, .int .i64 0] rfl (heap_new1 _ _) rfl (fun u hu => by simp only [List.mem_cons, List.not_mem_nil, or_false] at hu; rcases hu with rfl | rfl | rfl | rfl <;> rfl) ?_ ?_ ?_
          · omega
          · simp; omega
          intro a9 c9 w9 hown9 hgrow
          have hbq : Below w8.heap.size w8 (w8.alloc (.cells #[.int .i64 kk, .slice none 0 0, .int .i64 0, .int .i64 0] 56)) := (Below.refl _ _).alloc (Nat.le_refl _) _
          have HKG := Lib.hid (Kp.of_grown (X := fun b => some b = (Value.slice oo k oc).ownBlock) hgrow (fun _ h => h))
          have HOVa := Lib.hid (own_below hown hbq)
          have HK9 := Lib.hid ((Kp.of_below (X := fun b => b = g ∨ g + 1 ≤ b) hbq).trans (HKG.out.mono (fun b (h : some b = (Value.slice oo k oc).ownBlock) => (.inr (own_type HOVa.out h.symm).1 : b = g ∨ g + 1 ≤ b))) (fun _ _ h => h))
          have hgn : some g ≠ (Value.slice oo k oc).ownBlock := fun e => by have := (own_type HOVa.out e.symm).1; omega
          have HGB9 := Lib.hid (HKG.out.blk (HGB.out.below hbq) hgn)
          have HOV9 := Lib.hid (show w9.ownsRow (g + 1) 56 4 (.slice a9 (k + 1) c9) (k + 1) ((ds ++ [(⟨⟨kk, []⟩, .slice none 0 0, 0, 0⟩ : VZ)]).flatMap VZ.cells) by rw [List.flatMap_append, List.flatMap_singleton]; exact hown9)
          have HVO9 := Lib.hid (fun z (hz : z ∈ ds ++ [(⟨⟨kk, []⟩, .slice none 0 0, 0, 0⟩ : VZ)]) => by
            have hv : VOwn (g + 1) w8 z := by
              rcases List.mem_append.1 hz with hz | hz
              · exact HVO.out z hz
              · rw [List.mem_singleton.1 hz]; exact HVN.out
            have hv2 := hv.kp (Kp.of_below (X := fun _ => False) hbq) (fun _ _ h => h)
            exact (hv2.kp HKG.out (fun b hb e => own_ne_type HOVa.out hv2.o verdict_stmt b e hb.symm) : VOwn (g + 1) w9 z))
          have HKP9 := Lib.hid (HKP.out.trans HK9.out (fun _ _ h => h))
          have HPB9 := Lib.hid (HKP9.out.blk HT.out.a (by omega))
          have HLOW := Lib.hid (HT.out.low.trans (HKP9.out.below HT.out.low.size (fun b hb e => by omega)))
          have HDL9 := Lib.hid (show (ds ++ [(⟨⟨kk, []⟩, .slice none 0 0, 0, 0⟩ : VZ)]).length = k + 1 by rw [List.length_append, HDL.out]; rfl)
          have HR9 := Lib.hid (show readR p.l p.q LS = ((ds ++ [(⟨⟨kk, []⟩, .slice none 0 0, 0, 0⟩ : VZ)]).map (·.d) ++ (readR p.l (p.q.drop (k + 1)) Lt).1, (readR p.l (p.q.drop (k + 1)) Lt).2) by rw [HR.out]; simp)
          clear hown hown9 hgrow hbq HKG HOVa HK9 hgn HVN HVO HOV HGB HKP HPB HR cv fv zv HVB
          obtain ⟨ca, fa, za⟩ := HPB9.out
          obtain ⟨cg, fg, zg⟩ := HGB9.out
          by_cases he : k + 1 = us.length
          · have dE : ((k : Int) == (us.length : Int) - 1) = true := by rw [beq_iff_eq]; omega
            by_cases hL : 0 < (Lt).length
            · have dL : decide (0 < ((Lt).length : Int)) = true := by rw [decide_eq_true_iff]; omega
              have dN : decide (0 < (Lt).length) = true := decide_eq_true hL
              have HNO := Lib.hid (fun (vs : List Vd) (h1 : RightD p) (h2 : vs.length = p.q.length) (h3 : ∀ v ∈ vs, OkV v) (h4 : text = textR p.l p.q vs) => (show False by
                have e := HR9.out.symm.trans (RT.out vs h1 h2 h3 h4)
                have e2 := congrArg Prod.snd e
                dsimp only at e2
                rw [List.drop_of_length_le (by have := HUL.out; omega)] at e2
                have e3 : Lt = [] := e2
                rw [e3] at hL
                exact absurd hL (by decide)))
              clear he hL
              go_wp2
              refine bodyPost_ret (v := .tuple #[.slice none 0 0, .bool false]) (by simp [results, Tryz.results38, go_sem]) rfl ?_
              exact readRP_no HLOW.out HNO.out
            · have hL0 : (Lt).length = 0 := by omega
              have dL : decide (0 < ((Lt).length : Int)) = false := by rw [decide_eq_false_iff_not]; omega
              have dN : decide (0 < (Lt).length) = false := decide_eq_false hL
              have HE := Lib.hid (fun (_ : k + 1 = us.length) (_ : 0 < k + 1) => hL0)
              clear he hL hL0
              go_wp2
              exact ⟨⟨k + 1, ds ++ [(⟨⟨kk, []⟩, .slice none 0 0, 0, 0⟩ : VZ)], Lt, a9, a4, c9, c4, by omega, by go_num, rfl, HDL9, HOV9, HVO9, HGB9, HSL4, HFT, HR9, HKP9, HE⟩, by simp [intOf]; omega⟩
          · have dE : ((k : Int) == (us.length : Int) - 1) = false := by rw [beq_eq_false_iff_ne]; omega
            have HE := Lib.hid (fun (h : k + 1 = us.length) (_ : 0 < k + 1) => (absurd h he : (Lt).length = 0))
            clear he
            go_wp2
            exact ⟨⟨k + 1, ds ++ [(⟨⟨kk, []⟩, .slice none 0 0, 0, 0⟩ : VZ)], Lt, a9, a4, c9, c4, by omega, by go_num, rfl, HDL9, HOV9, HVO9, HGB9, HSL4, HFT, HR9, HKP9, HE⟩, by simp [intOf]; omega⟩
        | true =>
          have HR := Lib.hid (RY.out hstd)
          rw [hstd] at *
          clear RN RY hstd
          have HLO8 := Lib.hid (HT.out.low.trans (HKP.out.below HT.out.low.size (fun b hb e => by omega)))
          have HYM := Lib.hid (fun b (h : b = g ∨ b = gv) => (h.elim .inl (fun h => .inr (by omega)) : b = g ∨ g + 1 ≤ b))
          have HKT := Lib.hid (Kp.refl (fun b => b = g ∨ b = gv) w8)
          have hgg : ¬ gv = g := by omega
          have HLOW := Lib.hid (HLO8.out.trans (HKT.out.below HLO8.out.size (fun b hb e => by omega)))
          have HKQ := Lib.hid (HKP.out.trans (HKT.out.mono HYM.out) (fun _ _ h => h))
          have ST := Lib.hid (rep_stmts (.slice a4 (Lt).length c4) (Lt) mk1 w8 (HG.out.below HLOW.out) (win_kp HSL4.out rfl HKQ.out HGB0.out hsz3.symm) (by have := HFT.out.1; omega) (fun s hs => Nat.le_trans (HFT.out.2 s hs) (by decide)))
          have HF1 := Lib.hid (HFT.out.take mk1)
          have SM1 := Lib.hid (takeM_small mk1 (Lt))
          obtain ⟨cg, fg, zg⟩ := HGB.out
          go_wp2_with fail
          clear cg fg zg
          refine ST.out.mono ?_
          rintro e wA ⟨v1, v2, rfl, ho1, hw1, ⟨a1, c1, rfl⟩, hbq⟩
          have HO1 := Lib.hid (own_baseS ho1 (show g + 1 ≤ w8.heap.size by have := HKQ.out.size; omega))
          have HSL1 := Lib.hid (hw1 _ HSL4.out)
          have HGB := Lib.hid (HGB.out.below hbq)
          have HVB := Lib.hid (HVB.out.below hbq)
          have HKT := Lib.hid (HKT.out.trans (Kp.of_below (X := fun b => b = g ∨ b = gv) hbq) (fun _ _ h => h))
          obtain ⟨e1, f1, rfl⟩ := own_form ho1
          clear ho1 hw1 hbq ST HKQ HLOW
          obtain ⟨cg, fg, zg⟩ := HGB.out
          go_upto_region 14 with fail
          clear cg fg zg
          obtain ⟨wB, hwx⟩ : ∃ W, W = wA.setCell ⟨g, 0, none⟩ (.slice a1 (takeM mk1 (Lt)).2.length c1) := ⟨_, rfl⟩
          rw [← hwx]
          have HSG := Lib.hid (show Kp (fun b => b = g) wA wB by rw [hwx]; exact Kp.set rfl)
          have HGB := Lib.hid (show Blk wB g #[.slice a1 (takeM mk1 (Lt)).2.length c1] by rw [hwx]; exact (HGB.out.put (o := 0) (by simp)).congr rfl)
          have HVB := Lib.hid (HSG.out.blk HVB.out (by omega))
          have HO1 := Lib.hid (HSG.out.own HO1.out (fun b hb e => by have := (own_type HO1.out hb).1; omega))
          have HKT := Lib.hid (HKT.out.trans (HSG.out.mono (fun b (h : b = g) => (.inl h : b = g ∨ b = gv))) (fun _ _ h => h))
          clear hwx HSG
          have HLOW := Lib.hid (HLO8.out.trans (HKT.out.below HLO8.out.size (fun b hb e => by omega)))
          have HKQ := Lib.hid (HKP.out.trans (HKT.out.mono HYM.out) (fun _ _ h => h))
          have ST := Lib.hid (rep_stmts (.slice a1 ((takeM mk1 Lt).2).length c1) ((takeM mk1 Lt).2) mk0 wB (HG.out.below HLOW.out) (win_kp HSL1.out rfl HKQ.out HGB0.out hsz3.symm) (by have := HF1.out.1; omega) (fun s hs => Nat.le_trans (HF1.out.2 s hs) (by decide)))
          have HF2 := Lib.hid (HF1.out.take mk0)
          have SM2 := Lib.hid (takeM_small mk0 ((takeM mk1 Lt).2))
          obtain ⟨cg, fg, zg⟩ := HGB.out
          go_wp2_with fail
          clear cg fg zg
          refine ST.out.mono ?_
          rintro e wC ⟨v1, v2, rfl, ho1, hw1, ⟨a2, c2, rfl⟩, hbq⟩
          have HO2 := Lib.hid (own_baseS ho1 (show g + 1 ≤ wB.heap.size by have := HKQ.out.size; omega))
          have HSL2 := Lib.hid (hw1 _ HSL1.out)
          have HGB := Lib.hid (HGB.out.below hbq)
          have HVB := Lib.hid (HVB.out.below hbq)
          have HO1 := Lib.hid (own_below HO1.out hbq)
          have HKT := Lib.hid (HKT.out.trans (Kp.of_below (X := fun b => b = g ∨ b = gv) hbq) (fun _ _ h => h))
          obtain ⟨e2, f2, rfl⟩ := own_form ho1
          clear ho1 hw1 hbq ST HKQ HLOW
          obtain ⟨cg, fg, zg⟩ := HGB.out
          go_upto_region 15 with fail
          clear cg fg zg
          obtain ⟨wD, hwx⟩ : ∃ W, W = wC.setCell ⟨g, 0, none⟩ (.slice a2 (takeM mk0 ((takeM mk1 Lt).2)).2.length c2) := ⟨_, rfl⟩
          rw [← hwx]
          have HSG := Lib.hid (show Kp (fun b => b = g) wC wD by rw [hwx]; exact Kp.set rfl)
          have HGB := Lib.hid (show Blk wD g #[.slice a2 (takeM mk0 ((takeM mk1 Lt).2)).2.length c2] by rw [hwx]; exact (HGB.out.put (o := 0) (by simp)).congr rfl)
          have HVB := Lib.hid (HSG.out.blk HVB.out (by omega))
          have HO1 := Lib.hid (HSG.out.own HO1.out (fun b hb e => by have := (own_type HO1.out hb).1; omega))
          have HO2 := Lib.hid (HSG.out.own HO2.out (fun b hb e => by have := (own_type HO2.out hb).1; omega))
          have HKT := Lib.hid (HKT.out.trans (HSG.out.mono (fun b (h : b = g) => (.inl h : b = g ∨ b = gv))) (fun _ _ h => h))
          clear hwx HSG
          have HLOW := Lib.hid (HLO8.out.trans (HKT.out.below HLO8.out.size (fun b hb e => by omega)))
          have HPBD := Lib.hid (HKT.out.blk HPB.out (by have := HT.out.a.2.2; omega))
          have hl1 : (takeM mk1 Lt).1.length ≤ 4000 := Nat.le_trans SM1.out.2.1 HFT.out.1
          have hlm : (minusS p.l (takeM mk0 (takeM mk1 Lt).2).1).length ≤ 30 := Nat.le_trans (minus_len _ _) hl
          have MN := Lib.hid (state_Minus (.slice a0 p.l.length c0) (.slice e2 (takeM mk0 (takeM mk1 Lt).2).1.length f2) p.l (takeM mk0 (takeM mk1 Lt).2).1 wD (HP.out.rs.below HLOW.out) (Sl.of_own HO2.out).a (by omega))
          change Hid (Calls Tryz.prog 94 _ _ fun e w' => ∃ v, e = .returned v ∧ Sl w' 9 v (minusS p.l (takeM mk0 (takeM mk1 Lt).2).1).length ((minusS p.l (takeM mk0 (takeM mk1 Lt).2).1).flatMap St.cells) ∧ Below _ _ w') at MN
          have HAL := Lib.hid (show allLe (unionS (minusS p.l (takeM mk0 (takeM mk1 Lt).2).1) (takeM mk1 Lt).1) 4294967 from union_small (minus_small (fun x hx => st_le_mono (HLE.out.l x hx) (by decide))) (fun x hx => st_le_mono (SM1.out.1 x hx) (by decide)))
          have HLN := Lib.hid (show (unionS (minusS p.l (takeM mk0 (takeM mk1 Lt).2).1) (takeM mk1 Lt).1).length ≤ 5000 by
            refine Nat.le_trans (ord_len _) ?_
            rw [List.length_append]
            omega)
          obtain ⟨ca, fa, za⟩ := HPBD.out
          obtain ⟨cv, fv, zv⟩ := HVB.out
          go_wp2_with fail
          refine MN.out.mono ?_
          rintro e wE ⟨vM, rfl, hsM, hbq⟩
          have HSM := Lib.hid hsM
          have UN := Lib.hid (state_UnionO vM (.slice e1 (takeM mk1 Lt).1.length f1) (minusS p.l (takeM mk0 (takeM mk1 Lt).2).1) (takeM mk1 Lt).1 wE hsM.a ((Sl.of_own HO1.out).a.below hbq) (by omega) (by omega))
          change Hid (Calls Tryz.prog 93 _ _ fun e w' => ∃ v, e = .returned v ∧ w'.ownsRow wE.heap.size 80 9 v (unionS (minusS p.l (takeM mk0 (takeM mk1 Lt).2).1) (takeM mk1 Lt).1).length ((unionS (minusS p.l (takeM mk0 (takeM mk1 Lt).2).1) (takeM mk1 Lt).1).flatMap St.cells) ∧ Below _ _ w') at UN
          obtain ⟨aM, cM, rfl⟩ := hsM.form
          have HBE := Lib.hid hbq
          clear hsM hbq MN HSM ca fa za cv fv zv
          go_wp2_with fail
          refine UN.out.mono ?_
          rintro e wF ⟨vU, rfl, hoU, hbq⟩
          have HBF := Lib.hid (HBE.out.trans (hbq.mono HBE.out.size))
          have hgvE : gv < wE.heap.size := Nat.lt_of_lt_of_le HVB.out.2.2 HBE.out.size
          have HOU := Lib.hid (own_baseS hoU (show gv + 1 ≤ wE.heap.size by omega))
          obtain ⟨eU, fU, rfl⟩ := own_form hoU
          have HVB := Lib.hid (HVB.out.below HBF.out)
          have HGB := Lib.hid (HGB.out.below HBF.out)
          have HKT := Lib.hid (HKT.out.trans (Kp.of_below (X := fun b => b = g ∨ b = gv) HBF.out) (fun _ _ h => h))
          clear hoU hbq HBE HBF UN HLOW HPBD HO1 HO2 hgvE
          obtain ⟨cv, fv, zv⟩ := HVB.out
          go_upto_region 16 with fail
          clear cv fv zv
          obtain ⟨wG, hwx⟩ : ∃ W, W = wF.setCell ⟨gv, 1, none⟩ (.slice eU (unionS (minusS p.l (takeM mk0 (takeM mk1 Lt).2).1) (takeM mk1 Lt).1).length fU) := ⟨_, rfl⟩
          rw [← hwx]
          have HSG := Lib.hid (show Kp (fun b => b = gv) wF wG by rw [hwx]; exact Kp.set rfl)
          have HVB := Lib.hid (show Blk wG gv #[.int .i64 kk, .slice eU (unionS (minusS p.l (takeM mk0 (takeM mk1 Lt).2).1) (takeM mk1 Lt).1).length fU, .int .i64 0, .int .i64 0] by rw [hwx]; exact (HVB.out.put (o := 1) (by simp)).congr rfl)
          have HGB := Lib.hid (HSG.out.blk HGB.out (by omega))
          have HOU := Lib.hid (HSG.out.own HOU.out (fun b hb e => by have := (own_type HOU.out hb).1; omega))
          have HKT := Lib.hid (HKT.out.trans (HSG.out.mono (fun b (h : b = gv) => (.inr h : b = g ∨ b = gv))) (fun _ _ h => h))
          have HOV := Lib.hid (HKT.out.own HOV.out (fun b hb e => by
            have h1 := (own_type HOV.out hb).1
            have h2 := HLT.out b hb
            omega))
          have HVO := Lib.hid (fun z (hz : z ∈ ds) => (HVO.out z hz).kp HKT.out (fun b hb e => by
            have h1 := (own_type (HVO.out z hz).o hb).1
            have h2 := HVT.out z hz b hb
            omega))
          have HKP := Lib.hid (HKP.out.trans (HKT.out.mono HYM.out) (fun _ _ h => h))
          have HPB := Lib.hid (HKP.out.blk HT.out.a (by omega))
          have HVN := Lib.hid (show VOwn (g + 1) wG ⟨⟨kk, unionS (minusS p.l (takeM mk0 (takeM mk1 Lt).2).1) (takeM mk1 Lt).1⟩, .slice eU (unionS (minusS p.l (takeM mk0 (takeM mk1 Lt).2).1) (takeM mk1 Lt).1).length fU, 0, 0⟩ from ⟨own_baseS HOU.out (by omega), rfl, rfl, HAL.out, HLN.out⟩)
          have hsz9 := HKP.out.size
          clear hwx HSG HKT HOU HAL HLN SM1 SM2 HLO8 HYM hlm hl1 HF1 HFT HSL1 HSL4
          generalize hM1 : unionS (minusS p.l (takeM mk0 (takeM mk1 Lt).2).1) (takeM mk1 Lt).1 = su at *
          generalize hM2 : (takeM mk0 (takeM mk1 Lt).2).2 = Ln at *
          clear hM1 hM2
          obtain ⟨cv, fv, zv⟩ := HVB.out
          have hown := HOV.out
          go_wp2_with (at_builtin; refine halt_ ?_)
          unfold Halt_
          refine app_own Tryz.underlying53 vz_info rfl (by decide) (by decide) rfl _ _ rfl (g + 1) rfl (hown.alloc _) [.int .i64 kk, .slice eU su.length fU, .int .i64 0, .int .i64 0] rfl (heap_new1 _ _) rfl (fun u hu => by simp only [List.mem_cons, List.not_mem_nil, or_false] at hu; rcases hu with rfl | rfl | rfl | rfl <;> rfl) ?_ ?_ ?_
          · omega
          · simp; omega
          intro a9 c9 w9 hown9 hgrow
          have hbq : Below wG.heap.size wG (wG.alloc (.cells #[.int .i64 kk, .slice eU su.length fU, .int .i64 0, .int .i64 0] 56)) := (Below.refl _ _).alloc (Nat.le_refl _) _
          have HKG := Lib.hid (Kp.of_grown (X := fun b => some b = (Value.slice oo k oc).ownBlock) hgrow (fun _ h => h))
          have HOVa := Lib.hid (own_below hown hbq)
          have HK9 := Lib.hid ((Kp.of_below (X := fun b => b = g ∨ g + 1 ≤ b) hbq).trans (HKG.out.mono (fun b (h : some b = (Value.slice oo k oc).ownBlock) => (.inr (own_type HOVa.out h.symm).1 : b = g ∨ g + 1 ≤ b))) (fun _ _ h => h))
          have hgn : some g ≠ (Value.slice oo k oc).ownBlock := fun e => by have := (own_type HOVa.out e.symm).1; omega
          have HGB9 := Lib.hid (HKG.out.blk (HGB.out.below hbq) hgn)
          have HOV9 := Lib.hid (show w9.ownsRow (g + 1) 56 4 (.slice a9 (k + 1) c9) (k + 1) ((ds ++ [(⟨⟨kk, su⟩, .slice eU su.length fU, 0, 0⟩ : VZ)]).flatMap VZ.cells) by rw [List.flatMap_append, List.flatMap_singleton]; exact hown9)
          have HVO9 := Lib.hid (fun z (hz : z ∈ ds ++ [(⟨⟨kk, su⟩, .slice eU su.length fU, 0, 0⟩ : VZ)]) => by
            have hv : VOwn (g + 1) wG z := by
              rcases List.mem_append.1 hz with hz | hz
              · exact HVO.out z hz
              · rw [List.mem_singleton.1 hz]; exact HVN.out
            have hv2 := hv.kp (Kp.of_below (X := fun _ => False) hbq) (fun _ _ h => h)
            exact (hv2.kp HKG.out (fun b hb e => own_ne_type HOVa.out hv2.o verdict_stmt b e hb.symm) : VOwn (g + 1) w9 z))
          have HKP9 := Lib.hid (HKP.out.trans HK9.out (fun _ _ h => h))
          have HPB9 := Lib.hid (HKP9.out.blk HT.out.a (by omega))
          have HLOW := Lib.hid (HT.out.low.trans (HKP9.out.below HT.out.low.size (fun b hb e => by omega)))
          have HDL9 := Lib.hid (show (ds ++ [(⟨⟨kk, su⟩, .slice eU su.length fU, 0, 0⟩ : VZ)]).length = k + 1 by rw [List.length_append, HDL.out]; rfl)
          have HR9 := Lib.hid (show readR p.l p.q LS = ((ds ++ [(⟨⟨kk, su⟩, .slice eU su.length fU, 0, 0⟩ : VZ)]).map (·.d) ++ (readR p.l (p.q.drop (k + 1)) Ln).1, (readR p.l (p.q.drop (k + 1)) Ln).2) by rw [HR.out]; simp)
          clear hown hown9 hgrow hbq HKG HOVa HK9 hgn HVN HVO HOV HGB HKP HPB HR cv fv zv HVB
          obtain ⟨ca, fa, za⟩ := HPB9.out
          obtain ⟨cg, fg, zg⟩ := HGB9.out
          by_cases he : k + 1 = us.length
          · have dE : ((k : Int) == (us.length : Int) - 1) = true := by rw [beq_iff_eq]; omega
            by_cases hL : 0 < (Ln).length
            · have dL : decide (0 < ((Ln).length : Int)) = true := by rw [decide_eq_true_iff]; omega
              have dN : decide (0 < (Ln).length) = true := decide_eq_true hL
              have HNO := Lib.hid (fun (vs : List Vd) (h1 : RightD p) (h2 : vs.length = p.q.length) (h3 : ∀ v ∈ vs, OkV v) (h4 : text = textR p.l p.q vs) => (show False by
                have e := HR9.out.symm.trans (RT.out vs h1 h2 h3 h4)
                have e2 := congrArg Prod.snd e
                dsimp only at e2
                rw [List.drop_of_length_le (by have := HUL.out; omega)] at e2
                have e3 : Ln = [] := e2
                rw [e3] at hL
                exact absurd hL (by decide)))
              clear he hL
              go_wp2
              refine bodyPost_ret (v := .tuple #[.slice none 0 0, .bool false]) (by simp [results, Tryz.results38, go_sem]) rfl ?_
              exact readRP_no HLOW.out HNO.out
            · have hL0 : (Ln).length = 0 := by omega
              have dL : decide (0 < ((Ln).length : Int)) = false := by rw [decide_eq_false_iff_not]; omega
              have dN : decide (0 < (Ln).length) = false := decide_eq_false hL
              have HE := Lib.hid (fun (_ : k + 1 = us.length) (_ : 0 < k + 1) => hL0)
              clear he hL hL0
              go_wp2
              exact ⟨⟨k + 1, ds ++ [(⟨⟨kk, su⟩, .slice eU su.length fU, 0, 0⟩ : VZ)], Ln, a9, a2, c9, c2, by omega, by go_num, rfl, HDL9, HOV9, HVO9, HGB9, HSL2, HF2, HR9, HKP9, HE⟩, by simp [intOf]; omega⟩
          · have dE : ((k : Int) == (us.length : Int) - 1) = false := by rw [beq_eq_false_iff_ne]; omega
            have HE := Lib.hid (fun (h : k + 1 = us.length) (_ : 0 < k + 1) => (absurd h he : (Ln).length = 0))
            clear he
            go_wp2
            exact ⟨⟨k + 1, ds ++ [(⟨⟨kk, su⟩, .slice eU su.length fU, 0, 0⟩ : VZ)], Ln, a9, a2, c9, c2, by omega, by go_num, rfl, HDL9, HOV9, HVO9, HGB9, HSL2, HF2, HR9, HKP9, HE⟩, by simp [intOf]; omega⟩
      · obtain rfl : k = us.length := by omega
        have HE := Lib.hid (show readR p.l p.q LS = (ds.map (·.d), Lk) by
          rw [HRE.out, List.drop_of_length_le (by have := HUL.out; omega)]
          simp [readR])
        have HVS := Lib.hid (show VsAt wr (.slice oo us.length oc) ds from ⟨by rw [HDL.out]; exact (Sl.of_own HOV.out).a, fun z hz => (Sl.of_own (HVO.out z hz).o).a⟩)
        have HZ1 := Lib.hid (fun z (hz : z ∈ ds) => (HVO.out z hz).le)
        have HZ2 := Lib.hid (fun z (hz : z ∈ ds) => (HVO.out z hz).few)
        have HZ3 := Lib.hid (fun z (hz : z ∈ ds) => (⟨(HVO.out z hz).s, (HVO.out z hz).n, (HVO.out z hz).le, (HVO.out z hz).few⟩ : z.s = 0 ∧ z.n = 0 ∧ allLe z.d.st 4294967 ∧ z.d.st.length ≤ 5000))
        have R1 := Lib.hid (RR.out _ ds wr HLOW.out HVS.out HZ1.out)
        have HLQ : Hid (∀ vs : List Vd, RightD p → vs.length = p.q.length → (∀ v ∈ vs, OkV v) → text = textR p.l p.q vs → ds.map (·.d) = vs) := Lib.hid (fun vs h1 h2 h3 h4 => by
          have e := HE.out.symm.trans (RT.out vs h1 h2 h3 h4)
          exact congrArg Prod.fst e)
        have HRI := Lib.hid (rightR_iff (zs := ds) (B := true) (p := p) ⟨fun _ => HRD.out, fun _ => rfl⟩)
        have HMM := Lib.hid (fun (vs : List Vd) (h1 : RightD p) (h2 : vs.length = p.q.length) (h3 : ∀ v ∈ vs, OkV v) (h4 : text = textR p.l p.q vs) => (show rightR true p ds = true by
          have e := HLQ.out vs h1 h2 h3 h4
          refine HRI.out.2 ⟨h1, ?_, fun z hz => h3 _ ?_⟩
          · rw [← h2, ← e, List.length_map]
          · rw [← e]; exact List.mem_map_of_mem hz))
        obtain ⟨ca, fa, za⟩ := HPB.out
        clear HE HRE HOV HVO HGB HSL HFL hlt
        go_wp2_with fail
        refine R1.out.mono ?_
        rintro e w4 ⟨rfl, hb4⟩
        have HLO4 := Lib.hid (HLOW.out.trans (hb4.mono HLOW.out.size))
        have HVS4 := Lib.hid (HVS.out.below hb4)
        have HPB4 := Lib.hid (HPB.out.below hb4)
        clear hb4 R1 ca fa za
        cases hrr : rightR true p ds with
        | false =>
          have HNO := Lib.hid (fun (vs : List Vd) (h1 : RightD p) (h2 : vs.length = p.q.length) (h3 : ∀ v ∈ vs, OkV v) (h4 : text = textR p.l p.q vs) => (show False by
            have := HMM.out vs h1 h2 h3 h4
            rw [hrr] at this
            cases this))
          (try rw [hrr])
          clear hrr HMM
          go_wp2
          refine bodyPost_ret (v := .tuple #[.slice none 0 0, .bool false]) (by simp [results, Tryz.results38, go_sem]) rfl ?_
          exact readRP_no HLO4.out HNO.out
        | true =>
          have P1 := Lib.hid (PR.out _ ds w4 HLO4.out HVS4.out HZ1.out HZ2.out)
          rw [show printV true p ds = textR p.l p.q (ds.map (·.d)) from if_pos hrr] at P1
          have HRR := Lib.hid hrr
          obtain ⟨ca, fa, za⟩ := HPB4.out
          (try rw [hrr])
          clear hrr
          generalize htx : textR p.l p.q (ds.map (·.d)) = tx at *
          have HTX := Lib.hid htx
          clear htx
          go_wp2_with fail
          refine P1.out.mono ?_
          rintro e w5 ⟨rfl, hb5⟩
          have HLO5 := Lib.hid (HLO4.out.trans (hb5.mono HLO4.out.size))
          have HVS5 := Lib.hid (HVS4.out.below hb5)
          clear hb5 P1 ca fa za
          by_cases ht : tx = text
          · have d : (tx.toList == text.toList) = true := by rw [beq_str]; exact decide_eq_true ht
            have HTT := Lib.hid ht
            clear ht
            go_wp2
            refine bodyPost_ret (v := .tuple #[.slice oo us.length oc, .bool true]) (by simp [results, Tryz.results38, go_sem]) rfl ?_
            exact ⟨_, ds, true, rfl, HVS5.out, HLO5.out, HZ3.out, (fun h => by cases h), fun _ => ⟨HRD.out, HRR.out, by rw [HTX.out, HTT.out]⟩, fun vs h1 h2 h3 h4 => ⟨rfl, HLQ.out vs h1 h2 h3 h4⟩⟩
          · have d : (tx.toList == text.toList) = false := by rw [beq_str]; exact decide_eq_false ht
            have HNO := Lib.hid (fun (vs : List Vd) (h1 : RightD p) (h2 : vs.length = p.q.length) (h3 : ∀ v ∈ vs, OkV v) (h4 : text = textR p.l p.q vs) => ht (by rw [← HTX.out, HLQ.out vs h1 h2 h3 h4, ← h4]))
            clear ht
            go_wp2
            refine bodyPost_ret (v := .tuple #[.slice none 0 0, .bool false]) (by simp [results, Tryz.results38, go_sem]) rfl ?_
            exact readRP_no HLO5.out HNO.out
end Go.Proofs.YtomhekohcadijaaGreatDoor
