/- The statement HighSteps: the walk of the law (printed by gen_law12p.py). Roles and statements among a law's arguments: opened to data, and read again in a later world. Rows of statements among a law's arguments: opened. Policies among a law's arguments: opened. What the proofs of tied cards over math/bits.deBruijn64tab share: the world of the witness, the table's cells, roles and queries opened. -/
import Derived.Test.YtnnieegddbcfcaaGreatDoorPart17
import Derived.Test.YtnnieegddbcfcaaGreatDoorPart5
import Derived.ProofKit
import Derived.OpenShut
import Derived.ChangeMaps5
import Derived.Deep.Strs
import Derived.Test.YtnnieegddbcfcaaGreatDoorPart3
import Derived.Deep.Slices
import Derived.Test.YtnnieegddbcfcaaGreatDoorCards
import Derived.Test.YtnnieegddbcfcaaGreatDoorTie
import Derived.Test.YtnnieegddbcfcaaGreatDoorPart8
import Derived.Lay
import Derived.Deep.DeepHandedRow
import Derived.Lib.LaidTab
import Derived.Shelf.Strings.Shaped
import Derived.HandedShaped
namespace Go.Proofs.YtnnieegddbcfcaaGreatDoor
open Go.RowKit Go.Shelf

/-- A policy with other roles that may not grow, which it names already. -/
theorem PolX.regrow {w : World} {v0 v1 v2 v3 vg : Value} {l : List St} {g h gs : List Rl} {qs : List Qv} {F : Qv → List ByteArray} {PS NS : List ByteArray} (P : PolX w v0 v1 v2 v3 l g h qs F PS NS) (hv : SlA w 2 vg gs.length (gs.flatMap Rl.cells)) (hl : gs.length ≤ 100)
    (hm : ∀ x ∈ gs, x ∈ g ∨ (x.o ∈ PS ∧ x.n ∈ NS)) (hg : ∀ x ∈ g, x ∈ gs) : PolX w v0 vg v2 v3 l gs h qs F PS NS := by
  have hin : ∀ x ∈ gs, x.o ∈ PS ∧ x.n ∈ NS := fun x hx => (hm x hx).elim (P.inG x) id
  have up : ∀ r, r ∈ allRoles l g h qs → r ∈ allRoles l gs h qs := by
    intro r hr
    unfold allRoles at hr ⊢
    simp only [List.mem_append] at hr ⊢
    rcases hr with ((hr | hr) | hr) | hr
    · exact .inl (.inl (.inl hr))
    · exact .inl (.inl (.inr (hg r hr)))
    · exact .inl (.inr hr)
    · exact .inr hr
  have down : ∀ r, r ∈ allRoles l gs h qs → r ∈ allRoles l g h qs ∨ (r.o ∈ PS ∧ r.n ∈ NS) := by
    intro r hr
    unfold allRoles at hr ⊢
    simp only [List.mem_append] at hr ⊢
    rcases hr with ((hr | hr) | hr) | hr
    · exact .inl (.inl (.inl (.inl hr)))
    · exact .inr (hin r hr)
    · exact .inl (.inl (.inr hr))
    · exact .inl (.inr hr)
  refine ⟨⟨P.at_.rs, hv, P.at_.rh, P.at_.rq, P.at_.ls, fun x hx => ?_, P.at_.lh, P.at_.lq⟩, P.hl, hl, P.hh, P.hq, P.hF, P.hs, P.hT, ?_, ?_, P.hps, P.hns, P.rl, P.rP, P.rN⟩
  · have h1 := isP_size (P.rP _ (hin x hx).1)
    have h2 := isP_size (P.rN _ (hin x hx).2)
    exact ⟨by omega, by omega⟩
  · refine Eq.trans ?_ P.eP
    refine new_congr (fun x => ?_)
    have hPS : ∀ y, y ∈ PS → y ∈ allPrins l g h qs F := fun y hy => by rw [← P.eP, new_mem] at hy; exact hy
    have hPm : ∀ y, y ∈ allPrins l g h qs F ↔ ((∃ r ∈ allRoles l g h qs, r.o = y) ∨ y ∈ l.flatMap whoS) ∨ y ∈ qs.flatMap F := fun y => by unfold allPrins; rw [List.mem_append, List.mem_append, List.mem_map]
    rw [hPm]
    unfold allPrins
    rw [List.mem_append, List.mem_append, List.mem_map]
    constructor
    · rintro ((⟨r, hr, e⟩ | hx) | hx)
      · rcases down r hr with h1 | h1
        · exact .inl (.inl ⟨r, h1, e⟩)
        · rw [← e]; exact (hPm _).1 (hPS _ h1.1)
      · exact .inl (.inr hx)
      · exact .inr hx
    · rintro ((⟨r, hr, e⟩ | hx) | hx)
      · exact .inl (.inl ⟨r, up r hr, e⟩)
      · exact .inl (.inr hx)
      · exact .inr hx
  · refine Eq.trans ?_ P.eN
    refine new_congr (fun x => ?_)
    have hNS : ∀ y, y ∈ NS → y ∈ allNames l g h qs := fun y hy => by rw [← P.eN, new_mem] at hy; exact hy
    have hNm : ∀ y, y ∈ allNames l g h qs ↔ (∃ r ∈ allRoles l g h qs, r.n = y) ∨ y ∈ l.flatMap viaS := fun y => by unfold allNames; rw [List.mem_append, List.mem_map]
    rw [hNm]
    unfold allNames
    rw [List.mem_append, List.mem_map]
    constructor
    · rintro (⟨r, hr, e⟩ | hx)
      · rcases down r hr with h1 | h1
        · exact .inl ⟨r, h1, e⟩
        · rw [← e]; exact (hNm _).1 (hNS _ h1.2)
      · exact .inr hx
    · rintro (⟨r, hr, e⟩ | hx)
      · exact .inl ⟨r, up r hr, e⟩
      · exact .inr hx
/-- The second policy's block, and its row of roles that may not grow. -/
structure StepQ (w1 : World) (v0 v2 v3 vg : Value) (gs : List Rl) (wr : World) : Prop where
  low : Below w1.heap.size w1 wr
  q : Blk wr w1.heap.size #[v0, vg, v2, v3]
  own : wr.ownsRow (w1.heap.size + 1) 28 2 vg gs.length (gs.flatMap Rl.cells)
section
variable {w1 wr w' : World} {v0 v2 v3 vg : Value} {gs : List Rl}
theorem StepQ.later (h : StepQ w1 v0 v2 v3 vg gs wr) (hb : Below wr.heap.size wr w') : StepQ w1 v0 v2 v3 vg gs w' := ⟨h.low.trans (hb.mono h.low.size), h.q.below hb, own_below h.own hb⟩
theorem StepQ.drew (h : StepQ w1 v0 v2 v3 vg gs wr) : StepQ w1 v0 v2 v3 vg gs wr.drew := h.later (below_drew (Below.refl _ _))
theorem Blk.drew {g : Nat} {cs : Array Value} (h : Blk wr g cs) : Blk wr.drew g cs := h.below (below_drew (Below.refl _ _))
theorem StepQ.store (h1 : Below w1.heap.size w1 wr) (h2 : Blk wr w1.heap.size #[v0, vg, v2, v3]) {vn : Value} (h3 : wr.ownsRow (w1.heap.size + 1) 28 2 vn gs.length (gs.flatMap Rl.cells)) :
    StepQ w1 v0 v2 v3 vn gs (wr.setCell ⟨w1.heap.size, 1, none⟩ vn) :=
  ⟨h1.setCell (Nat.le_refl _) _, (h2.set 1 vn (by simp)).congr rfl, ownsRow_setCell_below h3 (Nat.lt_succ_self _) vn⟩
theorem StepQ.push (h : StepQ w1 v0 v2 v3 vg gs wr) {w3 : World} {x : Rl} {o : Obj} {a' : Option Addr} {cap' : Nat} (hown : w3.ownsRow (w1.heap.size + 1) 28 2 (.slice a' (gs.length + 1) cap') (gs.length + 1) (gs.flatMap Rl.cells ++ x.cells)) (hg : (wr.alloc o).grownBy w3 vg.ownBlock) :
    StepQ w1 v0 v2 v3 (.slice a' (gs.length + 1) cap') (gs ++ [x]) (w3.setCell ⟨w1.heap.size, 1, none⟩ (.slice a' (gs.length + 1) cap')) ∧ Blk w3 w1.heap.size #[v0, vg, v2, v3] := by
  have hq : Blk w3 w1.heap.size #[v0, vg, v2, v3] := (h.q.alloc o).grown hg (own_gt_ne h.own (Nat.lt_succ_self _))
  have hl : Below w1.heap.size w1 w3 := below_own (h.low.alloc h.low.size o) (h.own.alloc _) hg (by have := h.q.2.2; simp; omega) (Nat.le_succ _)
  exact ⟨StepQ.store hl hq (by rw [List.length_append, List.flatMap_append]; simpa using hown), hq⟩
end
structure Lw (w0 wx : World) : Prop where
  low : Below w0.heap.size w0 wx
theorem Lw.later {w0 wx w' : World} (h : Lw w0 wx) (hb : Below wx.heap.size wx w') : Lw w0 w' := ⟨h.low.trans (hb.mono h.low.size)⟩
def inPN (PS NS : List ByteArray) (x : Rl) : Bool := hasB PS x.o && hasB NS x.n
set_option maxRecDepth 100000 in
set_option maxHeartbeats 32000000 in
theorem law12_HighSteps (v0 v1 v2 v3 vm : Value) (l : List St) (g h more : List Rl) (qs : List Qv) (r : Rl) (w : World) (hp : PolAt w v0 v1 v2 v3 l g h qs) (hm : SlA w 2 vm more.length (more.flatMap Rl.cells)) (hT : TB w) :
    Calls Tryz.prog 7 #[pv v0 v1 v2 v3, vm, rv r] w fun e w' => e = .returned (.bool true) ∧ Below w.heap.size w w' := by
  have HL := Lib.hid (fun W hb => law12_lives W (hT.below (w' := W) hb))
  have SM := Lib.hid (fun W hb => law12_small v0 v1 v2 v3 l g h qs W (hp.below (w' := W) hb) (hT.below hb))
  have HM := Lib.hid hm
  obtain ⟨a0, c0, rfl⟩ := hp.rs.form
  obtain ⟨a1, c1, rfl⟩ := hp.rg.form
  obtain ⟨a2, c2, rfl⟩ := hp.rh.form
  obtain ⟨a3, c3, rfl⟩ := hp.rq.form
  obtain ⟨am, cm, rfl⟩ := hm.form
  obtain ⟨r1, r2⟩ := r
  have HT := Lib.hid (show TwoAt w #[.slice a0 l.length c0, .slice a1 g.length c1, .slice a2 h.length c2, .slice a3 qs.length c3] #[.string r1, .string r2] ((w.alloc (.cells #[.slice a0 l.length c0, .slice a1 g.length c1, .slice a2 h.length c2, .slice a3 qs.length c3] 26)).alloc (.cells #[.string r1, .string r2] 28))
    from ⟨(Blk.new w _ _).alloc _, (by have := Blk.new (w.alloc (.cells #[.slice a0 l.length c0, .slice a1 g.length c1, .slice a2 h.length c2, .slice a3 qs.length c3] 26)) #[.string r1, .string r2] 28; simpa using this), ((Below.refl _ _).alloc (Nat.le_refl _) _).alloc (by simp) _⟩)
  clear hp hT hm
  go_enter Tryz.func7, Tryz.ntmps7
  go_wp2_with fail
  refine (SM.out _ HT.out.low).mono ?_
  rintro e w1 ⟨⟨bp, rfl, hlp⟩, hb1⟩
  have HT := Lib.hid (HT.out.later hb1)
  have HLP := Lib.hid hlp
  clear hlp SM
  cases bp with
  | false =>
    go_wp2_with fail
    refine (HL.out _ HT.out.low).mono ?_
    rintro e w6 ⟨rfl, hb6⟩
    have T6 := Lib.hid (HT.out.later hb6)
    clear hb6
    go_wp2
    go_ret
    exact ⟨rfl, T6.out.low⟩
  | true =>
  obtain ⟨F, PS, NS, hP, ⟨h6, h4⟩, _, hl30, hg30, hh30, hq30⟩ := HLP.out (by first | rfl | trivial)
  have HP := Lib.hid (hP.below hb1)
  clear HLP hP hb1
  by_cases hmo : 10 < more.length
  · have d0 : decide ((10 : Int) < (more.length : Int)) = true := by rw [decide_eq_true_iff]; omega
    go_wp2_with fail
    refine (HL.out _ HT.out.low).mono ?_
    rintro e w6 ⟨rfl, hb6⟩
    have T6 := Lib.hid (HT.out.later hb6)
    clear hb6
    go_wp2
    go_ret
    exact ⟨rfl, T6.out.low⟩
  have d0 : decide ((10 : Int) < (more.length : Int)) = false := by rw [decide_eq_false_iff_not]; omega
  have HM := Lib.hid (HM.out.below HT.out.low)
  obtain ⟨ca, fa, za⟩ := HT.out.a
  have hbq : Below w1.heap.size w1 (w1.alloc (.cells #[.slice a0 l.length c0, .slice a1 g.length c1, .slice a2 h.length c2, .slice a3 qs.length c3] 26)) := (Below.refl _ _).alloc (Nat.le_refl _) _
  have HQ0 := Lib.hid (Blk.new w1 #[.slice a0 l.length c0, .slice a1 g.length c1, .slice a2 h.length c2, .slice a3 qs.length c3] 26)
  have HT0 := Lib.hid ((HT.out.later hbq).a)
  have HG0 := Lib.hid ((HP.out.at_.rg.below hbq).below ((Below.refl (w1.alloc (.cells #[.slice a0 l.length c0, .slice a1 g.length c1, .slice a2 h.length c2, .slice a3 qs.length c3] 26)).heap.size _).alloc (Nat.le_refl _) (.cells #[] 28)))
  have HB0 := Lib.hid hbq
  have own0 := (World.ownsRow_made (e := 28) (size := 2) (w1.alloc (.cells #[.slice a0 l.length c0, .slice a1 g.length c1, .slice a2 h.length c2, .slice a3 qs.length c3] 26)) #[] 0 (Nat.le_refl _) (Nat.zero_le _) (by simp))
  have hz1 : (w1.alloc (.cells #[.slice a0 l.length c0, .slice a1 g.length c1, .slice a2 h.length c2, .slice a3 qs.length c3] 26)).heap.size = w1.heap.size + 1 := by simp
  rw [hz1] at own0
  clear hbq
  go_wp2_with (at_builtin; refine halt_ ?_)
  unfold Halt_
  refine app_row Tryz.underlying23 rl_info' rfl (by decide) (by decide) rfl _ _ rfl (w1.heap.size + 1) rfl own0 rfl HG0.out (rls_one _) (by omega) (by simp) ?_
  intro x1 y1 w2 hown2 hg2
  have hb2 : Below w1.heap.size w1 w2 := below_own (HB0.out.alloc HB0.out.size _) own0 hg2 (by simp; omega) (Nat.le_succ _)
  have hq2 : Blk w2 w1.heap.size #[.slice a0 l.length c0, .slice a1 g.length c1, .slice a2 h.length c2, .slice a3 qs.length c3] := (HQ0.out.alloc _).grown hg2 (own_gt_ne own0 (Nat.lt_succ_self _))
  have HS := Lib.hid (StepQ.store (gs := g) hb2 hq2 (vn := .slice x1 g.length y1) (by simpa using hown2))
  have HSz := Lib.hid (show w2.ownsRow (w1.heap.size + 1) 28 2 (.slice x1 g.length y1) g.length (g.flatMap Rl.cells) by simpa using hown2)
  obtain ⟨cq, fq, zq⟩ := hq2
  clear hown2 hg2 own0 HQ0 HT0 HG0 HB0 hb2 ca fa za
  simp only [Nat.zero_add]
  go_wp2_with fail
  go_loopw [30] (fun i wr => ∃ (k : Nat) (gs : List Rl) (vg : Value), k ≤ more.length ∧ i = .int .i64 k ∧ Hid (gs = g ++ (more.take k).filter (inPN PS NS)) ∧ Hid (StepQ w1 (.slice a0 l.length c0) (.slice a2 h.length c2) (.slice a3 qs.length c3) vg gs wr)) (fun i _ => more.length - (intOf i).toNat)
  case atStart => exact ⟨0, g, _, by omega, rfl, Lib.hid (by simp), HS⟩
  case round =>
    clear HS cq fq zq HSz
    obtain ⟨k, gs, vg, hk, rfl, HE, HS⟩ := hrel
    obtain ⟨ga, gc, rfl⟩ := own_form HS.out.own
    have hgl : gs.length ≤ 30 + 10 := by
      rw [HE.out, List.length_append]
      have h1 := List.length_filter_le (inPN PS NS) (more.take k)
      have h2 := List.length_take_le k more
      omega
    by_cases hlt : k < more.length
    · obtain ⟨b1, o1, e1', he1, hc1, hm1', hb1, hx1⟩ := (HM.out.below HS.out.low).pos (by omega)
      simp only [Value.slice.injEq, true_and] at he1
      obtain ⟨rfl, rfl⟩ := he1
      obtain ⟨p0, p1⟩ := rl_cell hx1 k hlt
      have HF := Lib.hid (show (more.take (k + 1)).filter (inPN PS NS) = (more.take k).filter (inPN PS NS) ++ (if inPN PS NS more[k] = true then [more[k]] else []) by rw [List.take_succ_eq_append_getElem hlt, List.filter_append, List.filter_cons, List.filter_nil])
      clear hx1
      generalize more[k] = x at *
      obtain ⟨x1, x2⟩ := x
      have hba : Below wr.heap.size wr (wr.alloc (.cells #[.string x1, .string x2] 28)) := (Below.refl _ _).alloc (Nat.le_refl _) _
      have HS1 := Lib.hid (HS.out.later hba)
      have HX1 := Lib.hid (Blk.new wr #[.string x1, .string x2] 28)
      have HEN0 := Lib.hid (fun (h1 : hasB PS x1 = true) (h2 : hasB NS x2 = true) => show gs ++ [⟨x1, x2⟩] = g ++ (more.take (k + 1)).filter (inPN PS NS) by rw [HF.out, HE.out, if_pos (by unfold inPN; rw [h1, h2]; rfl), List.append_assoc])
      have HEN1 := Lib.hid (fun (h1 : (hasB PS x1 && hasB NS x2) = false) => show gs = g ++ (more.take (k + 1)).filter (inPN PS NS) by rw [HF.out, HE.out, if_neg (by unfold inPN; rw [h1]; exact Bool.false_ne_true), List.append_nil])
      clear hba HS
      cases e1 : hasB PS x1 with
      | false =>
        have E1 := Lib.hid e1
        clear e1
        go_wp2_with fail
        refine wp_region_held_drew (S := (fun W => (∀ o, W.cell? ⟨w.heap.size, o, none⟩ = (#[.slice a0 l.length c0, .slice a1 g.length c1, .slice a2 h.length c2, .slice a3 qs.length c3] : Array Value)[o]?) ∧ (∀ o, W.cell? ⟨wr.heap.size, o, none⟩ = (#[.string x1, .string x2] : Array Value)[o]?))) (by kernel_rfl) ⟨fun o => (HT.out.later HS1.out.drew.low).a.1 o, HX1.out.drew.1⟩ (fun hHeld => ?_)
        have HS := HS1.out.drew
        have HX := HX1.out.drew
        obtain ⟨wk, hwk⟩ : ∃ W, W = (wr.alloc (.cells #[.string x1, .string x2] 28)).drew := ⟨_, rfl⟩
        rw [← hwk] at HS HX hHeld ⊢
        clear hwk HS1 HX1
        (refine held_yes (v := ?_) 0 rfl (by kernel_rfl) (by kernel_rfl) (by kernel_rfl) (fun _ _ _ h => h) (by rfl) (by assumption) ?_ ?_; rotate_left; (focus ((intro w hSw); (try dsimp only at hSw); go_simp; (try with_reducible rfl))); (try simp only [Act.put, List.setIfInBounds_toArray, List.set_cons_zero, List.set_cons_succ])); (refine held_yes (v := ?_) 2 rfl (by kernel_rfl) (by kernel_rfl) (by kernel_rfl) (fun _ _ _ h => h) (by rfl) (by assumption) ?_ ?_; rotate_left; (focus ((intro w hSw); (try dsimp only at hSw); go_simp; (try with_reducible rfl))); (try simp only [Act.put, List.setIfInBounds_toArray, List.set_cons_zero, List.set_cons_succ])); (refine held_yes (v := ?_) 3 rfl (by kernel_rfl) (by kernel_rfl) (by kernel_rfl) (fun _ _ _ h => h) (by rfl) (by assumption) ?_ ?_; rotate_left; (focus ((intro w hSw); (try dsimp only at hSw); go_simp; (try with_reducible rfl))); (try simp only [Act.put, List.setIfInBounds_toArray, List.set_cons_zero, List.set_cons_succ]))
        (refine held_call 1 rfl (by kernel_rfl) (fun K hK => ?_); go_simp)
        go_at_call 34; refine (ref5_PrinsX (HP.out.below HS.low)).mono ?_; rintro e wz1 ⟨vp, rfl, hp1, hbq⟩; obtain ⟨pa, pc, rfl⟩ := own_form hp1
        have HS := HS.later hbq
        have HX := HX.below hbq
        have HP1 := Lib.hid (Sl.of_own hp1)
        clear hbq
        clear hp1
        (refine hK.out _ _ (⟨fun o => (HT.out.later HS.low).a.1 o, HX.1⟩) (fun hHeld => ?_); clear hK K; (try simp only [Act.put, List.setIfInBounds_toArray, List.set_cons_zero, List.set_cons_succ]))
        (refine held_call 4 rfl (by kernel_rfl) (fun K hK => ?_); go_simp)
        go_at_call 48; refine (ref1_HasB _ PS x1 _ HP1.out.a).mono ?_; rintro e wz4 ⟨rfl, rfl⟩; rw [E1.out]
        (refine hK.out _ _ (⟨fun o => (HT.out.later HS.low).a.1 o, HX.1⟩) (fun hHeld => ?_); clear hK K; (try simp only [Act.put, List.setIfInBounds_toArray, List.set_cons_zero, List.set_cons_succ]))
        (refine held_yes (v := ?_) 5 rfl (by kernel_rfl) (by kernel_rfl) (by kernel_rfl) (fun _ _ _ h => h) (by rfl) (by assumption) ?_ ?_; rotate_left; (focus ((intro w hSw); (try dsimp only at hSw); go_simp; (try with_reducible rfl))); (try simp only [Act.put, List.setIfInBounds_toArray, List.set_cons_zero, List.set_cons_succ]))
        (refine held_no 6 rfl (by kernel_rfl) (by kernel_rfl) (by kernel_rfl) (fun _ _ _ h => h) (by rfl) (by assumption) ?_; (try simp only [Act.put, List.setIfInBounds_toArray, List.set_cons_zero, List.set_cons_succ])); (refine held_no 8 rfl (by kernel_rfl) (by kernel_rfl) (by kernel_rfl) (fun _ _ _ h => h) (by rfl) (by assumption) ?_; (try simp only [Act.put, List.setIfInBounds_toArray, List.set_cons_zero, List.set_cons_succ]))
        (refine held_no 7 rfl (by kernel_rfl) (by kernel_rfl) (by kernel_rfl) (fun _ _ _ h => h) (by rfl) (by assumption) ?_; (try simp only [Act.put, List.setIfInBounds_toArray, List.set_cons_zero, List.set_cons_succ])); (refine held_no 9 rfl (by kernel_rfl) (by kernel_rfl) (by kernel_rfl) (fun _ _ _ h => h) (by rfl) (by assumption) ?_; (try simp only [Act.put, List.setIfInBounds_toArray, List.set_cons_zero, List.set_cons_succ]))
        (refine held_no 10 rfl (by kernel_rfl) (by kernel_rfl) (by kernel_rfl) (fun _ _ _ h => h) (by rfl) (by assumption) ?_; (try simp only [Act.put, List.setIfInBounds_toArray, List.set_cons_zero, List.set_cons_succ]))
        (refine held_yes (v := ?_) 11 rfl (by kernel_rfl) (by kernel_rfl) (by kernel_rfl) (fun _ _ _ h => h) (by rfl) (by assumption) ?_ ?_; rotate_left; (focus ((intro w hSw); (try dsimp only at hSw); go_simp; (try with_reducible rfl))); (try simp only [Act.put, List.setIfInBounds_toArray, List.set_cons_zero, List.set_cons_succ]))
        refine wpAnyH_done (by kernel_rfl) ?_ _
        have HSr := Lib.hid HS
        have HXr := Lib.hid HX
        clear HS HX
        have HEN := Lib.hid (HEN1.out (by rw [E1.out]; rfl))
        go_wp2_with fail
        exact ⟨⟨k + 1, gs, _, by omega, by go_num, HEN, HSr⟩, by simp [intOf]; omega⟩
      | true =>
        cases e2 : hasB NS x2 with
        | false =>
          have E1 := Lib.hid e1
          clear e1
          have E2 := Lib.hid e2
          clear e2
          go_wp2_with fail
          refine wp_region_held_drew (S := (fun W => (∀ o, W.cell? ⟨w.heap.size, o, none⟩ = (#[.slice a0 l.length c0, .slice a1 g.length c1, .slice a2 h.length c2, .slice a3 qs.length c3] : Array Value)[o]?) ∧ (∀ o, W.cell? ⟨wr.heap.size, o, none⟩ = (#[.string x1, .string x2] : Array Value)[o]?))) (by kernel_rfl) ⟨fun o => (HT.out.later HS1.out.drew.low).a.1 o, HX1.out.drew.1⟩ (fun hHeld => ?_)
          have HS := HS1.out.drew
          have HX := HX1.out.drew
          obtain ⟨wk, hwk⟩ : ∃ W, W = (wr.alloc (.cells #[.string x1, .string x2] 28)).drew := ⟨_, rfl⟩
          rw [← hwk] at HS HX hHeld ⊢
          clear hwk HS1 HX1
          (refine held_yes (v := ?_) 0 rfl (by kernel_rfl) (by kernel_rfl) (by kernel_rfl) (fun _ _ _ h => h) (by rfl) (by assumption) ?_ ?_; rotate_left; (focus ((intro w hSw); (try dsimp only at hSw); go_simp; (try with_reducible rfl))); (try simp only [Act.put, List.setIfInBounds_toArray, List.set_cons_zero, List.set_cons_succ])); (refine held_yes (v := ?_) 2 rfl (by kernel_rfl) (by kernel_rfl) (by kernel_rfl) (fun _ _ _ h => h) (by rfl) (by assumption) ?_ ?_; rotate_left; (focus ((intro w hSw); (try dsimp only at hSw); go_simp; (try with_reducible rfl))); (try simp only [Act.put, List.setIfInBounds_toArray, List.set_cons_zero, List.set_cons_succ])); (refine held_yes (v := ?_) 3 rfl (by kernel_rfl) (by kernel_rfl) (by kernel_rfl) (fun _ _ _ h => h) (by rfl) (by assumption) ?_ ?_; rotate_left; (focus ((intro w hSw); (try dsimp only at hSw); go_simp; (try with_reducible rfl))); (try simp only [Act.put, List.setIfInBounds_toArray, List.set_cons_zero, List.set_cons_succ]))
          (refine held_call 1 rfl (by kernel_rfl) (fun K hK => ?_); go_simp)
          go_at_call 34; refine (ref5_PrinsX (HP.out.below HS.low)).mono ?_; rintro e wz1 ⟨vp, rfl, hp1, hbq⟩; obtain ⟨pa, pc, rfl⟩ := own_form hp1
          have HS := HS.later hbq
          have HX := HX.below hbq
          have HP1 := Lib.hid (Sl.of_own hp1)
          clear hbq
          clear hp1
          (refine hK.out _ _ (⟨fun o => (HT.out.later HS.low).a.1 o, HX.1⟩) (fun hHeld => ?_); clear hK K; (try simp only [Act.put, List.setIfInBounds_toArray, List.set_cons_zero, List.set_cons_succ]))
          (refine held_call 4 rfl (by kernel_rfl) (fun K hK => ?_); go_simp)
          go_at_call 48; refine (ref1_HasB _ PS x1 _ HP1.out.a).mono ?_; rintro e wz4 ⟨rfl, rfl⟩; rw [E1.out]
          (refine hK.out _ _ (⟨fun o => (HT.out.later HS.low).a.1 o, HX.1⟩) (fun hHeld => ?_); clear hK K; (try simp only [Act.put, List.setIfInBounds_toArray, List.set_cons_zero, List.set_cons_succ]))
          (refine held_yes (v := ?_) 5 rfl (by kernel_rfl) (by kernel_rfl) (by kernel_rfl) (fun _ _ _ h => h) (by rfl) (by assumption) ?_ ?_; rotate_left; (focus ((intro w hSw); (try dsimp only at hSw); go_simp; (try with_reducible rfl))); (try simp only [Act.put, List.setIfInBounds_toArray, List.set_cons_zero, List.set_cons_succ])); (refine held_yes (v := ?_) 6 rfl (by kernel_rfl) (by kernel_rfl) (by kernel_rfl) (fun _ _ _ h => h) (by rfl) (by assumption) ?_ ?_; rotate_left; (focus ((intro w hSw); (try dsimp only at hSw); go_simp; (try with_reducible rfl))); (try simp only [Act.put, List.setIfInBounds_toArray, List.set_cons_zero, List.set_cons_succ])); (refine held_yes (v := ?_) 8 rfl (by kernel_rfl) (by kernel_rfl) (by kernel_rfl) (fun _ _ _ h => h) (by rfl) (by assumption) ?_ ?_; rotate_left; (focus ((intro w hSw); (try dsimp only at hSw); go_simp; (try with_reducible rfl))); (try simp only [Act.put, List.setIfInBounds_toArray, List.set_cons_zero, List.set_cons_succ])); (refine held_yes (v := ?_) 9 rfl (by kernel_rfl) (by kernel_rfl) (by kernel_rfl) (fun _ _ _ h => h) (by rfl) (by assumption) ?_ ?_; rotate_left; (focus ((intro w hSw); (try dsimp only at hSw); go_simp; (try with_reducible rfl))); (try simp only [Act.put, List.setIfInBounds_toArray, List.set_cons_zero, List.set_cons_succ]))
          (refine held_call 7 rfl (by kernel_rfl) (fun K hK => ?_); go_simp)
          go_at_call 47; refine (ref5_NamesX (HP.out.below HS.low)).mono ?_; rintro e wz7 ⟨vn, rfl, hn1, hbq⟩; obtain ⟨na, nc, rfl⟩ := own_form hn1
          have HS := HS.later hbq
          have HX := HX.below hbq
          have HP1 := Lib.hid (HP1.out.below hbq)
          have HN1 := Lib.hid (Sl.of_own hn1)
          clear hbq
          clear hn1
          (refine hK.out _ _ (⟨fun o => (HT.out.later HS.low).a.1 o, HX.1⟩) (fun hHeld => ?_); clear hK K; (try simp only [Act.put, List.setIfInBounds_toArray, List.set_cons_zero, List.set_cons_succ]))
          (refine held_call 10 rfl (by kernel_rfl) (fun K hK => ?_); go_simp)
          go_at_call 48; refine (ref1_HasB _ NS x2 _ HN1.out.a).mono ?_; rintro e wz10 ⟨rfl, rfl⟩; rw [E2.out]
          (refine hK.out _ _ (⟨fun o => (HT.out.later HS.low).a.1 o, HX.1⟩) (fun hHeld => ?_); clear hK K; (try simp only [Act.put, List.setIfInBounds_toArray, List.set_cons_zero, List.set_cons_succ]))
          (refine held_yes (v := ?_) 11 rfl (by kernel_rfl) (by kernel_rfl) (by kernel_rfl) (fun _ _ _ h => h) (by rfl) (by assumption) ?_ ?_; rotate_left; (focus ((intro w hSw); (try dsimp only at hSw); go_simp; (try with_reducible rfl))); (try simp only [Act.put, List.setIfInBounds_toArray, List.set_cons_zero, List.set_cons_succ]))
          refine wpAnyH_done (by kernel_rfl) ?_ _
          have HSr := Lib.hid HS
          have HXr := Lib.hid HX
          clear HS HX
          have HEN := Lib.hid (HEN1.out (by rw [E1.out, E2.out]; rfl))
          go_wp2_with fail
          exact ⟨⟨k + 1, gs, _, by omega, by go_num, HEN, HSr⟩, by simp [intOf]; omega⟩
        | true =>
          have E1 := Lib.hid e1
          clear e1
          have E2 := Lib.hid e2
          clear e2
          go_wp2_with fail
          refine wp_region_held_drew (S := (fun W => (∀ o, W.cell? ⟨w.heap.size, o, none⟩ = (#[.slice a0 l.length c0, .slice a1 g.length c1, .slice a2 h.length c2, .slice a3 qs.length c3] : Array Value)[o]?) ∧ (∀ o, W.cell? ⟨wr.heap.size, o, none⟩ = (#[.string x1, .string x2] : Array Value)[o]?))) (by kernel_rfl) ⟨fun o => (HT.out.later HS1.out.drew.low).a.1 o, HX1.out.drew.1⟩ (fun hHeld => ?_)
          have HS := HS1.out.drew
          have HX := HX1.out.drew
          obtain ⟨wk, hwk⟩ : ∃ W, W = (wr.alloc (.cells #[.string x1, .string x2] 28)).drew := ⟨_, rfl⟩
          rw [← hwk] at HS HX hHeld ⊢
          clear hwk HS1 HX1
          (refine held_yes (v := ?_) 0 rfl (by kernel_rfl) (by kernel_rfl) (by kernel_rfl) (fun _ _ _ h => h) (by rfl) (by assumption) ?_ ?_; rotate_left; (focus ((intro w hSw); (try dsimp only at hSw); go_simp; (try with_reducible rfl))); (try simp only [Act.put, List.setIfInBounds_toArray, List.set_cons_zero, List.set_cons_succ])); (refine held_yes (v := ?_) 2 rfl (by kernel_rfl) (by kernel_rfl) (by kernel_rfl) (fun _ _ _ h => h) (by rfl) (by assumption) ?_ ?_; rotate_left; (focus ((intro w hSw); (try dsimp only at hSw); go_simp; (try with_reducible rfl))); (try simp only [Act.put, List.setIfInBounds_toArray, List.set_cons_zero, List.set_cons_succ])); (refine held_yes (v := ?_) 3 rfl (by kernel_rfl) (by kernel_rfl) (by kernel_rfl) (fun _ _ _ h => h) (by rfl) (by assumption) ?_ ?_; rotate_left; (focus ((intro w hSw); (try dsimp only at hSw); go_simp; (try with_reducible rfl))); (try simp only [Act.put, List.setIfInBounds_toArray, List.set_cons_zero, List.set_cons_succ]))
          (refine held_call 1 rfl (by kernel_rfl) (fun K hK => ?_); go_simp)
          go_at_call 34; refine (ref5_PrinsX (HP.out.below HS.low)).mono ?_; rintro e wz1 ⟨vp, rfl, hp1, hbq⟩; obtain ⟨pa, pc, rfl⟩ := own_form hp1
          have HS := HS.later hbq
          have HX := HX.below hbq
          have HP1 := Lib.hid (Sl.of_own hp1)
          clear hbq
          clear hp1
          (refine hK.out _ _ (⟨fun o => (HT.out.later HS.low).a.1 o, HX.1⟩) (fun hHeld => ?_); clear hK K; (try simp only [Act.put, List.setIfInBounds_toArray, List.set_cons_zero, List.set_cons_succ]))
          (refine held_call 4 rfl (by kernel_rfl) (fun K hK => ?_); go_simp)
          go_at_call 48; refine (ref1_HasB _ PS x1 _ HP1.out.a).mono ?_; rintro e wz4 ⟨rfl, rfl⟩; rw [E1.out]
          (refine hK.out _ _ (⟨fun o => (HT.out.later HS.low).a.1 o, HX.1⟩) (fun hHeld => ?_); clear hK K; (try simp only [Act.put, List.setIfInBounds_toArray, List.set_cons_zero, List.set_cons_succ]))
          (refine held_yes (v := ?_) 5 rfl (by kernel_rfl) (by kernel_rfl) (by kernel_rfl) (fun _ _ _ h => h) (by rfl) (by assumption) ?_ ?_; rotate_left; (focus ((intro w hSw); (try dsimp only at hSw); go_simp; (try with_reducible rfl))); (try simp only [Act.put, List.setIfInBounds_toArray, List.set_cons_zero, List.set_cons_succ])); (refine held_yes (v := ?_) 6 rfl (by kernel_rfl) (by kernel_rfl) (by kernel_rfl) (fun _ _ _ h => h) (by rfl) (by assumption) ?_ ?_; rotate_left; (focus ((intro w hSw); (try dsimp only at hSw); go_simp; (try with_reducible rfl))); (try simp only [Act.put, List.setIfInBounds_toArray, List.set_cons_zero, List.set_cons_succ])); (refine held_yes (v := ?_) 8 rfl (by kernel_rfl) (by kernel_rfl) (by kernel_rfl) (fun _ _ _ h => h) (by rfl) (by assumption) ?_ ?_; rotate_left; (focus ((intro w hSw); (try dsimp only at hSw); go_simp; (try with_reducible rfl))); (try simp only [Act.put, List.setIfInBounds_toArray, List.set_cons_zero, List.set_cons_succ])); (refine held_yes (v := ?_) 9 rfl (by kernel_rfl) (by kernel_rfl) (by kernel_rfl) (fun _ _ _ h => h) (by rfl) (by assumption) ?_ ?_; rotate_left; (focus ((intro w hSw); (try dsimp only at hSw); go_simp; (try with_reducible rfl))); (try simp only [Act.put, List.setIfInBounds_toArray, List.set_cons_zero, List.set_cons_succ]))
          (refine held_call 7 rfl (by kernel_rfl) (fun K hK => ?_); go_simp)
          go_at_call 47; refine (ref5_NamesX (HP.out.below HS.low)).mono ?_; rintro e wz7 ⟨vn, rfl, hn1, hbq⟩; obtain ⟨na, nc, rfl⟩ := own_form hn1
          have HS := HS.later hbq
          have HX := HX.below hbq
          have HP1 := Lib.hid (HP1.out.below hbq)
          have HN1 := Lib.hid (Sl.of_own hn1)
          clear hbq
          clear hn1
          (refine hK.out _ _ (⟨fun o => (HT.out.later HS.low).a.1 o, HX.1⟩) (fun hHeld => ?_); clear hK K; (try simp only [Act.put, List.setIfInBounds_toArray, List.set_cons_zero, List.set_cons_succ]))
          (refine held_call 10 rfl (by kernel_rfl) (fun K hK => ?_); go_simp)
          go_at_call 48; refine (ref1_HasB _ NS x2 _ HN1.out.a).mono ?_; rintro e wz10 ⟨rfl, rfl⟩; rw [E2.out]
          (refine hK.out _ _ (⟨fun o => (HT.out.later HS.low).a.1 o, HX.1⟩) (fun hHeld => ?_); clear hK K; (try simp only [Act.put, List.setIfInBounds_toArray, List.set_cons_zero, List.set_cons_succ]))
          (refine held_yes (v := ?_) 11 rfl (by kernel_rfl) (by kernel_rfl) (by kernel_rfl) (fun _ _ _ h => h) (by rfl) (by assumption) ?_ ?_; rotate_left; (focus ((intro w hSw); (try dsimp only at hSw); go_simp; (try with_reducible rfl))); (try simp only [Act.put, List.setIfInBounds_toArray, List.set_cons_zero, List.set_cons_succ]))
          refine wpAnyH_done (by kernel_rfl) ?_ _
          have HSr := Lib.hid HS
          have HXr := Lib.hid HX
          clear HS HX
          obtain ⟨cx, fx, zx⟩ := HXr.out
          obtain ⟨cq, fq, zq⟩ := HSr.out.q
          have HEN := Lib.hid (HEN0.out E1.out E2.out)
          go_wp2_with (at_builtin; refine halt_ ?_)
          unfold Halt_
          refine app_own Tryz.underlying23 rl_info' rfl (by decide) (by decide) rfl _ _ rfl (w1.heap.size + 1) rfl (HSr.out.own.alloc _) [.string x1, .string x2] rfl (heap_new1 _ _) rfl (rlc_one ⟨x1, x2⟩) ?_ ?_ ?_
          · omega
          · have := HSr.out.q.2.2; simp; omega
          intro a' cap' w5 hown' hgrow
          obtain ⟨q1, q2⟩ := HSr.out.push (x := ⟨x1, x2⟩) hown' hgrow
          have HS5 := Lib.hid q1
          obtain ⟨c5, f5, z5⟩ := q2
          clear hown' hgrow q1 cx fx zx cq fq zq
          go_wp2_with fail
          exact ⟨⟨k + 1, gs ++ [⟨x1, x2⟩], _, by omega, by go_num, HEN, HS5⟩, by simp [intOf]; omega⟩
    · have HES := Lib.hid (show gs = g ++ more.filter (inPN PS NS) by rw [HE.out, List.take_of_length_le (show more.length ≤ k by omega)])
      have HSo := Lib.hid (Sl.of_own HS.out.own)
      obtain ⟨cq, fq, zq⟩ := HS.out.q
      go_wp2_with fail
      refine (ref5_SortO (.slice ga gs.length gc) gs wr HSo.out.a (by omega)).mono ?_
      rintro e w4 ⟨v4, rfl, ho4, hb4⟩
      have hsz := HS.out.q.2.2
      have HS4 := Lib.hid (HS.out.later hb4)
      have ho4' := own_mono ho4 (show w1.heap.size + 1 ≤ wr.heap.size by omega)
      obtain ⟨a4, c4', rfl⟩ := own_form ho4'
      have hgl4 := ord_lenR gs
      unfold ordR at hgl4
      have hsub := Lib.hid (fun x (hx : x ∈ g) => show x ∈ insAllR [] gs by rw [insAll_memR, HES.out]; exact .inr (List.mem_append.2 (.inl hx)))
      have hin := Lib.hid (fun x (hx : x ∈ insAllR [] gs) => show x ∈ g ∨ (x.o ∈ PS ∧ x.n ∈ NS) by
        rw [insAll_memR, HES.out] at hx
        rcases hx with hx | hx
        · cases hx
        · rcases List.mem_append.1 hx with hx | hx
          · exact .inl hx
          · have := (List.mem_filter.1 hx).2
            unfold inPN at this
            rw [Bool.and_eq_true, hasB_mem, hasB_mem] at this
            exact .inr this)
      generalize insAllR [] gs = g' at *
      have HS := Lib.hid (StepQ.store (gs := g') HS4.out.low HS4.out.q ho4')
      have HPQ := Lib.hid ((HP.out.below HS.out.low).regrow (Sl.of_own HS.out.own).a (by omega) hin.out hsub.out)
      have SUB := Lib.hid (maxS_sub (l := l) (A := PS) (B := NS) hsub.out)
      clear ho4 hb4 HSo cq fq zq hsub hin HES HE
      obtain ⟨cq, fq, zq⟩ := HS4.out.q
      clear ho4' hgl4
      go_wp2_with fail
      obtain ⟨wq, hwq⟩ : ∃ W, W = w4.setCell ⟨w1.heap.size, 1, none⟩ (.slice a4 g'.length c4') := ⟨_, rfl⟩
      rw [← hwq] at HS HPQ ⊢
      clear hwq HS4 cq fq zq
      obtain ⟨np, hnp'⟩ : ∃ n, n = PS.length + 1 := ⟨_, rfl⟩
      have hnp : IntKind.i64.wrap ((PS.length : Int) + 1) = (np : Int) := by rw [Go.IntWalk.i64_in _ (by omega), hnp']; rfl
      have HZ : Lw wq wq := ⟨Below.refl _ _⟩
      have hnp7 : np ≤ 7 := by omega
      have hml := maxS_len l g PS NS
      rw [← hnp'] at hml
      have hpx := putX_len PS
      rw [← hnp'] at hpx
      clear hnp'
      refine wp_region_held_drew (S := (fun W => ∀ o, W.cell? ⟨w.heap.size, o, none⟩ = (#[.slice a0 l.length c0, .slice a1 g.length c1, .slice a2 h.length c2, .slice a3 qs.length c3] : Array Value)[o]?)) (by kernel_rfl) (fun o => (HT.out.later HS.out.drew.low).a.1 o) (fun hHeld => ?_)
      have HZ := HZ.later (below_drew (Below.refl _ wq))
      have HS := HS.out.drew
      obtain ⟨wk, hwk⟩ : ∃ W, W = wq.drew := ⟨_, rfl⟩
      rw [← hwk] at HS HZ hHeld ⊢
      clear hwk
      (refine held_yes (v := ?_) 0 rfl (by kernel_rfl) (by kernel_rfl) (by kernel_rfl) (fun _ _ _ h => h) (by rfl) (by assumption) ?_ ?_; rotate_left; (focus ((intro w hSw); (try dsimp only at hSw); go_simp; (try with_reducible rfl))); (try simp only [Act.put, List.setIfInBounds_toArray, List.set_cons_zero, List.set_cons_succ])); (refine held_yes (v := ?_) 4 rfl (by kernel_rfl) (by kernel_rfl) (by kernel_rfl) (fun _ _ _ h => h) (by rfl) (by assumption) ?_ ?_; rotate_left; (focus ((intro w hSw); (try dsimp only at hSw); go_simp; (try with_reducible rfl))); (try simp only [Act.put, List.setIfInBounds_toArray, List.set_cons_zero, List.set_cons_succ]))
      (refine held_call 1 rfl (by kernel_rfl) (fun K hK => ?_); go_simp)
      go_at_call 34; refine (ref5_PrinsX (HP.out.below HS.low)).mono ?_; rintro e wz1 ⟨vp, rfl, hp1, hbq⟩; obtain ⟨pa, pc, rfl⟩ := own_form hp1
      have HS := HS.later hbq
      have HZ := HZ.later hbq
      clear hbq
      clear hp1
      (refine hK.out _ _ ((fun o => (HT.out.later HS.low).a.1 o)) (fun hHeld => ?_); clear hK K; (try simp only [Act.put, List.setIfInBounds_toArray, List.set_cons_zero, List.set_cons_succ]))
      (refine held_yes (v := ?_) 2 rfl (by kernel_rfl) (by kernel_rfl) (by kernel_rfl) (fun _ _ _ h => h) (by rfl) (by assumption) ?_ ?_; rotate_left; (focus ((intro w hSw); (try dsimp only at hSw); go_simp; (try with_reducible rfl))); (try simp only [Act.put, List.setIfInBounds_toArray, List.set_cons_zero, List.set_cons_succ])); (refine held_yes (v := ?_) 3 rfl (by kernel_rfl) (by kernel_rfl) (by kernel_rfl) (fun _ _ _ h => h) (by rfl) (by assumption) ?_ ?_; rotate_left; (focus ((intro w hSw); (try dsimp only at hSw); go_simp; (try with_reducible rfl))); (try simp only [Act.put, List.setIfInBounds_toArray, List.set_cons_zero, List.set_cons_succ]))
      (refine held_call 5 rfl (by kernel_rfl) (fun K hK => ?_); go_simp)
      go_at_call 47; refine (ref5_NamesX (HP.out.below HS.low)).mono ?_; rintro e wz5 ⟨vn, rfl, hn1, hbq⟩; obtain ⟨na, nc, rfl⟩ := own_form hn1
      have HS := HS.later hbq
      have HZ := HZ.later hbq
      clear hbq
      clear hn1
      (refine hK.out _ _ ((fun o => (HT.out.later HS.low).a.1 o)) (fun hHeld => ?_); clear hK K; (try simp only [Act.put, List.setIfInBounds_toArray, List.set_cons_zero, List.set_cons_succ]))
      (refine held_yes (v := ?_) 6 rfl (by kernel_rfl) (by kernel_rfl) (by kernel_rfl) (fun _ _ _ h => h) (by rfl) (by assumption) ?_ ?_; rotate_left; (focus ((intro w hSw); (try dsimp only at hSw); go_simp; (try with_reducible rfl))); (try simp only [Act.put, List.setIfInBounds_toArray, List.set_cons_zero, List.set_cons_succ])); (refine held_yes (v := ?_) 7 rfl (by kernel_rfl) (by kernel_rfl) (by kernel_rfl) (fun _ _ _ h => h) (by rfl) (by assumption) ?_ ?_; rotate_left; (focus ((intro w hSw); (try dsimp only at hSw); go_simp; (try with_reducible rfl))); (try simp only [Act.put, List.setIfInBounds_toArray, List.set_cons_zero, List.set_cons_succ])); (refine held_yes (v := ?_) 8 rfl (by kernel_rfl) (by kernel_rfl) (by kernel_rfl) (fun _ _ _ h => h) (by rfl) (by assumption) ?_ ?_; rotate_left; (focus ((intro w hSw); (try dsimp only at hSw); go_simp; (try with_reducible rfl))); (try simp only [Act.put, List.setIfInBounds_toArray, List.set_cons_zero, List.set_cons_succ]))
      refine wpAnyH_done (by kernel_rfl) ?_ _
      have HSr := Lib.hid HS
      have HZr := Lib.hid HZ
      clear HS HZ
      obtain ⟨ca, fa, za⟩ := (HT.out.later HSr.out.low).a
      go_wp2_with fail
      refine (high_Maximal (HP.out.below HSr.out.low) h6 h4).mono ?_
      rintro e w5 ⟨v5, rfl, hs5, hb5⟩
      obtain ⟨a5, c5, rfl⟩ := hs5.form
      have HSr := Lib.hid (HSr.out.later hb5)
      have HZr := Lib.hid (HZr.out.later hb5)
      clear hs5 hb5 ca fa za
      obtain ⟨psp, hpsp⟩ := least_ex (maxS l g PS NS)
      obtain ⟨psq, hpsq⟩ := least_ex (maxS l g' PS NS)
      have INS := Lib.hid (members_mono hpsq hpsp SUB.out ⟨r1, r2⟩)
      have HLP := Lib.hid hpsp
      have HLQ := Lib.hid hpsq
      clear hpsp hpsq SUB
      obtain ⟨s1, h1⟩ : ∃ s, np * np = s := ⟨_, rfl⟩
      obtain ⟨s2, h2⟩ : ∃ s, s1 * NS.length = s := ⟨_, rfl⟩
      obtain ⟨s3, h3⟩ : ∃ s, l.length + s2 = s := ⟨_, rfl⟩
      have l1 : s1 ≤ 7 * 7 := by rw [← h1]; exact Nat.mul_le_mul hnp7 hnp7
      have l2 : s2 ≤ 7 * 7 * 4 := by rw [← h2]; exact Nat.mul_le_mul l1 h4
      have l3 : s3 ≤ 300 := by omega
      rw [h1, h2, h3] at hml
      have E1 := Lib.hid (mul_wrap h1 l1 (by decide))
      have E2 := Lib.hid (mul_wrap h2 l2 (by decide))
      have e3 : IntKind.i64.wrap ((l.length : Int) + (s2 : Int)) = (s3 : Int) := by rw [Go.IntWalk.i64_in _ (by omega), ← h3]; rfl
      have e1 := E1.out
      have e2 := E2.out
      have d1 : decide (((maxS l g PS NS).length : Int) ≤ (s3 : Int)) = true := decide_eq_true (by omega)
      have d1' : decide ((maxS l g PS NS).length ≤ s3) = true := decide_eq_true hml
      clear h1 h2 h3 l1 l2 E1 E2
      have HS := HSr.out
      have HZ := HZr.out
      clear HSr HZr
      obtain ⟨g4, hg4⟩ : ∃ b, b = w1.heap.size := ⟨_, rfl⟩
      have hqb := HS.q
      go_wp2_with fail
      refine wp_region_held_drew (S := (fun W => (∀ o, W.cell? ⟨w.heap.size, o, none⟩ = (#[.slice a0 l.length c0, .slice a1 g.length c1, .slice a2 h.length c2, .slice a3 qs.length c3] : Array Value)[o]?) ∧ (∀ o, W.cell? ⟨w1.heap.size, o, none⟩ = (#[.slice a0 l.length c0, .slice a4 g'.length c4', .slice a2 h.length c2, .slice a3 qs.length c3] : Array Value)[o]?) ∧ (∀ o, W.cell? ⟨w.heap.size + 1, o, none⟩ = (#[.string r1, .string r2] : Array Value)[o]?))) (by kernel_rfl) ⟨fun o => (HT.out.later HS.drew.low).a.1 o, HS.drew.q.1, fun o => (HT.out.later HS.drew.low).b.1 o⟩ (fun hHeld => ?_)
      have HZ := HZ.later (below_drew (Below.refl _ w5))
      have HS := HS.drew
      obtain ⟨wk, hwk⟩ : ∃ W, W = w5.drew := ⟨_, rfl⟩
      rw [← hwk] at HS HZ hHeld ⊢
      clear hwk hqb hg4
      (refine held_yes (v := ?_) 0 rfl (by kernel_rfl) (by kernel_rfl) (by kernel_rfl) (fun _ _ _ h => h) (by rfl) (by assumption) ?_ ?_; rotate_left; (focus ((intro w hSw); (try dsimp only at hSw); go_simp; (try with_reducible rfl))); (try simp only [Act.put, List.setIfInBounds_toArray, List.set_cons_zero, List.set_cons_succ])); (refine held_yes (v := ?_) 1 rfl (by kernel_rfl) (by kernel_rfl) (by kernel_rfl) (fun _ _ _ h => h) (by rfl) (by assumption) ?_ ?_; rotate_left; (focus ((intro w hSw); (try dsimp only at hSw); go_simp; (try with_reducible rfl))); (try simp only [Act.put, List.setIfInBounds_toArray, List.set_cons_zero, List.set_cons_succ])); (refine held_yes (v := ?_) 2 rfl (by kernel_rfl) (by kernel_rfl) (by kernel_rfl) (fun _ _ _ h => h) (by rfl) (by assumption) ?_ ?_; rotate_left; (focus ((intro w hSw); (try dsimp only at hSw); go_simp; (try with_reducible rfl))); (try simp only [Act.put, List.setIfInBounds_toArray, List.set_cons_zero, List.set_cons_succ])); (refine held_yes (v := ?_) 3 rfl (by kernel_rfl) (by kernel_rfl) (by kernel_rfl) (fun _ _ _ h => h) (by rfl) (by assumption) ?_ ?_; rotate_left; (focus ((intro w hSw); (try dsimp only at hSw); go_simp; (try with_reducible rfl))); (try simp only [Act.put, List.setIfInBounds_toArray, List.set_cons_zero, List.set_cons_succ])); (refine held_yes (v := ?_) 4 rfl (by kernel_rfl) (by kernel_rfl) (by kernel_rfl) (fun _ _ _ h => h) (by rfl) (by assumption) ?_ ?_; rotate_left; (focus ((intro w hSw); (try dsimp only at hSw); go_simp; (try with_reducible rfl))); (try simp only [Act.put, List.setIfInBounds_toArray, List.set_cons_zero, List.set_cons_succ])); (refine held_yes (v := ?_) 5 rfl (by kernel_rfl) (by kernel_rfl) (by kernel_rfl) (fun _ _ _ h => h) (by rfl) (by assumption) ?_ ?_; rotate_left; (focus ((intro w hSw); (try dsimp only at hSw); go_simp; (try with_reducible rfl))); (try simp only [Act.put, List.setIfInBounds_toArray, List.set_cons_zero, List.set_cons_succ])); (refine held_yes (v := ?_) 6 rfl (by kernel_rfl) (by kernel_rfl) (by kernel_rfl) (fun _ _ _ h => h) (by rfl) (by assumption) ?_ ?_; rotate_left; (focus ((intro w hSw); (try dsimp only at hSw); go_simp; (try with_reducible rfl))); (try simp only [Act.put, List.setIfInBounds_toArray, List.set_cons_zero, List.set_cons_succ])); (refine held_yes (v := ?_) 7 rfl (by kernel_rfl) (by kernel_rfl) (by kernel_rfl) (fun _ _ _ h => h) (by rfl) (by assumption) ?_ ?_; rotate_left; (focus ((intro w hSw); (try dsimp only at hSw); go_simp; (try with_reducible rfl))); (try simp only [Act.put, List.setIfInBounds_toArray, List.set_cons_zero, List.set_cons_succ])); (refine held_yes (v := ?_) 8 rfl (by kernel_rfl) (by kernel_rfl) (by kernel_rfl) (fun _ _ _ h => h) (by rfl) (by assumption) ?_ ?_; rotate_left; (focus ((intro w hSw); (try dsimp only at hSw); go_simp; (try with_reducible rfl))); (try simp only [Act.put, List.setIfInBounds_toArray, List.set_cons_zero, List.set_cons_succ])); (refine held_yes (v := ?_) 9 rfl (by kernel_rfl) (by kernel_rfl) (by kernel_rfl) (fun _ _ _ h => h) (by rfl) (by assumption) ?_ ?_; rotate_left; (focus ((intro w hSw); (try dsimp only at hSw); go_simp; (try with_reducible rfl))); (try simp only [Act.put, List.setIfInBounds_toArray, List.set_cons_zero, List.set_cons_succ])); (refine held_yes (v := ?_) 10 rfl (by kernel_rfl) (by kernel_rfl) (by kernel_rfl) (fun _ _ _ h => h) (by rfl) (by assumption) ?_ ?_; rotate_left; (focus ((intro w hSw); (try dsimp only at hSw); go_simp; (try with_reducible rfl))); (try simp only [Act.put, List.setIfInBounds_toArray, List.set_cons_zero, List.set_cons_succ])); (refine held_yes (v := ?_) 11 rfl (by kernel_rfl) (by kernel_rfl) (by kernel_rfl) (fun _ _ _ h => h) (by rfl) (by assumption) ?_ ?_; rotate_left; (focus ((intro w hSw); (try dsimp only at hSw); go_simp; (try with_reducible rfl))); (try simp only [Act.put, List.setIfInBounds_toArray, List.set_cons_zero, List.set_cons_succ])); (refine held_yes (v := ?_) 12 rfl (by kernel_rfl) (by kernel_rfl) (by kernel_rfl) (fun _ _ _ h => h) (by rfl) (by assumption) ?_ ?_; rotate_left; (focus ((intro w hSw); (try dsimp only at hSw); go_simp; (try with_reducible rfl))); (try simp only [Act.put, List.setIfInBounds_toArray, List.set_cons_zero, List.set_cons_succ])); (refine held_yes (v := ?_) 13 rfl (by kernel_rfl) (by kernel_rfl) (by kernel_rfl) (fun _ _ _ h => h) (by rfl) (by assumption) ?_ ?_; rotate_left; (focus ((intro w hSw); (try dsimp only at hSw); go_simp; (try with_reducible rfl))); (try simp only [Act.put, List.setIfInBounds_toArray, List.set_cons_zero, List.set_cons_succ])); (refine held_yes (v := ?_) 15 rfl (by kernel_rfl) (by kernel_rfl) (by kernel_rfl) (fun _ _ _ h => h) (by rfl) (by assumption) ?_ ?_; rotate_left; (focus ((intro w hSw); (try dsimp only at hSw); go_simp; (try with_reducible rfl))); (try simp only [Act.put, List.setIfInBounds_toArray, List.set_cons_zero, List.set_cons_succ])); (refine held_yes (v := ?_) 16 rfl (by kernel_rfl) (by kernel_rfl) (by kernel_rfl) (fun _ _ _ h => h) (by rfl) (by assumption) ?_ ?_; rotate_left; (focus ((intro w hSw); (try dsimp only at hSw); go_simp; (try with_reducible rfl))); (try simp only [Act.put, List.setIfInBounds_toArray, List.set_cons_zero, List.set_cons_succ])); (refine held_yes (v := ?_) 17 rfl (by kernel_rfl) (by kernel_rfl) (by kernel_rfl) (fun _ _ _ h => h) (by rfl) (by assumption) ?_ ?_; rotate_left; (focus ((intro w hSw); (try dsimp only at hSw); go_simp; (try with_reducible rfl))); (try simp only [Act.put, List.setIfInBounds_toArray, List.set_cons_zero, List.set_cons_succ])); (refine held_yes (v := ?_) 18 rfl (by kernel_rfl) (by kernel_rfl) (by kernel_rfl) (fun _ _ _ h => h) (by rfl) (by assumption) ?_ ?_; rotate_left; (focus ((intro w hSw); (try dsimp only at hSw); go_simp; (try with_reducible rfl))); (try simp only [Act.put, List.setIfInBounds_toArray, List.set_cons_zero, List.set_cons_succ]))
      (refine held_call 14 rfl (by kernel_rfl) (fun K hK => ?_); go_simp)
      go_at_call 50; refine (high_Steps (HP.out.below HS.low) h6 h4).mono ?_; rintro e wz14 ⟨t, M, fs, st, rfl, htm, hbq⟩; have hst := htm.bound (n := np) (k := NS.length) (L := (maxS l g PS NS).length) (Nat.le_refl _) (by omega) (Nat.le_refl _); have d2 : decide ((st : Int) ≤ (boundN np NS.length (maxS l g PS NS).length : Nat)) = true := decide_eq_true (by omega); have d2n : decide (st ≤ boundN np NS.length (maxS l g PS NS).length) = true := decide_eq_true hst; clear hst; clear htm
      have HS := HS.later hbq
      have HZ := HZ.later hbq
      clear hbq
      (refine hK.out _ _ (⟨fun o => (HT.out.later HS.low).a.1 o, HS.q.1, fun o => (HT.out.later HS.low).b.1 o⟩) (fun hHeld => ?_); clear hK K; (try simp only [Act.put, List.setIfInBounds_toArray, List.set_cons_zero, List.set_cons_succ]))
      (refine held_call 19 rfl (by kernel_rfl) (fun K hK => ?_); go_simp)
      go_at_call 51; refine (sem_Bound np NS.length (maxS l g PS NS).length _ (by omega) (by omega) (by omega)).mono ?_; rintro e wz19 ⟨rfl, rfl⟩
      (refine hK.out _ _ (⟨fun o => (HT.out.later HS.low).a.1 o, HS.q.1, fun o => (HT.out.later HS.low).b.1 o⟩) (fun hHeld => ?_); clear hK K; (try simp only [Act.put, List.setIfInBounds_toArray, List.set_cons_zero, List.set_cons_succ]))
      (refine held_yes (v := ?_) 20 rfl (by kernel_rfl) (by kernel_rfl) (by kernel_rfl) (fun _ _ _ h => h) (by rfl) (by assumption) ?_ ?_; rotate_left; (focus ((intro w hSw); (try dsimp only at hSw); go_simp; (try with_reducible rfl))); (try simp only [Act.put, List.setIfInBounds_toArray, List.set_cons_zero, List.set_cons_succ])); (refine held_yes (v := ?_) 21 rfl (by kernel_rfl) (by kernel_rfl) (by kernel_rfl) (fun _ _ _ h => h) (by rfl) (by assumption) ?_ ?_; rotate_left; (focus ((intro w hSw); (try dsimp only at hSw); go_simp; (try with_reducible rfl))); (try simp only [Act.put, List.setIfInBounds_toArray, List.set_cons_zero, List.set_cons_succ])); (refine held_yes (v := ?_) 22 rfl (by kernel_rfl) (by kernel_rfl) (by kernel_rfl) (fun _ _ _ h => h) (by rfl) (by assumption) ?_ ?_; rotate_left; (focus ((intro w hSw); (try dsimp only at hSw); go_simp; (try with_reducible rfl))); (try simp only [Act.put, List.setIfInBounds_toArray, List.set_cons_zero, List.set_cons_succ])); (refine held_yes (v := ?_) 23 rfl (by kernel_rfl) (by kernel_rfl) (by kernel_rfl) (fun _ _ _ h => h) (by rfl) (by assumption) ?_ ?_; rotate_left; (focus ((intro w hSw); (try dsimp only at hSw); go_simp; (try with_reducible rfl))); (try simp only [Act.put, List.setIfInBounds_toArray, List.set_cons_zero, List.set_cons_succ])); (refine held_yes (v := ?_) 24 rfl (by kernel_rfl) (by kernel_rfl) (by kernel_rfl) (fun _ _ _ h => h) (by rfl) (by assumption) ?_ ?_; rotate_left; (focus ((intro w hSw); (try dsimp only at hSw); go_simp; (try with_reducible rfl))); (try simp only [Act.put, List.setIfInBounds_toArray, List.set_cons_zero, List.set_cons_succ])); (refine held_yes (v := ?_) 26 rfl (by kernel_rfl) (by kernel_rfl) (by kernel_rfl) (fun _ _ _ h => h) (by rfl) (by assumption) ?_ ?_; rotate_left; (focus ((intro w hSw); (try dsimp only at hSw); go_simp; (try with_reducible rfl))); (try simp only [Act.put, List.setIfInBounds_toArray, List.set_cons_zero, List.set_cons_succ])); (refine held_yes (v := ?_) 27 rfl (by kernel_rfl) (by kernel_rfl) (by kernel_rfl) (fun _ _ _ h => h) (by rfl) (by assumption) ?_ ?_; rotate_left; (focus ((intro w hSw); (try dsimp only at hSw); go_simp; (try with_reducible rfl))); (try simp only [Act.put, List.setIfInBounds_toArray, List.set_cons_zero, List.set_cons_succ]))
      (refine held_call 25 rfl (by kernel_rfl) (fun K hK => ?_); go_simp)
      go_at_call 45; refine (high_Members (HPQ.out.below HZ.low) h6 h4 ⟨r1, r2⟩).mono ?_; rintro e wz25 ⟨vn, xs, rfl, hn1, hn2, hbq⟩; rw [hn2 psq HLQ.out] at hn1; clear hn2; obtain ⟨na, nc, rfl⟩ := hn1.form
      have HS := HS.later hbq
      have HZ := HZ.later hbq
      have HN1 := Lib.hid hn1
      clear hn1 hbq
      (refine hK.out _ _ (⟨fun o => (HT.out.later HS.low).a.1 o, HS.q.1, fun o => (HT.out.later HS.low).b.1 o⟩) (fun hHeld => ?_); clear hK K; (try simp only [Act.put, List.setIfInBounds_toArray, List.set_cons_zero, List.set_cons_succ]))
      (refine held_call 28 rfl (by kernel_rfl) (fun K hK => ?_); go_simp)
      go_at_call 45; refine (high_Members (HP.out.below HS.low) h6 h4 ⟨r1, r2⟩).mono ?_; rintro e wz28 ⟨vo, ys, rfl, ho1, ho2, hbq⟩; rw [ho2 psp HLP.out] at ho1; clear ho2; obtain ⟨oa, oc, rfl⟩ := ho1.form
      have HS := HS.later hbq
      have HZ := HZ.later hbq
      have HN1 := Lib.hid (HN1.out.below hbq)
      have HO1 := Lib.hid ho1
      clear ho1 hbq
      (refine hK.out _ _ (⟨fun o => (HT.out.later HS.low).a.1 o, HS.q.1, fun o => (HT.out.later HS.low).b.1 o⟩) (fun hHeld => ?_); clear hK K; (try simp only [Act.put, List.setIfInBounds_toArray, List.set_cons_zero, List.set_cons_succ]))
      (refine held_call 29 rfl (by kernel_rfl) (fun K hK => ?_); go_simp)
      go_at_call 21; refine (ref11_Inside _ _ (membersP psq ⟨r1, r2⟩) (membersP psp ⟨r1, r2⟩) _ HN1.out.a HO1.out.a).mono ?_; rintro e wz29 ⟨rfl, rfl⟩; rw [INS.out]
      (refine hK.out _ _ (⟨fun o => (HT.out.later HS.low).a.1 o, HS.q.1, fun o => (HT.out.later HS.low).b.1 o⟩) (fun hHeld => ?_); clear hK K; (try simp only [Act.put, List.setIfInBounds_toArray, List.set_cons_zero, List.set_cons_succ]))
      (refine held_yes (v := ?_) 30 rfl (by kernel_rfl) (by kernel_rfl) (by kernel_rfl) (fun _ _ _ h => h) (by rfl) (by assumption) ?_ ?_; rotate_left; (focus ((intro w hSw); (try dsimp only at hSw); go_simp; (try with_reducible rfl))); (try simp only [Act.put, List.setIfInBounds_toArray, List.set_cons_zero, List.set_cons_succ])); (refine held_yes (v := ?_) 31 rfl (by kernel_rfl) (by kernel_rfl) (by kernel_rfl) (fun _ _ _ h => h) (by rfl) (by assumption) ?_ ?_; rotate_left; (focus ((intro w hSw); (try dsimp only at hSw); go_simp; (try with_reducible rfl))); (try simp only [Act.put, List.setIfInBounds_toArray, List.set_cons_zero, List.set_cons_succ]))
      (refine held_call 32 rfl (by kernel_rfl) (fun K hK => ?_); go_simp)
      go_at_call 36; refine (HL.out _ (HT.out.later HS.low).low).mono ?_; rintro e wz32 ⟨rfl, hbq⟩
      have HS := HS.later hbq
      have HZ := HZ.later hbq
      have HN1 := Lib.hid (HN1.out.below hbq)
      have HO1 := Lib.hid (HO1.out.below hbq)
      clear hbq
      (refine hK.out _ _ (⟨fun o => (HT.out.later HS.low).a.1 o, HS.q.1, fun o => (HT.out.later HS.low).b.1 o⟩) (fun hHeld => ?_); clear hK K; (try simp only [Act.put, List.setIfInBounds_toArray, List.set_cons_zero, List.set_cons_succ]))
      (refine held_yes (v := ?_) 33 rfl (by kernel_rfl) (by kernel_rfl) (by kernel_rfl) (fun _ _ _ h => h) (by rfl) (by assumption) ?_ ?_; rotate_left; (focus ((intro w hSw); (try dsimp only at hSw); go_simp; (try with_reducible rfl))); (try simp only [Act.put, List.setIfInBounds_toArray, List.set_cons_zero, List.set_cons_succ])); (refine held_yes (v := ?_) 34 rfl (by kernel_rfl) (by kernel_rfl) (by kernel_rfl) (fun _ _ _ h => h) (by rfl) (by assumption) ?_ ?_; rotate_left; (focus ((intro w hSw); (try dsimp only at hSw); go_simp; (try with_reducible rfl))); (try simp only [Act.put, List.setIfInBounds_toArray, List.set_cons_zero, List.set_cons_succ]))
      refine wpAnyH_done (by kernel_rfl) ?_ _
      have HSr := Lib.hid HS
      clear HS HZ
      go_wp2_with fail
      go_ret
      exact ⟨rfl, (HT.out.later HSr.out.low).low⟩
end Go.Proofs.YtnnieegddbcfcaaGreatDoor
namespace Go.Proofs.YtnnieegddbcfcaaGreatDoor
open Go.ChangeShapes Go.WideShapes Go.ChangeAt Go.RowKit

section
variable {H : Type} {enc : TypeId × Value → H} {w : World} {base fuel n : Nat} {sp : Nat → Bool} {held : Bool} {cs : List Value} {x : DataW H × List MemPlace} {v : Value} {d : DataW H} {ps : List MemPlace}
def dStr (H : Type) (s : ByteArray) : DataW H := .lit (.string s.data.toList)
def dRl (H : Type) (r : Rl) : DataW H := .agg [dStr H r.o, dStr H r.n]
def dSt (H : Type) (s : St) : DataW H := .agg [.lit (.int .i64 s.k), dRl H s.h, dStr H s.who, dRl H s.a, dRl H s.b, dStr H s.via]
/-- A statement whose parts are such as a world may hold. -/
def St.fits (s : St) : Prop := s.le maxLen ∧ (Lit.int IntKind.i64 s.k).wf = true

theorem two_of (h : cs.length = 2) : ∃ a b, cs = [a, b] := by
  match cs, h with
  | [a, b], _ => exact ⟨a, b, rfl⟩
theorem trod_role (h : DataW.trod enc Tryz.prog w base sp held fuel 28 cs = some x) : ∃ r : Rl, cs = r.cells ∧ x = (dRl H r, []) ∧ r.le maxLen := by
  obtain ⟨xs, n, _, rfl, hl, hlen, hf⟩ := DataW.trod_struct Tryz.underlying28 h
  have hc : Tryz.prog.cellsOf 28 = 2 := by kernel_rfl
  have hs : Tryz.prog.cellsOf 9 = 1 := by kernel_rfl
  rw [hc] at hl
  obtain ⟨a, b, rfl⟩ := two_of hl
  have f0 : DataW.trod enc Tryz.prog w base sp held n 9 [a] = xs[0]? := by simpa [hs] using hf 0 _ rfl
  have f1 : DataW.trod enc Tryz.prog w base sp held n 9 [b] = xs[1]? := by simpa [hs] using hf 1 _ rfl
  match xs, hlen with
  | [y0, y1], _ =>
    simp only [List.getElem?_cons_zero, List.getElem?_cons_succ] at f0 f1
    obtain ⟨s0, e0, g0, l0⟩ := DataW.trod_string Tryz.underlying9 f0
    obtain ⟨s1, e1, g1, l1⟩ := DataW.trod_string Tryz.underlying9 f1
    simp only [List.cons.injEq, and_true] at e0 e1
    subst e0 e1 g0 g1
    exact ⟨⟨s0, s1⟩, rfl, rfl, l0, l1⟩
theorem nine_of (h : cs.length = 9) : ∃ a b c d e f g i j, cs = [a, b, c, d, e, f, g, i, j] := by
  match cs, h with
  | [a, b, c, d, e, f, g, i, j], _ => exact ⟨a, b, c, d, e, f, g, i, j, rfl⟩
theorem trod_stmt (h : DataW.trod enc Tryz.prog w base sp held fuel 35 cs = some x) : ∃ s : St, cs = s.cells ∧ x = (dSt H s, []) ∧ s.fits := by
  obtain ⟨xs, n, _, rfl, hl, hlen, hf⟩ := DataW.trod_struct Tryz.underlying35 h
  have hc : Tryz.prog.cellsOf 35 = 9 := by kernel_rfl
  have hr : Tryz.prog.cellsOf 28 = 2 := by kernel_rfl
  have hi : Tryz.prog.cellsOf 3 = 1 := by kernel_rfl
  have hs : Tryz.prog.cellsOf 9 = 1 := by kernel_rfl
  rw [hc] at hl
  obtain ⟨c0, c1, c2, c3, c4, c5, c6, c7, c8, rfl⟩ := nine_of hl
  have f0 : DataW.trod enc Tryz.prog w base sp held n 3 [c0] = xs[0]? := by simpa [hi] using hf 0 _ rfl
  have f1 : DataW.trod enc Tryz.prog w base sp held n 28 [c1, c2] = xs[1]? := by simpa [hr] using hf 1 _ rfl
  have f2 : DataW.trod enc Tryz.prog w base sp held n 9 [c3] = xs[2]? := by simpa [hs] using hf 2 _ rfl
  have f3 : DataW.trod enc Tryz.prog w base sp held n 28 [c4, c5] = xs[3]? := by simpa [hr] using hf 3 _ rfl
  have f4 : DataW.trod enc Tryz.prog w base sp held n 28 [c6, c7] = xs[4]? := by simpa [hr] using hf 4 _ rfl
  have f5 : DataW.trod enc Tryz.prog w base sp held n 9 [c8] = xs[5]? := by simpa [hs] using hf 5 _ rfl
  match xs, hlen with
  | [y0, y1, y2, y3, y4, y5], _ =>
    simp only [List.getElem?_cons_zero, List.getElem?_cons_succ] at f0 f1 f2 f3 f4 f5
    obtain ⟨k, e0, g0, l0⟩ := DataW.trod_int Tryz.underlying3 f0
    obtain ⟨r1, e1, g1, l1⟩ := trod_role f1
    obtain ⟨s2, e2, g2, l2⟩ := DataW.trod_string Tryz.underlying9 f2
    obtain ⟨r3, e3, g3, l3⟩ := trod_role f3
    obtain ⟨r4, e4, g4, l4⟩ := trod_role f4
    obtain ⟨s5, e5, g5, l5⟩ := DataW.trod_string Tryz.underlying9 f5
    simp only [Rl.cells, List.cons.injEq, and_true] at e0 e1 e2 e3 e4 e5
    obtain ⟨rfl, rfl⟩ := e1
    obtain ⟨rfl, rfl⟩ := e3
    obtain ⟨rfl, rfl⟩ := e4
    subst e0 e2 e5 g0 g1 g2 g3 g4 g5
    exact ⟨⟨k, r1, s2, r3, r4, s5⟩, rfl, rfl, ⟨l1, l2, l3, l4, l5⟩, l0⟩
end
end Go.Proofs.YtnnieegddbcfcaaGreatDoor
namespace Go.Proofs.YtnnieegddbcfcaaGreatDoor
open Go.ChangeShapes Go.WideShapes Go.ChangeAt Go.RowKit Go.Deep

theorem laid_out : laidOutB Tryz.prog = true := by kernel_rfl
end Go.Proofs.YtnnieegddbcfcaaGreatDoor
namespace Go.Proofs.YtnnieegddbcfcaaGreatDoor
open Go.ChangeShapes Go.WideShapes Go.ChangeAt Go.RowKit Go.Deep

section
variable {H : Type} {enc : TypeId × Value → H} {w : World} {base : Nat} {held : Bool}
/-- A row whose elements are read as some data. -/
theorem open_rowOf {α : Type} [Inhabited α] (cells : α → List Value) (k : Nat) (hk : 0 < k) (hlen : ∀ x, (cells x).length = k) {t e : TypeId} (ht : Tryz.prog.underlying t = some (.slice e)) (hc : Tryz.prog.cellsOf e = k) (p : α → Prop)
    (each : ∀ n cs y, DataW.trod enc Tryz.prog w base (fun _ => true) held n e cs = some y → ∃ x : α, cs = cells x ∧ p x) {fuel : Nat} {c : Value} {y : DataW H × List MemPlace}
    (hf : DataW.trod enc Tryz.prog w base (fun _ => true) held fuel t [c] = some y) : ∃ l : List α, SlA w k c l.length (l.flatMap cells) ∧ ∀ x ∈ l, p x := by
  rcases open_slice ht hf with ⟨hcs, _⟩ | ⟨a, len, cap, m, n, D, Pl, hcs, _, hl, hm, hmm, _, hx⟩
  · simp only [List.cons.injEq, and_true] at hcs
    subst hcs
    exact ⟨[], (Sl.nil _ _).a, fun s hs => by cases hs⟩
  · simp only [List.cons.injEq, and_true] at hcs
    subst hcs
    simp only [if_true] at hmm
    subst hmm
    rw [hc] at hx
    have hex : ∀ i, i < m → ∃ s : α, w.cells? base (a.add (i * k)) k = some (cells s) ∧ p s := by
      intro i hi
      obtain ⟨cs', h1, h2⟩ := hx i hi
      obtain ⟨s, rfl, hs⟩ := each _ _ _ h2
      exact ⟨s, h1, hs⟩
    obtain ⟨S, hS⟩ := choose_lt hex
    obtain ⟨b, off, spot⟩ := a
    by_cases h0 : 0 < len
    · have hk0 : 0 < (cells (S 0)).length := by rw [hlen]; exact hk
      have c0 := (World.cells?_some (hS 0 (by omega)).1).2.2 0 hk
      rw [List.getElem?_eq_getElem hk0] at c0
      have hspot : spot = none := by simpa [Addr.add] using World.cell?_spot c0
      subst hspot
      have hlenl : ((List.range len).map S).length = len := by simp
      have hcell : ∀ j u, (((List.range len).map S).flatMap cells)[j]? = some u → w.cell? ⟨b, off + j, none⟩ = some u := by
        intro j u hu
        have hj : j < len * k := by
          have := (List.getElem?_eq_some_iff.1 hu).1
          rwa [flat_len cells k hlen, hlenl] at this
        have hf9 : j % k < k := Nat.mod_lt _ hk
        have hi : j / k < len := Nat.div_lt_of_lt_mul (by rwa [Nat.mul_comm])
        have e : j = j / k * k + j % k := by rw [Nat.mul_comm]; exact (Nat.div_add_mod j k).symm
        rw [e, flat_get cells k hlen _ (j / k) (j % k) hf9 (S (j / k)) (by simp [hi])] at hu
        have h1 := (World.cells?_some (hS (j / k) (by omega)).1).2.2 (j % k) hf9
        rw [add_add, add_plain, ← e] at h1
        exact h1.trans hu
      refine ⟨(List.range len).map S, .inl ?_, fun s hs => ?_⟩
      · rw [hlenl]
        refine ⟨by rw [flat_len cells k hlen, hlenl], by omega, .inr ⟨b, off, m, rfl, hl, hm, ?_, hcell⟩⟩
        rw [add_add, add_plain] at c0
        exact World.block_lt_of_cell? _ _ c0
      · obtain ⟨i, hi, rfl⟩ := List.mem_map.1 hs
        exact (hS i (by have := List.mem_range.1 hi; omega)).2
    · have hl0 : len = 0 := by omega
      subst hl0
      exact ⟨[], .inr ⟨⟨_, _, rfl⟩, rfl, rfl⟩, fun s hs => by cases hs⟩

theorem maxLen_eq : maxLen = 9223372036854775807 := by decide
theorem le_max {s : St} (h : s.fits) : s.le 9223372036854775807 := by have := h.1; rwa [maxLen_eq] at this
theorem rle_max {r : Rl} (h : r.le maxLen) : r.le 9223372036854775807 := by rwa [maxLen_eq] at h
instance : Inhabited Rl := ⟨noR⟩
theorem open_stsC {fuel : Nat} {c : Value} {y : DataW H × List MemPlace} (hf : DataW.trod enc Tryz.prog w base (fun _ => true) held fuel 22 [c] = some y) :
    ∃ l : List St, SlA w 9 c l.length (l.flatMap St.cells) ∧ allLe l 9223372036854775807 :=
  open_rowOf St.cells 9 (by decide) St.cells_len Tryz.underlying22 (by kernel_rfl) (fun s => s.le 9223372036854775807)
    (fun _ _ _ h => by obtain ⟨s, e, _, hs⟩ := trod_stmt h; exact ⟨s, e, le_max hs⟩) hf
theorem open_rls {fuel : Nat} {c : Value} {y : DataW H × List MemPlace} (hf : DataW.trod enc Tryz.prog w base (fun _ => true) held fuel 23 [c] = some y) :
    ∃ l : List Rl, SlA w 2 c l.length (l.flatMap Rl.cells) ∧ ∀ x ∈ l, x.le 9223372036854775807 :=
  open_rowOf Rl.cells 2 (by decide) Rl.cells_len Tryz.underlying23 (by kernel_rfl) (fun s => s.le 9223372036854775807)
    (fun _ _ _ h => by obtain ⟨s, e, _, hs⟩ := trod_role h; exact ⟨s, e, rle_max hs⟩) hf
theorem strs_flat (l : List ByteArray) : (l.flatMap fun s => [Value.string s]) = strs l := by
  induction l with
  | nil => rfl
  | cons a r ih => rw [List.flatMap_cons, ih]; rfl
theorem open_strsC {fuel : Nat} {c : Value} {y : DataW H × List MemPlace} (hf : DataW.trod enc Tryz.prog w base (fun _ => true) held fuel 38 [c] = some y) :
    ∃ l : List ByteArray, SlA w 1 c l.length (strs l) ∧ ∀ x ∈ l, x.size ≤ 9223372036854775807 := by
  obtain ⟨l, h1, h2⟩ := open_rowOf (fun s : ByteArray => [Value.string s]) 1 (by decide) (fun _ => rfl) Tryz.underlying38 (by kernel_rfl) (fun s => s.size ≤ 9223372036854775807)
    (fun _ cs _ h => by obtain ⟨s, e, _, hs⟩ := DataW.trod_string Tryz.underlying9 h; exact ⟨s, e, by rwa [maxLen_eq] at hs⟩) hf
  exact ⟨l, by rwa [strs_flat] at h1, h2⟩

theorem six_of {cs : List Value} (h : cs.length = 6) : ∃ a b c d e f, cs = [a, b, c, d, e, f] := by
  match cs, h with
  | [a, b, c, d, e, f], _ => exact ⟨a, b, c, d, e, f, rfl⟩
theorem trod_query {fuel : Nat} {cs : List Value} {x : DataW H × List MemPlace} (h : DataW.trod enc Tryz.prog w base (fun _ => true) held fuel 71 cs = some x) : ∃ q : Qv, cs = q.cells ∧ q.ok w := by
  obtain ⟨xs, n, _, rfl, hl, hlen, hf⟩ := DataW.trod_struct Tryz.underlying71 h
  have hc : Tryz.prog.cellsOf 71 = 6 := by kernel_rfl
  have hr : Tryz.prog.cellsOf 28 = 2 := by kernel_rfl
  have hi : Tryz.prog.cellsOf 3 = 1 := by kernel_rfl
  have hs : Tryz.prog.cellsOf 38 = 1 := by kernel_rfl
  rw [hc] at hl
  obtain ⟨c0, c1, c2, c3, c4, c5, rfl⟩ := six_of hl
  have f0 : DataW.trod enc Tryz.prog w base (fun _ => true) held n 3 [c0] = xs[0]? := by simpa [hi] using hf 0 _ rfl
  have f1 : DataW.trod enc Tryz.prog w base (fun _ => true) held n 28 [c1, c2] = xs[1]? := by simpa [hr] using hf 1 _ rfl
  have f2 : DataW.trod enc Tryz.prog w base (fun _ => true) held n 28 [c3, c4] = xs[2]? := by simpa [hr] using hf 2 _ rfl
  have f3 : DataW.trod enc Tryz.prog w base (fun _ => true) held n 38 [c5] = xs[3]? := by simpa [hs] using hf 3 _ rfl
  match xs, hlen with
  | [y0, y1, y2, y3], _ =>
    simp only [List.getElem?_cons_zero, List.getElem?_cons_succ] at f0 f1 f2 f3
    obtain ⟨k, e0, _, _⟩ := DataW.trod_int Tryz.underlying3 f0
    obtain ⟨r1, e1, _, l1⟩ := trod_role f1
    obtain ⟨r2, e2, _, l2⟩ := trod_role f2
    obtain ⟨ss, s3, l3⟩ := open_strsC f3
    simp only [Rl.cells, List.cons.injEq, and_true] at e0 e1 e2
    obtain ⟨rfl, rfl⟩ := e1
    obtain ⟨rfl, rfl⟩ := e2
    subst e0
    exact ⟨⟨k, r1, r2, c5⟩, rfl, rle_max l1, rle_max l2, ss, s3, l3⟩
theorem open_qs {fuel : Nat} {c : Value} {y : DataW H × List MemPlace} (hf : DataW.trod enc Tryz.prog w base (fun _ => true) held fuel 24 [c] = some y) :
    ∃ l : List Qv, SlA w 6 c l.length (l.flatMap Qv.cells) ∧ ∀ x ∈ l, x.ok w :=
  open_rowOf Qv.cells 6 (by decide) Qv.cells_len Tryz.underlying24 (by kernel_rfl) (fun q => q.ok w) (fun _ _ _ h => trod_query h) hf
theorem four_of {cs : List Value} (h : cs.length = 4) : ∃ a b c d, cs = [a, b, c, d] := by
  match cs, h with
  | [a, b, c, d], _ => exact ⟨a, b, c, d, rfl⟩
set_option maxRecDepth 100000 in
theorem open_pol {r : Reach} {b0 : Nat} {v : Value} {d : DataW H} {ps : List MemPlace} (hval : Value.okWide Tryz.prog w r b0 26 v) (hd : DataW.Trod enc Tryz.prog w base (fun _ => true) held 26 v d ps) :
    ∃ v0 v1 v2 v3 l g h qs, v = pv v0 v1 v2 v3 ∧ PolAt w v0 v1 v2 v3 l g h qs := by
  obtain ⟨cs, rfl, _⟩ := okWide_struct Tryz.underlying26 hval
  obtain ⟨fuel, hf⟩ := hd
  obtain ⟨xs, n, _, _, hl, hlen, hf'⟩ := DataW.trod_struct Tryz.underlying26 hf
  have hc : Tryz.prog.cellsOf 26 = 4 := by kernel_rfl
  have h0 : Tryz.prog.cellsOf 22 = 1 := by kernel_rfl
  have h1 : Tryz.prog.cellsOf 23 = 1 := by kernel_rfl
  have h2 : Tryz.prog.cellsOf 24 = 1 := by kernel_rfl
  rw [hc] at hl
  obtain ⟨c0, c1, c2, c3, hcs⟩ := four_of hl
  rw [hcs] at hf'
  have f0 : DataW.trod enc Tryz.prog w base (fun _ => true) held n 22 [c0] = xs[0]? := by simpa [h0] using hf' 0 _ rfl
  have f1 : DataW.trod enc Tryz.prog w base (fun _ => true) held n 23 [c1] = xs[1]? := by simpa [h1] using hf' 1 _ rfl
  have f2 : DataW.trod enc Tryz.prog w base (fun _ => true) held n 23 [c2] = xs[2]? := by simpa [h1] using hf' 2 _ rfl
  have f3 : DataW.trod enc Tryz.prog w base (fun _ => true) held n 24 [c3] = xs[3]? := by simpa [h2] using hf' 3 _ rfl
  match xs, hlen with
  | [y0, y1, y2, y3], _ =>
    simp only [List.getElem?_cons_zero, List.getElem?_cons_succ] at f0 f1 f2 f3
    obtain ⟨l, s0, l0⟩ := open_stsC f0
    obtain ⟨g, s1, l1⟩ := open_rls f1
    obtain ⟨h, s2, l2⟩ := open_rls f2
    obtain ⟨qs, s3, l3⟩ := open_qs f3
    refine ⟨c0, c1, c2, c3, l, g, h, qs, ?_, ⟨s0, s1, s2, s3, l0, l1, l2, l3⟩⟩
    obtain ⟨cl⟩ := cs
    simp only [Value.cells] at hcs
    have : cl = [c0, c1, c2, c3] := by simpa using hcs
    rw [this]
end
end Go.Proofs.YtnnieegddbcfcaaGreatDoor
namespace Go.Proofs.YtnnieegddbcfcaaGreatDoor
open Go.ChangeShapes Go.WideShapes Go.ChangeAt Go.RowKit

def bruijnL : List (String × DataW Unit) := [("math/bits.deBruijn64tab", Rows.laid_math_bits_deBruijn64tab)]
theorem bruijn_tab : (Rows.laid_math_bits_deBruijn64tab : DataW Unit) = Lib.tabData .u8 (Lib.deBruijn64tab.map fun (n : Nat) => (n : Int)) := by rfl
noncomputable def laidWorld (os : Os) : World := World.laidAll Tryz.prog os bruijnL
theorem laid_met (os : Os) (args : Array Value) : laidMet Tryz.prog bruijnL ((laidWorld os).forCall (fun _ _ => 0) ⟨#[], args, []⟩).memory := laidMet_laidAll args (by kernel_rfl) (by kernel_rfl)
theorem tb_of_laid {W : World} (h : laidMet Tryz.prog bruijnL W) : TB W := by
  unfold bruijnL at h
  rw [bruijn_tab] at h
  have ht := Lib.tabIs_of_head (t := 188) (e := 5) (n := 64) (g := 0) (by kernel_rfl) (by kernel_rfl) Tryz.underlying188 Tryz.underlying5 (by kernel_rfl) (by kernel_rfl) h
  intro j hj
  have := ht.cell (g := 0) (by kernel_rfl) j (by rw [List.length_map]; exact hj)
  rw [this, List.getD_eq_getElem?_getD, List.getElem?_map, List.getD_eq_getElem?_getD, List.getElem?_eq_getElem hj]
  rfl
theorem ownK : ownKnob Tryz.prog.godebug = none := by kernel_rfl
section
variable {H : Type} {enc : TypeId × Value → H} {w : World} {base b0 : Nat} {held : Bool} {r : Reach} {v : Value} {d : DataW H} {ps : List MemPlace}
set_option maxRecDepth 100000 in
theorem open_role (hval : Value.okWide Tryz.prog w r b0 28 v) (hd : DataW.Trod enc Tryz.prog w base (fun _ => true) held 28 v d ps) : ∃ x : Rl, v = rv x ∧ x.le 9223372036854775807 := by
  obtain ⟨cs, rfl, _⟩ := okWide_struct Tryz.underlying28 hval
  obtain ⟨fuel, hf⟩ := hd
  obtain ⟨s, h, _, hs⟩ := trod_role hf
  refine ⟨s, ?_, rle_max hs⟩
  obtain ⟨l⟩ := cs
  simp only [Value.cells] at h
  rw [show l = s.cells from by simpa using h]; rfl
set_option maxRecDepth 100000 in
theorem open_rolesV (hval : Value.okWide Tryz.prog w r b0 23 v) (hd : DataW.Trod enc Tryz.prog w base (fun _ => true) held 23 v d ps) : ∃ l : List Rl, SlA w 2 v l.length (l.flatMap Rl.cells) ∧ ∀ x ∈ l, x.le 9223372036854775807 := by
  obtain ⟨a0, len, cap, rfl⟩ := okWide_slice Tryz.underlying23 hval
  obtain ⟨fuel, hf⟩ := hd
  exact open_rls hf
end
end Go.Proofs.YtnnieegddbcfcaaGreatDoor
