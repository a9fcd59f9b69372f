/- matrix.kind, Of: the rows of any policy that may be. crupperref11.Members: the row that comes back is the call's own (printed by gen_refmemo.py out of Ref11). crupperref41.Of: the document's rows of any small policy that may be (printed by gen_refmat.py). strings.Builder, made by the call itself: copyCheck and WriteString at this program: the builder then holds what it held and the new bytes. (The library's own proofs, turned to this translation, in which the panic of copyCheck is refused.). strings.Builder's Grow, and strings.Join, at this program: the pieces with the separator between them. (The library's own proofs, turned to this translation, in which the panic of copyCheck is refused.). strings.Join of any row of texts. strings.Builder's Grow and WriteString where there is room: a builder may hold up to 2^48 bytes. strings.Join of any row of texts, up to 2^48 bytes: all that the machine can hold. -/
import Derived.Test.YtcmdhfccdkjenaaGreatDoorPart14
import Derived.Test.YtcmdhfccdkjenaaGreatDoorPart10
import Derived.Test.YtcmdhfccdkjenaaGreatDoorPart7
import Derived.Test.YtcmdhfccdkjenaaGreatDoorPart13
import Derived.Test.YtcmdhfccdkjenaaGreatDoorPart9
import Derived.Test.YtcmdhfccdkjenaaGreatDoorPart1
import Derived.Shelf.Strings.BuilderK
import Derived.Test.YtcmdhfccdkjenaaGreatDoorShelf
import Derived.Test.YtcmdhfccdkjenaaGreatDoorPart3
import Derived.Shelf.Strings.OnBuilder
import Derived.Test.YtcmdhfccdkjenaaGreatDoorPart5
namespace Go.Proofs.YtcmdhfccdkjenaaGreatDoor
open Go.RowKit Go.Shelf

set_option maxRecDepth 100000 in
set_option maxHeartbeats 2000000 in
theorem mat_kind (r : Rl) (lv hv : Value) (lo hi : List ByteArray) (op : Bool) (k : Int) (w : World) (hl : SlA w 1 lv lo.length (strs lo)) (hh : SlA w 1 hv hi.length (strs hi)) :
    Calls Tryz.prog 116 #[.agg #[.string r.o, .string r.n, lv, hv, .bool op, .int .i64 k]] w fun e w' => e = .returned (.int .i64 (kindM op lo hi)) ∧ Below w.heap.size w w' := by
  have HLo := Lib.hid hl
  have HHi := Lib.hid hh
  obtain ⟨la, lc, rfl⟩ := hl.form
  obtain ⟨ha, hc, rfl⟩ := hh.form
  obtain ⟨r1, r2⟩ := r
  have HB := Lib.hid (show Below w.heap.size w (w.alloc (.cells #[.string r1, .string r2, .slice la lo.length lc, .slice ha hi.length hc, .bool op, .int .i64 k] 77)) from (Below.refl _ _).alloc (Nat.le_refl _) _)
  clear hl hh
  go_enter Tryz.func116, Tryz.ntmps116
  cases op with
  | true =>
    go_wp2
    go_ret
    exact ⟨rfl, HB.out⟩
  | false =>
    by_cases h0 : hi.length = 0
    · have hn : hi = [] := List.eq_nil_of_length_eq_zero h0
      subst hn
      have R := Lib.hid (show kindM false lo [] = 4 by rfl)
      rw [R.out]
      clear R h0
      go_wp2
      go_ret
      exact ⟨rfl, HB.out⟩
    · have d0 : ((hi.length : Int) == 0) = false := by rw [beq_eq_false_iff_ne]; omega
      have EQ := Lib.hid (str_Equal (.slice la lo.length lc) (.slice ha hi.length hc) lo hi _ (HLo.out.below HB.out) (HHi.out.below HB.out))
      have R := Lib.hid (show kindM false lo hi = if lo = hi then 1 else 2 by unfold kindM; rw [if_neg (by decide), if_neg h0])
      clear h0
      go_wp2_with fail
      refine EQ.out.mono ?_
      rintro e w1 ⟨rfl, n, rfl⟩
      have HB1 := Lib.hid (show Below w.heap.size w (World.drewN _ n) from below_drewN HB.out n)
      by_cases he : lo = hi
      · have d1 : decide (lo = hi) = true := decide_eq_true he
        have R1 := Lib.hid (show kindM false lo hi = 1 by rw [R.out, if_pos he])
        clear EQ he
        rw [d1]
        go_wp2
        go_ret
        exact ⟨by rw [R1.out]; rfl, HB1.out⟩
      · have d1 : decide (lo = hi) = false := decide_eq_false he
        have R1 := Lib.hid (show kindM false lo hi = 2 by rw [R.out, if_neg he])
        clear EQ he
        rw [d1]
        go_wp2
        go_ret
        exact ⟨by rw [R1.out]; rfl, HB1.out⟩
def RowsIn (w : World) (R : List MV) : Prop := ∀ x ∈ R, w.ownsRow 0 9 1 x.lv x.s.lo.length (strs x.s.lo) ∧ w.ownsRow 0 9 1 x.hv x.s.hi.length (strs x.s.hi)
theorem RowsIn.below {w w' : World} {R : List MV} (h : RowsIn w R) (hb : Below w.heap.size w w') : RowsIn w' R := fun x hx => ⟨own_below (h x hx).1 hb, own_below (h x hx).2 hb⟩
theorem RowsIn.far {w w' : World} {R : List MV} {B n size : Nat} {v : Value} {xs : List Value} (h : RowsIn w R) (ho : w.ownsRow B 77 size v n xs) (hg : w.grownBy w' v.ownBlock) : RowsIn w' R :=
  fun x hx => ⟨own_far (h x hx).1 ho hg (by decide), own_far (h x hx).2 ho hg (by decide)⟩
theorem RowsIn.ok {w : World} {R : List MV} (h : RowsIn w R) : ∀ x ∈ R, x.ok w := fun x hx => ⟨(Sl.of_own (h x hx).1).a, (Sl.of_own (h x hx).2).a⟩
theorem RowsIn.snoc {w : World} {R : List MV} {x : MV} (h : RowsIn w R) (h1 : w.ownsRow 0 9 1 x.lv x.s.lo.length (strs x.s.lo)) (h2 : w.ownsRow 0 9 1 x.hv x.s.hi.length (strs x.s.hi)) : RowsIn w (R ++ [x]) := fun y hy => by
  rcases List.mem_append.1 hy with hy | hy
  · exact h y hy
  · rw [List.mem_singleton.1 hy]; exact ⟨h1, h2⟩
abbrev Kp1 (g : Nat) (w w' : World) : Prop := Kp (fun b => b = g) w w'
theorem Kp1.below {g : Nat} {w w' : World} (h : Kp1 g w w') (hg : g ≤ w.heap.size) : Below g w w' := Kp.below h hg (fun b hb e => by omega)
theorem Kp1.later {g : Nat} {w w' W : World} (h : Kp1 g w w') (hb : Below w'.heap.size w' W) : Kp1 g w W := h.trans (Kp.of_below (X := fun b => b = g) hb) (fun _ _ e => e)
theorem Kp1.set {g o : Nat} {v : Value} {w w' : World} (h : Kp1 g w w') : Kp1 g w (w'.setCell ⟨g, o, none⟩ v) := h.trans (Kp.set (X := fun b => b = g) rfl) (fun _ _ e => e)
theorem Kp1.grown {g B size n : Nat} {e : TypeId} {v : Value} {xs : List Value} {w w' W : World} (h : Kp1 g w w') (ho : w'.ownsRow B e size v n xs) (hg : w'.grownBy W v.ownBlock) (hB : w.heap.size ≤ B) : Kp1 g w W :=
  ⟨hg.os.trans h.os, hg.tape.trans h.tape, hg.output.trans h.output, Nat.le_trans h.size hg.size, fun k hk hx => (hg.block k (Nat.lt_of_lt_of_le hk h.size) (fun e => by have := (ho.lt k e.symm).1; omega)).trans (h.block k hk hx)⟩
theorem own_cell {w : World} {B : Nat} {e : TypeId} {a : Option Addr} {c n : Nat} {xs : List Value} (h : w.ownsRow B e 1 (.slice a n c) n xs) {k : Nat} {u : Value} (hu : xs[k]? = some u) :
    ∃ b o, a = some ⟨b, o, none⟩ ∧ w.cell? ⟨b, o + k, none⟩ = some u ∧ n ≤ c ∧ c ≤ 9223372036854775807 ∧ b < w.heap.size := by
  have hl := (Sl.of_own h).len
  have hk : k < xs.length := (List.getElem?_eq_some_iff.1 hu).1
  obtain ⟨b, o, c', e, h1, h2, h3, h4⟩ := (Sl.of_own h).pos (by omega)
  simp only [Value.slice.injEq, true_and] at e
  obtain ⟨rfl, rfl⟩ := e
  exact ⟨b, o, rfl, h4 k _ hu, h1, h2, h3⟩
section
variable {w : World} {v0 v1 v2 v3 : Value} {l : List St} {g h : List Rl} {qs : List Qv} {F : Qv → List ByteArray} {PS NS : List ByteArray}
theorem policy_PrinsO (P : PolX w v0 v1 v2 v3 l g h qs F PS NS) : Calls Tryz.prog 114 #[pv v0 v1 v2 v3] w fun e w' => ∃ v, e = .returned v ∧ w'.ownsRow w.heap.size 9 1 v PS.length (strs PS) ∧ Below w.heap.size w w' := by
  have := policy_Prins v0 v1 v2 v3 l g h qs w P.at_ P.hl P.hg P.hh P.hq F P.hF
  rw [P.eP] at this
  refine this.mono ?_
  rintro e w' ⟨v, rfl, ho, _, hb⟩
  exact ⟨v, rfl, ho, hb⟩
theorem policy_NamesO (P : PolX w v0 v1 v2 v3 l g h qs F PS NS) : Calls Tryz.prog 115 #[pv v0 v1 v2 v3] w fun e w' => ∃ v, e = .returned v ∧ w'.ownsRow w.heap.size 9 1 v NS.length (strs NS) ∧ Below w.heap.size w w' := by
  have := policy_Names v0 v1 v2 v3 l g h qs w P.at_ P.hl P.hg P.hh P.hq
  rw [P.eN] at this
  refine this.mono ?_
  rintro e w' ⟨v, rfl, ho, _, hb⟩
  exact ⟨v, rfl, ho, hb⟩
theorem colsI_get {fs : List (Nat × Nat)} {i : Int} {j : Nat} (hj : j < (colsI fs i).length) : (colsI fs i)[j] < 64 := by
  have hm := List.getElem_mem hj
  generalize (colsI fs i)[j] = c at *
  unfold colsI at hm
  split at hm
  · exact (colsOf_mem.1 hm).1
  · cases hm
theorem who_snoc {A : List ByteArray} {cs : List Nat} {j : Nat} (hj : j < cs.length) : whoN A (cs.take (j + 1)) = whoN A (cs.take j) ++ [atB A (cs[j] : Nat)] := by
  unfold whoN; rw [take_snoc hj, List.map_append]; rfl
set_option maxRecDepth 100000 in
set_option maxHeartbeats 16000000 in
theorem matrix_Of (P : PolX w v0 v1 v2 v3 l g h qs F PS NS) (h6 : PS.length ≤ 16) (h4 : NS.length ≤ 12) (hR : ∀ W, Below w.heap.size w W → Calls Tryz.prog 94 #[pv v0 v1 v2 v3] W fun e w' => e = .returned (.bool true) ∧ Below W.heap.size W w')
    (ps es : List Pr) (hps : LeastS (minS l h) (fun r x => (r, x) ∈ ps)) (hes : LeastS (maxS l g PS NS) (fun r x => (r, x) ∈ es)) :
    Calls Tryz.prog 49 #[pv v0 v1 v2 v3] w fun e w' => ∃ (v : Value) (R : List MV), e = .returned (.tuple #[v, .int .i64 0]) ∧ Sl w' 6 v R.length (R.flatMap MV.cells) ∧ RowsIn w' R ∧ R.map MV.s = (allR PS NS).map (rowM ps es (freshB PS)) ∧ Below w.heap.size w w' := by
  have RT := Lib.hid hR
  have FR := Lib.hid (fun W (hb : Below w.heap.size w W) => high_Fresh (P.below hb))
  have LE := Lib.hid (fun W (hb : Below w.heap.size w W) => (P.below hb).lowEval h6 h4)
  have HE := Lib.hid (fun W (hb : Below w.heap.size w W) => high_Eval (P.below hb) h6 h4)
  have PP := Lib.hid (fun W (hb : Below w.heap.size w W) => policy_PrinsO (P.below hb))
  have PN := Lib.hid (fun W (hb : Below w.heap.size w W) => policy_NamesO (P.below hb))
  have HTB := Lib.hid P.hT
  have LM := Lib.hid (P.lowM h6 h4)
  have HM := Lib.hid (P.highM h6 h4)
  have hpx := putX_len PS
  have HPS := Lib.hid hps
  have HES := Lib.hid hes
  obtain ⟨a0, c0, rfl⟩ := P.at_.rs.form
  obtain ⟨a1, c1, rfl⟩ := P.at_.rg.form
  obtain ⟨a2, c2, rfl⟩ := P.at_.rh.form
  obtain ⟨a3, c3, rfl⟩ := P.at_.rq.form
  have HT := Lib.hid (show OneAt w #[.slice a0 l.length c0, .slice a1 g.length c1, .slice a2 h.length c2, .slice a3 qs.length c3] (w.alloc (.cells #[.slice a0 l.length c0, .slice a1 g.length c1, .slice a2 h.length c2, .slice a3 qs.length c3] 26)) from ⟨Blk.new w _ _, (Below.refl _ _).alloc (Nat.le_refl _) _⟩)
  obtain ⟨sinf, hsi, hs0, hs1, hs2⟩ := info_parts str_info
  have HSI := Lib.hid hsi
  clear hsi
  obtain ⟨X, hX⟩ : ∃ X, X = freshB PS := ⟨_, rfl⟩
  rw [← hX] at FR ⊢
  clear P hR hps hes hX
  go_enter Tryz.func49, Tryz.ntmps49
  go_wp2_with fail
  refine (RT.out _ HT.out.low).mono ?_
  rintro e w1 ⟨rfl, hb1⟩
  have HT := Lib.hid (HT.out.later hb1)
  clear hb1 RT
  obtain ⟨ca, fa, za⟩ := HT.out.a
  go_wp2_with fail
  refine (FR.out _ HT.out.low).mono ?_
  rintro e w2 ⟨rfl, hb2⟩
  have HT := Lib.hid (HT.out.later hb2)
  clear hb2 FR ca fa za
  obtain ⟨ca, fa, za⟩ := HT.out.a
  go_wp2_with fail
  refine (LE.out _ HT.out.low).mono ?_
  rintro e w3 ⟨t, M, fs, st, rfl, ht, hb3⟩
  have HT := Lib.hid (HT.out.later hb3)
  have HLt := Lib.hid ht
  have EL := Lib.hid (fun r => model_members LM.out.2.2.1 LM.out.2.2.2.1 LM.out.1 LM.out.2.1 LM.out.2.2.2.2 HPS.out ht.least ht.rng r)
  clear hb3 ht LE ca fa za
  obtain ⟨ca, fa, za⟩ := HT.out.a
  go_wp2_with fail
  refine (HE.out _ HT.out.low).mono ?_
  rintro e w4 ⟨t', M', fs', st', rfl, ht, hb4⟩
  have HT := Lib.hid (HT.out.later hb4)
  have HLt := Lib.hid (HLt.out.below hb4)
  have HHt := Lib.hid ht
  have EH := Lib.hid (fun r => model_members HM.out.2.2.1 HM.out.2.2.2.1 HM.out.1 HM.out.2.1 HM.out.2.2.2.2 HES.out ht.least ht.rng r)
  clear hb4 ht HE LM HM HPS HES ca fa za
  generalize putX PS = PX at *
  generalize maxS l g PS NS = mx at *
  generalize minS l h = mn at *
  obtain ⟨ca, fa, za⟩ := HT.out.a
  go_wp2_with fail
  refine (PP.out _ HT.out.low).mono ?_
  rintro e w5 ⟨vp, rfl, hop, hb5⟩
  obtain ⟨pa, pc, rfl⟩ := own_form hop
  have HT := Lib.hid (HT.out.later hb5)
  have HLt := Lib.hid (HLt.out.below hb5)
  have HHt := Lib.hid (HHt.out.below hb5)
  have HPo := Lib.hid (own_mono hop (Nat.zero_le _))
  clear hb5 hop PP ca fa za
  go_wp2_with fail
  have hz5 : w.heap.size < w5.heap.size := HT.out.a.2.2
  go_loopw [2, 37] (fun vo i wr => ∃ (k : Nat) (R : List MV), k ≤ PS.length ∧ i = .int .i64 k ∧ Hid (R.map MV.s = (allR (PS.take k) NS).map (rowM ps es X)) ∧ Hid (Below w5.heap.size w5 wr) ∧ Hid (wr.ownsRow w5.heap.size 77 6 vo R.length (R.flatMap MV.cells)) ∧ Hid (RowsIn wr R)) (fun _ i _ => PS.length - (intOf i).toNat)
  case atStart => exact ⟨0, [], by omega, rfl, Lib.hid rfl, Lib.hid (Below.refl _ _), Lib.hid (World.ownsRow_nil _ _ _ _), Lib.hid (fun _ hx => by cases hx)⟩
  case round =>
    obtain ⟨k, R, hk, rfl, HE, HB, HO, HR⟩ := hrel
    obtain ⟨oo, oc, rfl⟩ := own_form HO.out
    have hRl : R.length ≤ 16 * 12 := by
      have := congrArg List.length HE.out
      rw [List.length_map, List.length_map, allR_len] at this
      rw [this]
      exact Nat.mul_le_mul (by have := List.length_take_le k PS; omega) h4
    by_cases hlt : k < PS.length
    · obtain ⟨b1, o1, rfl, p0, hc1, hm1, hb1⟩ := own_text (own_below HPo.out HB.out) hlt rfl
      have HF := Lib.hid (allR_snoc (B := NS) hlt)
      generalize PS[k] = x at *
      have HTr := Lib.hid (HT.out.later HB.out)
      obtain ⟨ca, fa, za⟩ := HTr.out.a
      go_wp2_with fail
      refine (PN.out _ HTr.out.low).mono ?_
      rintro e w6 ⟨vn, rfl, hon, hb6⟩
      obtain ⟨an, cn, rfl⟩ := own_form hon
      have HB6 := Lib.hid (HB.out.trans (hb6.mono HB.out.size))
      have HO6 := Lib.hid (own_below HO.out hb6)
      have HR6 := Lib.hid (HR.out.below hb6)
      have HN6 := Lib.hid (own_mono hon (Nat.zero_le _))
      clear hon hb6 ca fa za p0 hb1 HTr HB HO HR
      go_wp2_with fail
      go_loopw [2, 44] (fun vo i wr2 => ∃ (m : Nat) (S : List MV), m ≤ NS.length ∧ i = .int .i64 m ∧ Hid (S.map MV.s = R.map MV.s ++ ((NS.take m).map (fun n => (⟨x, n⟩ : Rl))).map (rowM ps es X)) ∧ Hid (Below w5.heap.size w5 wr2) ∧ Hid (wr2.ownsRow w5.heap.size 77 6 vo S.length (S.flatMap MV.cells)) ∧ Hid (RowsIn wr2 S) ∧ Hid (wr2.ownsRow 0 9 1 (.slice an NS.length cn) NS.length (strs NS))) (fun _ i _ => NS.length - (intOf i).toNat)
      case atStart => exact ⟨0, R, by omega, rfl, Lib.hid (by simp), HB6, HO6, HR6, HN6⟩
      case round =>
        clear HB6 HO6 HR6 HN6
        obtain ⟨m, S, hm, rfl, HE2, HB, HO, HRS, HN⟩ := hrel
        obtain ⟨wr2, rfl⟩ : ∃ V, V = wr := ⟨_, rfl⟩
        obtain ⟨oo, oc, rfl⟩ := own_form HO.out
        have hSl : S.length ≤ R.length + 12 := by
          have := congrArg List.length HE2.out
          rw [List.length_map, List.length_append, List.length_map, List.length_map, List.length_map] at this
          have := List.length_take_le m NS
          omega
        by_cases hlt2 : m < NS.length
        · obtain ⟨b2, o2, rfl, p0, hc2, hm2, hb2⟩ := own_text HN.out hlt2 rfl
          have HF2 := Lib.hid (map_snocT (f := fun n => (⟨x, n⟩ : Rl)) hlt2)
          generalize NS[m] = y at *
          have HLr := Lib.hid (HLt.out.below HB.out)
          have HHr := Lib.hid (HHt.out.below HB.out)
          have HTBr := Lib.hid ((HTB.out.below HT.out.low).below HB.out)
          -- the row begins
          obtain ⟨W0, hW0⟩ : ∃ V, V = wr2.alloc (.cells #[.string x, .string y, .slice none 0 0, .slice none 0 0, .bool false, .int .i64 0] 77) := ⟨_, rfl⟩
          obtain ⟨G, hG⟩ : ∃ G, G = wr2.heap.size := ⟨_, rfl⟩
          have hb0 : Below wr2.heap.size wr2 W0 := by rw [hW0]; exact (Below.refl _ _).alloc (Nat.le_refl _) _
          have HG0 := Lib.hid (show Blk W0 G #[.string x, .string y, .slice none 0 0, .slice none 0 0, .bool false, .int .i64 0] by rw [hW0, hG]; exact Blk.new _ _ _)
          obtain ⟨ba, bb, htb⟩ := (HLr.out.below hb0).tbl
          have RO := Lib.hid (table_Role htb ⟨x, y⟩)
          have HB0 := Lib.hid hb0
          have HGe := Lib.hid hG
          clear hb0 htb
          go_wp2_with fail
          rw [← hW0, ← hG]
          clear hW0 hG
          obtain ⟨cg, fg, zg⟩ := HG0.out
          refine RO.out.mono ?_
          rintro e w7 ⟨rfl, hb7⟩
          have HG7 := Lib.hid (HG0.out.below hb7)
          have HB7 := Lib.hid (HB0.out.trans (hb7.mono HB0.out.size))
          clear hb7 RO HB0 HG0 cg fg zg
          obtain ⟨F5, V0, g0, hmd⟩ := (HLr.out.below HB7.out).mod
          have ML := Lib.hid (model_Members hmd (HTBr.out.below HB7.out) (roleN PS NS ⟨x, y⟩))
          have EL1 := Lib.hid (EL.out ⟨x, y⟩)
          have LR1 := Lib.hid (show ∀ j (hj : j < (colsI fs (roleN PS NS ⟨x, y⟩)).length), (colsI fs (roleN PS NS ⟨x, y⟩))[j] < 64 from fun j hj => colsI_get hj)
          have hcl := colsI_len fs (roleN PS NS ⟨x, y⟩)
          clear hmd
          go_wp2_with fail
          obtain ⟨cs, hcs⟩ : ∃ cs, cs = colsI fs (roleN PS NS ⟨x, y⟩) := ⟨_, rfl⟩
          rw [← hcs] at ML EL1 hcl
          have LR1 := Lib.hid (show ∀ j (hj : j < cs.length), cs[j] < 64 by rw [hcs]; exact LR1.out)
          clear hcs
          refine ML.out.mono ?_
          rintro e w8 ⟨v8, rfl, ho8, hb8⟩
          obtain ⟨ea, ec, rfl⟩ := own_form ho8
          have HG8 := Lib.hid (HG7.out.below hb8)
          have HB8 := Lib.hid (HB7.out.trans (hb8.mono HB7.out.size))
          have HC8 := Lib.hid (own_mono ho8 (show G + 1 ≤ w7.heap.size from HG7.out.2.2))
          clear hb8 ho8 ML HB7 HG7
          have hGw : G < w8.heap.size := HG8.out.2.2
          go_wp2_with fail
          go_loopw [59] (fun i wr3 => ∃ (j : Nat) (lv : Value) (ys : List ByteArray), j ≤ cs.length ∧ i = .int .i64 j ∧ Hid (ys = whoN PS (cs.take j)) ∧ Hid (Kp1 G w8 wr3) ∧ Hid (Blk wr3 G #[.string x, .string y, lv, .slice none 0 0, .bool false, .int .i64 0]) ∧ Hid (wr3.ownsRow w8.heap.size 9 1 lv ys.length (strs ys))) (fun i _ => cs.length - (intOf i).toNat)
          case atStart => exact ⟨0, .slice none 0 0, [], by omega, rfl, Lib.hid rfl, Lib.hid (Kp.refl _ _), HG8, Lib.hid (World.ownsRow_nil _ _ _ _)⟩
          case round =>
            clear HG8
            obtain ⟨j, lv, ys, hj, rfl, HY, HK, HGb, HLv⟩ := hrel
            obtain ⟨wr3, rfl⟩ : ∃ V, V = wr := ⟨_, rfl⟩
            obtain ⟨la, lc, rfl⟩ := own_form HLv.out
            have hyl : ys.length ≤ 64 := by rw [HY.out]; unfold whoN; rw [List.length_map]; have := List.length_take_le j cs; omega
            have hb3 : Below wr2.heap.size wr2 wr3 := by rw [← HGe.out]; rw [← HGe.out] at HB8; exact HB8.out.trans (HK.out.below (by omega))
            have HB3 := Lib.hid hb3
            clear hb3
            by_cases hlt3 : j < cs.length
            · obtain ⟨b3, o3, rfl, p1, hc3, hm3, hb3⟩ := own_cell (HK.out.own HC8.out (fun g hg e => by have := (HC8.out.lt g hg).1; omega)) (ints_get hlt3)
              have hc64 := LR1.out j hlt3
              have HYS := Lib.hid (who_snoc (A := PS) hlt3)
              generalize cs[j] = c at *
              generalize hz : atB PS (c : Int) = z at *
              have HZ := Lib.hid hz
              clear hz
              obtain ⟨cg, fg, zg⟩ := HGb.out
              go_wp2_with fail
              refine wp_region_last (S := (fun W => ∀ o, W.cell? ⟨G, o, none⟩ = (#[.string x, .string y, .slice la ys.length lc, .slice none 0 0, .bool false, .int .i64 0] : Array Value)[o]?)) 9 (by kernel_rfl) (HGb.out.below (below_drew (Below.refl _ wr3))).1 (fun hHeld => ?_)
              have hd := below_drew (Below.refl wr3.heap.size wr3)
              have HGb := Lib.hid (HGb.out.below hd)
              have HK := Lib.hid (HK.out.later hd)
              have HB3 := Lib.hid (HB3.out.trans (hd.mono HB3.out.size))
              have HLv := Lib.hid (own_below HLv.out hd)
              obtain ⟨W3, hW3⟩ : ∃ V, V = wr3.drew := ⟨_, rfl⟩
              rw [← hW3] at HGb HK HB3 HLv hHeld ⊢
              clear hd hW3 cg fg zg p1 hb3
              obtain ⟨ba, bb, htb⟩ := (HLr.out.below HB3.out).tbl
              (refine lyes 0 ?_); (refine lyes 1 ?_); (refine lyes 2 ?_); (refine lyes 4 ?_); (try simp only [Act.put, List.setIfInBounds_toArray, List.set])
              (refine last_call 3 rfl (by kernel_rfl) (fun K hK => ?_); go_simp)
              go_at_call 89; refine (table_Prins htb).mono ?_; rintro e wz3 ⟨rfl, rfl⟩
              (refine hK.out _ _ (HGb.out.1) (fun hHeld => ?_); clear hK K; (try simp only [Act.put, List.setIfInBounds_toArray, List.set]))
              (refine last_call 5 rfl (by kernel_rfl) (fun K hK => ?_); go_simp)
              go_at_call 90; refine (tab_At ba PS (c : Int) _ htb.ta (by omega)).mono ?_; rintro e wz5 ⟨rfl, rfl⟩; rw [HZ.out]
              (refine hK.out _ _ (HGb.out.1) (fun hHeld => ?_); clear hK K; (try simp only [Act.put, List.setIfInBounds_toArray, List.set]))
              (refine last_call 6 rfl (by kernel_rfl) (fun K hK => ?_); go_simp)
              obtain ⟨wn, hwn⟩ : ∃ V, V = wz5.alloc (.cells #[.string z] 9) := ⟨_, rfl⟩
              obtain ⟨bn, hbn⟩ : ∃ b, b = wz5.heap.size := ⟨_, rfl⟩
              rw [← hwn, ← hbn]
              have hbq : Below wz5.heap.size wz5 wn := by rw [hwn]; exact (Below.refl _ _).alloc (Nat.le_refl _) _
              have HN1 := Lib.hid (show Sl wn 1 (.slice (some ⟨bn, 0, none⟩) 1 1) 1 [.string z] by rw [hwn]; exact Sl.new wz5 [.string z] 9 1 1 bn hbn rfl (by simp [maxLen]))
              have HGb := Lib.hid (HGb.out.below hbq)
              have HK := Lib.hid (HK.out.later hbq)
              have HB3 := Lib.hid (HB3.out.trans (hbq.mono HB3.out.size))
              have HLv := Lib.hid (own_below HLv.out hbq)
              clear hbq hwn hbn htb
              (refine hK.out _ _ (HGb.out.1) (fun hHeld => ?_); clear hK K; (try simp only [Act.put, List.setIfInBounds_toArray, List.set]))
              refine last_call 7 rfl (by kernel_rfl) (fun K hK => ?_)
              refine step_row rfl _ _ 38 rfl w8.heap.size 9 sinf _ 1 16 Tryz.underlying38 HSI.out hs0 hs1 hs2 (by decide) rfl (by decide) _ ys.length _ rfl HLv.out _ 1 _ rfl HN1.out.a (str1 _) (by omega) HK.out.size ?_
              intro a5 c5 wc hown5 hg5
              have HGb := Lib.hid (HGb.out.grown hg5 (fun e => by have := (HLv.out.lt G e.symm).1; omega))
              have HB3 := Lib.hid (below_own HB3.out HLv.out hg5 HB3.out.size (by have := HGe.out; omega))
              have HK := Lib.hid (HK.out.grown HLv.out hg5 (Nat.le_refl _))
              have HLv := Lib.hid hown5
              clear hg5 hown5 HN1
              (refine hK.out _ _ (HGb.out.1) (fun hHeld => ?_); clear hK K; (try simp only [Act.put, List.setIfInBounds_toArray, List.set]))
              (refine lyes 8 ?_); (try simp only [Act.put, List.setIfInBounds_toArray, List.set])
              obtain ⟨cg, fg, zg⟩ := HGb.out
              (refine last_end 9 rfl (by kernel_rfl) (by kernel_rfl) (fun K hK => ?_); go_simp)
              clear cg fg zg
              have HGb := Lib.hid (show Blk (wc.setCell ⟨G, 2, none⟩ (.slice a5 (ys.length + 1) c5)) G #[.string x, .string y, .slice a5 (ys.length + 1) c5, .slice none 0 0, .bool false, .int .i64 0] from HGb.out.put (o := 2) (by simp))
              have HK := Lib.hid (HK.out.set (o := 2) (v := .slice a5 (ys.length + 1) c5))
              have HLv := Lib.hid (show (wc.setCell ⟨G, 2, none⟩ (.slice a5 (ys.length + 1) c5)).ownsRow w8.heap.size 9 1 (.slice a5 (ys.length + 1) c5) (ys ++ [z]).length (strs (ys ++ [z])) by
                rw [List.length_append, strs_snoc]
                exact (Kp.set (X := fun b => b = G) rfl).own HLv.out (fun g hg e => by have := (HLv.out.lt g hg).1; omega))
              obtain ⟨wd, hwd⟩ : ∃ V, V = wc.setCell ⟨G, 2, none⟩ (.slice a5 (ys.length + 1) c5) := ⟨_, rfl⟩
              rw [← hwd] at HGb HK HLv ⊢
              clear hwd HB3
              refine hK.out _ _ ?_
              clear hK K
              go_wp2_with fail
              exact ⟨⟨j + 1, .slice a5 (ys.length + 1) c5, ys ++ [z], by omega, by go_num, Lib.hid (by rw [HYS.out, HY.out]), HK, HGb, HLv⟩, by simp [intOf]; omega⟩
            · have HLO := Lib.hid (show ys = membersP ps ⟨x, y⟩ by rw [HY.out, List.take_of_length_le (show cs.length ≤ j by omega), EL1.out])
              have HLv := Lib.hid (own_mono HLv.out (show G + 1 ≤ w8.heap.size from hGw))
              clear HY HK EL1 LR1 HC8 hcl HB8
              obtain ⟨cg, fg, zg⟩ := HGb.out
              obtain ⟨ba, bb, htb⟩ := (HHr.out.below HB3.out).tbl
              have RO := Lib.hid (table_Role htb ⟨x, y⟩)
              clear htb
              go_wp2_with fail
              refine RO.out.mono ?_
              rintro e w9 ⟨rfl, hb9⟩
              have HG9 := Lib.hid (HGb.out.below hb9)
              have HB9 := Lib.hid (HB3.out.trans (hb9.mono HB3.out.size))
              have HLv := Lib.hid (own_below HLv.out hb9)
              clear hb9 RO HB3 HGb cg fg zg
              obtain ⟨F5, V0, g0, hmd⟩ := (HHr.out.below HB9.out).mod
              have ML := Lib.hid (model_Members hmd (HTBr.out.below HB9.out) (roleN PX NS ⟨x, y⟩))
              have EH1 := Lib.hid (EH.out ⟨x, y⟩)
              have LR1 := Lib.hid (show ∀ j (hj : j < (colsI fs' (roleN PX NS ⟨x, y⟩)).length), (colsI fs' (roleN PX NS ⟨x, y⟩))[j] < 64 from fun j hj => colsI_get hj)
              have hcl := colsI_len fs' (roleN PX NS ⟨x, y⟩)
              clear hmd
              go_wp2_with fail
              obtain ⟨ds, hds⟩ : ∃ cs, cs = colsI fs' (roleN PX NS ⟨x, y⟩) := ⟨_, rfl⟩
              rw [← hds] at ML EH1 hcl
              have LR1 := Lib.hid (show ∀ j (hj : j < ds.length), ds[j] < 64 by rw [hds]; exact LR1.out)
              clear hds
              refine ML.out.mono ?_
              rintro e w10 ⟨v10, rfl, ho10, hb10⟩
              obtain ⟨ea, ec, rfl⟩ := own_form ho10
              have HG10 := Lib.hid (HG9.out.below hb10)
              have HB10 := Lib.hid (HB9.out.trans (hb10.mono HB9.out.size))
              have HC10 := Lib.hid (own_mono ho10 (show G + 1 ≤ w9.heap.size from HG9.out.2.2))
              have HLv10 := Lib.hid (own_below HLv.out hb10)
              clear hb10 ho10 ML HB9 HG9 HLv
              have hGw : G < w10.heap.size := HG10.out.2.2
              obtain ⟨A, hA⟩ : ∃ A, A = whoN PX ds := ⟨_, rfl⟩
              have hAl : A.length = ds.length := by rw [hA]; unfold whoN; rw [List.length_map]
              have HA := Lib.hid hA
              rw [← hA] at EH1
              clear hA
              go_wp2_with fail
              go_loopw [80] (fun i wr4 => ∃ (j : Nat) (hv : Value) (zs : List ByteArray) (op : Bool), j ≤ ds.length ∧ i = .int .i64 j ∧ Hid (zs = (A.take j).filter (fun y => !decide (y = X))) ∧ Hid (op = (A.take j).any (fun y => decide (y = X))) ∧ Hid (Kp1 G w10 wr4) ∧ Hid (Blk wr4 G #[.string x, .string y, .slice la ys.length lc, hv, .bool op, .int .i64 0]) ∧ Hid (wr4.ownsRow w10.heap.size 9 1 hv zs.length (strs zs))) (fun i _ => ds.length - (intOf i).toNat)
              case atStart => exact ⟨0, .slice none 0 0, [], false, by omega, rfl, Lib.hid rfl, Lib.hid rfl, Lib.hid (Kp.refl _ _), HG10, Lib.hid (World.ownsRow_nil _ _ _ _)⟩
              case round =>
                clear HG10
                obtain ⟨j, hv, zs, op, hj, rfl, HZS, HOP, HK, HGb, HHv⟩ := hrel
                obtain ⟨wr4, rfl⟩ : ∃ V, V = wr := ⟨_, rfl⟩
                obtain ⟨ha, hc, rfl⟩ := own_form HHv.out
                have hzl : zs.length ≤ 64 := by rw [HZS.out]; have h1 := List.length_filter_le (fun y => !decide (y = X)) (A.take j); have := List.length_take_le j A; omega
                have hb4 : Below wr2.heap.size wr2 wr4 := by rw [← HGe.out]; rw [← HGe.out] at HB10; exact HB10.out.trans (HK.out.below (by omega))
                have HB4 := Lib.hid hb4
                clear hb4
                by_cases hlt4 : j < ds.length
                · obtain ⟨b3, o3, rfl, p1, hc3, hm3, hb3⟩ := own_cell (HK.out.own HC10.out (fun g hg e => by have := (HC10.out.lt g hg).1; omega)) (ints_get hlt4)
                  have hc64 := LR1.out j hlt4
                  have hjA : j < A.length := by omega
                  have hz : atB PX ((ds[j] : Nat) : Int) = A[j] := by simp only [HA.out]; unfold whoN; rw [List.getElem_map]
                  have TF := Lib.hid (take_filter (p := fun y => !decide (y = X)) hjA)
                  have TA := Lib.hid (take_any (p := fun y => decide (y = X)) hjA)
                  generalize A[j]'hjA = z at *
                  generalize ds[j] = c at *
                  obtain ⟨ba, bb, htb⟩ := (HHr.out.below HB4.out).tbl
                  have PRI := Lib.hid (table_Prins htb)
                  have AT := Lib.hid (tab_At ba PX (c : Int) _ htb.ta (by omega))
                  rw [hz] at AT
                  clear hz htb
                  obtain ⟨cg, fg, zg⟩ := HGb.out
                  go_wp2_with fail
                  refine PRI.out.mono ?_
                  rintro e wz3 ⟨rfl, rfl⟩
                  go_wp2_with fail
                  refine AT.out.mono ?_
                  rintro e wz5 ⟨rfl, rfl⟩
                  clear PRI AT p1 hb3
                  by_cases hzX : z = X
                  · have dz : (z.toList == X.toList) = true := by rw [beq_str, decide_eq_true hzX]
                    have TF := Lib.hid (show (A.take (j + 1)).filter (fun y => !decide (y = X)) = (A.take j).filter (fun y => !decide (y = X)) by rw [TF.out, decide_eq_true hzX]; simp)
                    have TA := Lib.hid (show (A.take (j + 1)).any (fun y => decide (y = X)) = true by rw [TA.out, decide_eq_true hzX, Bool.or_true])
                    clear hzX
                    go_wp2_with fail
                    have HGb := Lib.hid (show Blk (wz5.setCell ⟨G, 4, none⟩ (.bool true)) G #[.string x, .string y, .slice la ys.length lc, .slice ha zs.length hc, .bool true, .int .i64 0] from HGb.out.put (o := 4) (by simp))
                    have HK5 := Lib.hid (HK.out.set (o := 4) (v := .bool true))
                    have HHv := Lib.hid ((Kp.set (X := fun b => b = G) (w := wz5) (o := 4) (v := .bool true) rfl).own HHv.out (fun g hg e => by have := (HHv.out.lt g hg).1; omega))
                    exact ⟨⟨j + 1, .slice ha zs.length hc, zs, true, by omega, by go_num, Lib.hid (by rw [TF.out, HZS.out]), Lib.hid TA.out.symm, HK5, HGb, HHv⟩, by simp [intOf]; omega⟩
                  · have dz : (z.toList == X.toList) = false := by rw [beq_str, decide_eq_false hzX]
                    have TF := Lib.hid (show (A.take (j + 1)).filter (fun y => !decide (y = X)) = (A.take j).filter (fun y => !decide (y = X)) ++ [z] by rw [TF.out, decide_eq_false hzX]; simp)
                    have TA := Lib.hid (show (A.take (j + 1)).any (fun y => decide (y = X)) = (A.take j).any (fun y => decide (y = X)) by rw [TA.out, decide_eq_false hzX, Bool.or_false])
                    clear hzX
                    have hown := HHv.out
                    have hks := HK.out.size
                    go_wp2_with (at_builtin; refine halt_ ?_)
                    unfold Halt_
                    refine app_own Tryz.underlying38 str_info rfl (by decide) (by decide) rfl _ _ rfl w10.heap.size rfl (hown.alloc _) [.string z] rfl (heap_new1 _ _) rfl (str1 _) ?_ ?_ ?_
                    · omega
                    · simp; omega
                    intro a' cap' w12 hown' hgrow
                    have HGb := Lib.hid ((HGb.out.alloc _).grown hgrow (fun e => by have := (HHv.out.lt G e.symm).1; omega))
                    have HK := Lib.hid ((HK.out.later ((Below.refl wz5.heap.size wz5).alloc (Nat.le_refl _) (.cells #[.string z] 9))).grown (hown.alloc _) hgrow (Nat.le_refl _))
                    clear hown hgrow hks cg fg zg
                    obtain ⟨cg, fg, zg⟩ := HGb.out
                    go_wp2_with fail
                    have HGb := Lib.hid (show Blk (w12.setCell ⟨G, 3, none⟩ (.slice a' (zs.length + 1) cap')) G #[.string x, .string y, .slice la ys.length lc, .slice a' (zs.length + 1) cap', .bool op, .int .i64 0] from HGb.out.put (o := 3) (by simp))
                    have HK5 := Lib.hid (HK.out.set (o := 3) (v := .slice a' (zs.length + 1) cap'))
                    have HHv := Lib.hid (show (w12.setCell ⟨G, 3, none⟩ (.slice a' (zs.length + 1) cap')).ownsRow w10.heap.size 9 1 (.slice a' (zs.length + 1) cap') (zs ++ [z]).length (strs (zs ++ [z])) by
                      rw [List.length_append, strs_snoc]
                      exact (Kp.set (X := fun b => b = G) rfl).own hown' (fun g hg e => by have := (hown'.lt g hg).1; omega))
                    exact ⟨⟨j + 1, .slice a' (zs.length + 1) cap', zs ++ [z], op, by omega, by go_num, Lib.hid (by rw [TF.out, HZS.out]), Lib.hid (by rw [TA.out, HOP.out]), HK5, HGb, HHv⟩, by simp [intOf]; omega⟩
                · have hjA : A.length ≤ j := by omega
                  have HHI := Lib.hid (show zs = (membersP es ⟨x, y⟩).filter (fun y => !decide (y = X)) by rw [HZS.out, List.take_of_length_le hjA, EH1.out])
                  have HOPX := Lib.hid (show op = (membersP es ⟨x, y⟩).any (fun y => decide (y = X)) by rw [HOP.out, List.take_of_length_le hjA, EH1.out])
                  have HLv4 := Lib.hid (HK.out.own HLv10.out (fun g hg e => by have := (HLv10.out.lt g hg).1; omega))
                  clear HZS HOP HK EH1 LR1 HC10 HLv10 hcl HB10 HA hjA
                  obtain ⟨cg, fg, zg⟩ := HGb.out
                  go_wp2_with fail
                  refine (mat_kind ⟨x, y⟩ (.slice la ys.length lc) (.slice ha zs.length hc) ys zs op 0 wr4 (Sl.of_own HLv4.out).a (Sl.of_own HHv.out).a).mono ?_
                  rintro e w11 ⟨rfl, hb11⟩
                  have HGb := Lib.hid (HGb.out.below hb11)
                  have HB11 := Lib.hid (HB4.out.trans (hb11.mono HB4.out.size))
                  have HLv := Lib.hid (own_below HLv4.out hb11)
                  have HHv := Lib.hid (own_below HHv.out hb11)
                  clear hb11 HB4 HLv4 cg fg zg
                  generalize hkk : kindM op ys zs = kk at *
                  have HKK := Lib.hid hkk
                  clear hkk
                  obtain ⟨cg, fg, zg⟩ := HGb.out
                  have HG12 := Lib.hid (show Blk (w11.setCell ⟨G, 5, none⟩ (.int .i64 kk)) G #[.string x, .string y, .slice la ys.length lc, .slice ha zs.length hc, .bool op, .int .i64 kk] from HGb.out.put (o := 5) (by simp))
                  have HLv := Lib.hid ((Kp.set (X := fun b => b = G) (w := w11) (o := 5) (v := .int .i64 kk) rfl).own HLv.out (fun g hg e => by have := (HLv.out.lt g hg).1; omega))
                  have HHv := Lib.hid ((Kp.set (X := fun b => b = G) (w := w11) (o := 5) (v := .int .i64 kk) rfl).own HHv.out (fun g hg e => by have := (HHv.out.lt g hg).1; omega))
                  have HB12 := Lib.hid (below_put (o := 5) (v := .int .i64 kk) HB11.out (show wr2.heap.size ≤ G by have := HGe.out; omega))
                  go_upto_region 27 with fail
                  obtain ⟨w12, hw12⟩ : ∃ V, V = w11.setCell ⟨G, 5, none⟩ (.int .i64 kk) := ⟨_, rfl⟩
                  rw [← hw12] at HG12 HLv HHv HB12 ⊢
                  clear hw12 HGb HB11 cg fg zg
                  have HO12 := Lib.hid (own_below HO.out HB12.out)
                  have HRS12 := Lib.hid (HRS.out.below HB12.out)
                  have HN12 := Lib.hid (own_below HN.out HB12.out)
                  obtain ⟨cg, fg, zg⟩ := HG12.out
                  go_wp2_with (at_builtin; refine halt_ ?_)
                  unfold Halt_
                  refine app_own Tryz.underlying70 mr_info rfl (by decide) (by decide) rfl _ _ rfl w5.heap.size rfl (HO12.out.alloc _) [.string x, .string y, .slice la ys.length lc, .slice ha zs.length hc, .bool op, .int .i64 kk] rfl (heap_new1 _ _) rfl (mv_one (x := ⟨⟨⟨x, y⟩, ys, zs, op, kk⟩, .slice la ys.length lc, .slice ha zs.length hc⟩) rfl rfl) ?_ ?_ ?_
                  · omega
                  · have h1 := HB12.out.size; have h2 := HB.out.size; simp; omega
                  intro a' cap' w13 hown' hgrow
                  have HL13 := Lib.hid (own_far (HLv.out.alloc _) (HO12.out.alloc _) hgrow (by decide))
                  have HH13 := Lib.hid (own_far (HHv.out.alloc _) (HO12.out.alloc _) hgrow (by decide))
                  have HN13 := Lib.hid (own_far (HN12.out.alloc _) (HO12.out.alloc _) hgrow (by decide))
                  have HR13 := Lib.hid ((HRS12.out.below ((Below.refl _ _).alloc (Nat.le_refl _) (.cells #[.string x, .string y, .slice la ys.length lc, .slice ha zs.length hc, .bool op, .int .i64 kk] 77))).far (HO12.out.alloc _) hgrow)
                  have hbw : Below w5.heap.size w5 (w12.alloc (.cells #[.string x, .string y, .slice la ys.length lc, .slice ha zs.length hc, .bool op, .int .i64 kk] 77)) := (HB.out.trans (HB12.out.mono HB.out.size)).alloc (HB.out.trans (HB12.out.mono HB.out.size)).size _
                  have HB13 := Lib.hid (below_own hbw (HO12.out.alloc _) hgrow hbw.size (Nat.le_refl _))
                  have HO13 := Lib.hid (show w13.ownsRow w5.heap.size 77 6 (.slice a' (S.length + 1) cap') (S ++ [(⟨⟨⟨x, y⟩, ys, zs, op, kk⟩, .slice la ys.length lc, .slice ha zs.length hc⟩ : MV)]).length ((S ++ [(⟨⟨⟨x, y⟩, ys, zs, op, kk⟩, .slice la ys.length lc, .slice ha zs.length hc⟩ : MV)]).flatMap MV.cells) by rw [List.length_append, List.flatMap_append]; exact hown')
                  have HRR := Lib.hid (HR13.out.snoc (x := ⟨⟨⟨x, y⟩, ys, zs, op, kk⟩, .slice la ys.length lc, .slice ha zs.length hc⟩) (own_mono HL13.out (Nat.zero_le _)) (own_mono HH13.out (Nat.zero_le _)))
                  have HROW := Lib.hid (show (⟨⟨x, y⟩, ys, zs, op, kk⟩ : MR) = rowM ps es X ⟨x, y⟩ by unfold rowM; rw [← HLO.out, ← HHI.out, ← HOPX.out, HKK.out])
                  clear hown' hgrow hbw cg fg zg
                  go_wp2_with fail
                  exact ⟨⟨m + 1, S ++ [⟨⟨⟨x, y⟩, ys, zs, op, kk⟩, .slice la ys.length lc, .slice ha zs.length hc⟩], by omega, by go_num, Lib.hid (by rw [HF2.out, List.map_append, List.map_append, HE2.out, List.append_assoc]; simp [HROW.out]), HB13, HO13, HRR, HN13⟩, by simp [intOf]; omega⟩
        · have HES2 := Lib.hid (show S.map MV.s = (allR (PS.take (k + 1)) NS).map (rowM ps es X) by rw [HE2.out, HE.out, HF.out, List.map_append, List.take_of_length_le (show NS.length ≤ m by omega)])
          go_wp2_with fail
          exact ⟨⟨k + 1, S, by omega, by go_num, HES2, HB, HO, HRS⟩, by simp [intOf]; omega⟩
    · have HES := Lib.hid (show R.map MV.s = (allR PS NS).map (rowM ps es X) by rw [HE.out, List.take_of_length_le (show PS.length ≤ k by omega)])
      have HS := Lib.hid (Sl.of_own HO.out)
      have HTr := Lib.hid (HT.out.later HB.out)
      go_wp2
      go_ret2
      exact ⟨_, R, rfl, HS.out, HR.out, HES.out, HTr.out.low⟩
end
end Go.Proofs.YtcmdhfccdkjenaaGreatDoor
namespace Go.Proofs.YtcmdhfccdkjenaaGreatDoor
open Go.RowKit Go.Shelf

end Go.Proofs.YtcmdhfccdkjenaaGreatDoor
namespace Go.Proofs.YtcmdhfccdkjenaaGreatDoor
open Go.RowKit Go.Shelf

section
variable {w : World} {v0 v1 v2 v3 : Value} {l : List St} {g h : List Rl} {qs : List Qv} {F : Qv → List ByteArray} {PS NS : List ByteArray}
end
end Go.Proofs.YtcmdhfccdkjenaaGreatDoor
namespace Go.Proofs.YtcmdhfccdkjenaaGreatDoor
open Go.RowKit Go.Shelf

theorem sb_size : (Tryz.prog.info? 177).map (·.size) = some 2 := by kernel_rfl
theorem sb_lies : liesAt Tryz.prog Tryz.prog.depth 177 (2 / Tryz.prog.cellsOf 177) 0 177 1 = true := by kernel_rfl
theorem sb_byte : (Tryz.prog.info? 5).map (fun i => (i.zero, i.size, i.bytes)) = some (some (.int .u8 0), 1, 1) := by kernel_rfl

set_option maxRecDepth 100000 in
set_option maxHeartbeats 1000000 in
theorem sb_copyCheck_used (b : Nat) (w : World) (h0 : w.cell? ⟨b, 0, none⟩ = some (.pointer (some ⟨b, 0, none⟩))) :
    Calls Tryz.prog 210 #[.pointer (some ⟨b, 0, none⟩)] w fun e w' => e = .returned (.tuple #[]) ∧ w' = w := by
  obtain ⟨j, hj, _⟩ := Option.map_eq_some_iff.1 sb_size
  go_enter Tryz.func210, Tryz.ntmps210
  go_wp2
  rw [Lib.run_neq_ptr_same w _ Tryz.underlying174 hj]
  go_wp2
  go_end0
  exact ⟨rfl, rfl⟩

set_option maxRecDepth 100000 in
set_option maxHeartbeats 1000000 in
theorem sb_copyCheck_fresh (b : Nat) (w : World) (h0 : w.cell? ⟨b, 0, none⟩ = some (.pointer none)) (hsh : w.shape? b = some (177, 2)) (hfz : w.frozen? ⟨b, 0, none⟩ = false) :
    Calls Tryz.prog 210 #[.pointer (some ⟨b, 0, none⟩)] w fun e w' => e = .returned (.tuple #[]) ∧ w' = w.setCell ⟨b, 0, none⟩ (.pointer (some ⟨b, 0, none⟩)) := by
  obtain ⟨j, hj, hjs⟩ := Option.map_eq_some_iff.1 sb_size
  go_enter Tryz.func210, Tryz.ntmps210
  go_wp2
  rw [Lib.run_to_unsafe w ⟨b, 0, none⟩ Tryz.underlying174 Tryz.underlying240 hj (by rw [hjs]; decide) hsh (Nat.zero_lt_succ 1)]
  simp only [Result.andThen]
  rw [Oper.upon_value]
  go_wp2
  rw [run_callFunc_extern Tryz.func236 (by kernel_rfl) (by kernel_rfl) (by kernel_rfl) (e := Extern.AbiNoEscape.same) (by kernel_rfl)]
  rw [Lib.run_noEscape]
  simp only [Result.andThen]
  rw [Oper.upon_value]
  go_wp2
  rw [Lib.run_from_unsafe w ⟨b, 0, none⟩ Tryz.underlying240 Tryz.underlying174 hj hsh sb_lies]
  simp only [Result.andThen]
  rw [Oper.upon_value]
  go_wp2
  go_end0
  exact ⟨rfl, rfl⟩

abbrev SbAt (B b : Nat) (l : List UInt8) (w : World) : Prop := Lib.IsBuilderF 177 5 B b (Lib.byteCells l) w

theorem sb_copyCheck (B b : Nat) (bs : List Value) (w : World) (h : Lib.IsBuilderF 177 5 B b bs w) :
    Calls Tryz.prog 210 #[.pointer (some ⟨b, 0, none⟩)] w fun e w' => e = .returned (.tuple #[]) ∧ (Lib.BuilderAtF 177 5 B b (.pointer (some ⟨b, 0, none⟩)) bs w' ∧ Below B w w' ∧ Lib.OthersKept 5 (some b) w w') := by
  rcases h with h | h
  · refine (sb_copyCheck_fresh b w h.cell0 h.shape h.frozen0).mono ?_
    rintro e w' ⟨rfl, rfl⟩
    exact ⟨rfl, h.used _, (Below.refl B w).setCell (p := ⟨b, 0, none⟩) h.1 _, (Lib.OthersKept.refl _ _ w).setCell ⟨b, 0, none⟩ rfl _⟩
  · refine (sb_copyCheck_used b w h.cell0).mono ?_
    rintro e w' ⟨rfl, rfl⟩
    exact ⟨rfl, h, Below.refl B _, Lib.OthersKept.refl _ _ _⟩

theorem strCells_eq (s : ByteArray) : Lib.strCells s = Lib.byteCells (bl s) := rfl

set_option maxHeartbeats 2000000 in
set_option maxRecDepth 100000 in
theorem sb_WriteString (B b : Nat) (l : List UInt8) (s : ByteArray) (w : World) (h : SbAt B b l w) (hlen : l.length + s.size ≤ 140737488355328) (hBw : B ≤ w.heap.size) :
    Calls Tryz.prog 174 #[.pointer (some ⟨b, 0, none⟩), .string s] w fun e w' => e = .returned (.tuple #[.int .i64 s.size, .nilIface]) ∧ (SbAt B b (l ++ bl s) w' ∧ Below B w w' ∧ Lib.OthersKept 5 (some b) w w') := by
  obtain ⟨i0, hi, hz0, hz1, hz2⟩ := info_parts sb_byte
  have hlen' : (Lib.byteCells l).length + s.size ≤ 140737488355328 := by simpa [Lib.byteCells] using hlen
  have H := Lib.hid h
  have HL := Lib.hid hlen'
  clear h hlen hlen'
  go_enter Tryz.func174, Tryz.ntmps174
  go_wp2_with (go_at_call 210; refine (sb_copyCheck B b _ _ H.out).mono ?_)
  rintro e w1 ⟨rfl, h1, hb1, hk1⟩
  obtain ⟨hB, v, hbk, hown, hne⟩ := h1
  have c0 : w1.cell? ⟨b, 0, none⟩ = some (.pointer (some ⟨b, 0, none⟩)) := by rw [Lib.cell_of_heap hbk]; rfl
  have c1 : w1.cell? ⟨b, 1, none⟩ = some v := by rw [Lib.cell_of_heap hbk]; rfl
  go_wp2_with (at_builtin; refine Lib.wpList_append_own_stringF _ rfl _ _ 175 9 rfl B 5 i0 Tryz.underlying175 Tryz.underlying9 hi hz0 hz1 hz2 _ _ _ rfl hown s rfl ?c3 ?c4 ?c5 ?_)
  case c3 => have := HL.out; unfold maxLen; omega
  case c4 => exact HL.out
  case c5 => have := hb1.size; omega
  intro v' w2 hown' hgrow _
  have hlt : b < w1.heap.size := by
    rcases Nat.lt_or_ge b w1.heap.size with h' | h'
    · exact h'
    · simp [Array.getElem?_eq_none h'] at hbk
  have hb2 : w2.heap[b]? = some (.cells #[.pointer (some ⟨b, 0, none⟩), v] 177 (0, 0)) := by
    rw [hgrow.block b hlt (fun e => hne e.symm)]
    exact hbk
  have d0 : w2.cell? ⟨b, 0, none⟩ = some (.pointer (some ⟨b, 0, none⟩)) := by rw [Lib.cell_of_heap hb2]; rfl
  have d1 : w2.cell? ⟨b, 1, none⟩ = some v := by rw [Lib.cell_of_heap hb2]; rfl
  have f1 : w2.frozen? ⟨b, 1, none⟩ = false := Lib.frozen_of_heap hb2 1
  obtain ⟨ao, n', cap, rfl⟩ : ∃ ao n' cap, v' = .slice ao n' cap := by
    rcases hown'.2 with ⟨hv, _⟩ | ⟨g, cap, cur, fz, hv, _⟩
    · exact ⟨_, _, _, hv⟩
    · exact ⟨_, _, _, hv⟩
  go_wp2
  go_ret2
  refine ⟨rfl, ?_, ?_, (hk1.grown hgrow (Lib.ownsRowF_kind hown)).setCell ⟨b, 1, none⟩ rfl _⟩
  · have e1 : Lib.byteCells (l ++ bl s) = Lib.byteCells l ++ Lib.strCells s := by rw [strCells_eq]; simp [Lib.byteCells]
    unfold SbAt
    rw [e1]
    exact .inr (Lib.BuilderAtF.put (T := 177) (e := 5) hB hb2 (bs' := Lib.byteCells l ++ Lib.strCells s) (by simpa [Lib.strCells_length] using hown') (by decide))
  · exact (hb1.grown hgrow (by have := hb1.size; omega) (fun k hk => (hown.lt k hk).1)).setCell (p := ⟨b, 1, none⟩) hB _
end Go.Proofs.YtcmdhfccdkjenaaGreatDoor
namespace Go.Proofs.YtcmdhfccdkjenaaGreatDoor
open Go.RowKit Go.Shelf

set_option maxHeartbeats 2000000 in
set_option maxRecDepth 1000000 in
theorem sb_grow_fresh (B b n : Nat) (w : World) (hB : B ≤ b) (hbk : w.heap[b]? = some (.cells #[.pointer (some ⟨b, 0, none⟩), .slice none 0 0] 177 (0, 0))) (hBw : B ≤ w.heap.size) (hn : n ≤ 281474976710656) :
    Calls Tryz.prog 211 #[.pointer (some ⟨b, 0, none⟩), .int .i64 n] w fun e w' => e = .returned (.tuple #[]) ∧ (Lib.BuilderAt 177 5 B b (.pointer (some ⟨b, 0, none⟩)) [] w' ∧ Below B w w') := by
  obtain ⟨i0, hi, hz0, hz1, hz2⟩ := info_parts sb_byte
  obtain ⟨cs, hrun, hle, hmax⟩ := Lib.run_makeNoZero (P := Tryz.prog) w.drew #[3] 175 5 Tryz.underlying175 n hn
  have hw : IntKind.i64.wrap (IntKind.i64.wrap 0 + (n : Int)) = n := by
    rw [IntKind.wrap_i64, IntKind.wrap_i64]
    omega
  have hcall : (callFunc 237 #[.int .i64 (IntKind.i64.wrap (IntKind.i64.wrap 0 + (n : Int)))]).run Tryz.prog w.drew = .ok (.value (.slice (some ⟨w.drew.heap.size, 0, none⟩) n cs.size)) (w.drew.drew.drew.alloc (.cells cs 5)) := by
    rw [hw, run_callFunc_extern Tryz.func237 (by kernel_rfl) (by kernel_rfl) (by kernel_rfl) (e := Extern.BytealgMakeNoZero.makeNoZero #[3] #[175]) (by kernel_rfl), hrun]
    rfl
  have c1 : w.drew.cell? ⟨b, 1, none⟩ = some (.slice none 0 0) := by
    have : w.drew.heap[b]? = _ := hbk
    rw [Lib.cell_of_heap this]; rfl
  have c2 : (w.alloc (.cells cs 5)).cell? ⟨b, 1, none⟩ = some (.slice none 0 0) := by
    have hlt : b < w.heap.size := by
      rcases Nat.lt_or_ge b w.heap.size with h' | h'
      · exact h'
      · simp [Array.getElem?_eq_none h'] at hbk
    have : (w.alloc (.cells cs 5)).heap[b]? = _ := (Lib.alloc_old w _ b hlt).trans hbk
    rw [Lib.cell_of_heap this]; rfl
  have f2 : (w.alloc (.cells cs 5)).frozen? ⟨b, 1, none⟩ = false := by
    have hlt : b < w.heap.size := by
      rcases Nat.lt_or_ge b w.heap.size with h' | h'
      · exact h'
      · simp [Array.getElem?_eq_none h'] at hbk
    exact Lib.frozen_of_heap ((Lib.alloc_old w _ b hlt).trans hbk) 1
  have hcopy : ∀ W : World, (Builtin.copy_ #[175, 175] 3 #[.slice (some ⟨w.heap.size, 0, none⟩) 0 cs.size, .slice none 0 0]).run Tryz.prog W = .ok (goInt 0) W :=
    fun W => run_copy_none W 175 175 3 5 _ _ 0 cs.size 0 0 Tryz.underlying175 (by rw [hi]; exact congrArg some hz1) rfl
  clear hw
  go_enter Tryz.func211, Tryz.ntmps211
  go_wp2
  have hfin := Lib.grown_fresh (T := 177) (e := 5) (cs := cs) hB hbk hBw (hmax (by unfold maxLen; omega)) (by decide)
  go_region
  all_goals (go_wp2; go_end0; exact ⟨rfl, hfin⟩)

set_option maxHeartbeats 2000000 in
set_option maxRecDepth 1000000 in
theorem sb_Grow_fresh (B b n : Nat) (w : World) (hB : B ≤ b) (hbk : w.heap[b]? = some (.cells #[.pointer none, .slice none 0 0] 177 (0, 0))) (hBw : B ≤ w.heap.size) (hn : n ≤ 281474976710656) :
    Calls Tryz.prog 173 #[.pointer (some ⟨b, 0, none⟩), .int .i64 n] w fun e w' => e = .returned (.tuple #[]) ∧ (Lib.BuilderAt 177 5 B b (.pointer (some ⟨b, 0, none⟩)) [] w' ∧ Below B w w') := by
  have hbk1 : (w.setCell ⟨b, 0, none⟩ (.pointer (some ⟨b, 0, none⟩))).heap[b]? = some (.cells #[.pointer (some ⟨b, 0, none⟩), .slice none 0 0] 177 (0, 0)) := by
    simp [World.setCell, Array.getElem?_modify, hbk]
  have c1 : (w.setCell ⟨b, 0, none⟩ (.pointer (some ⟨b, 0, none⟩))).cell? ⟨b, 1, none⟩ = some (.slice none 0 0) := by rw [Lib.cell_of_heap hbk1]; rfl
  have hb1 : Below B w (w.setCell ⟨b, 0, none⟩ (.pointer (some ⟨b, 0, none⟩))) := (Below.refl B w).setCell (p := ⟨b, 0, none⟩) hB _
  go_enter Tryz.func173, Tryz.ntmps173
  have hU : Lib.BuilderAt 177 5 B b (.pointer (some ⟨b, 0, none⟩)) [] (w.setCell ⟨b, 0, none⟩ (.pointer (some ⟨b, 0, none⟩))) := ⟨hB, .slice none 0 0, hbk1, World.ownsRow_nil _ _ _ _, by simp [Value.ownBlock]⟩
  have c1' : (w.setCell ⟨b, 0, none⟩ (.pointer (some ⟨b, 0, none⟩))).drew.cell? ⟨b, 1, none⟩ = some (.slice none 0 0) := c1
  go_wp2_with (go_at_call 210; refine (sb_copyCheck_fresh b w (by rw [Lib.cell_of_heap hbk]; rfl) (by simp [World.shape?, hbk]) (Lib.frozen_of_heap hbk 0)).mono ?_; rintro e w' ⟨rfl, rfl⟩)
  go_region
  all_goals go_wp2_with (go_at_call 211; refine (sb_grow_fresh B b n (w.setCell ⟨b, 0, none⟩ (.pointer (some ⟨b, 0, none⟩))).drew hB hbk1 (by simpa [World.setCell, World.drew, -World.drew_eq] using hBw) hn).mono ?_; rintro e w' ⟨rfl, h1, h2⟩)
  all_goals first
    | (go_end0; exact ⟨rfl, h1, hb1.drew.trans h2⟩)
    | (go_end0; exact ⟨rfl, hU.drew, hb1.drew⟩)

def joinB (xs : List ByteArray) (sep : ByteArray) : ByteArray := ⟨(Lib.join (xs.map bl) (bl sep)).toArray⟩
set_option maxRecDepth 100000 in
set_option maxHeartbeats 1000000 in
theorem str_Join_none (a : Option Addr) (c : Nat) (sep : ByteArray) (w : World) :
    Calls Tryz.prog 122 #[.slice a 0 c, .string sep] w fun e w' => e = .returned (.string ⟨#[]⟩) ∧ w' = w := by
  go_enter Tryz.func122, Tryz.ntmps122
  go_wp2
  go_ret
  exact ⟨rfl, rfl⟩
set_option maxRecDepth 100000 in
set_option maxHeartbeats 1000000 in
theorem str_Join_one (bk o c : Nat) (x sep : ByteArray) (w : World) (hc : w.cell? ⟨bk, o, none⟩ = some (.string x)) :
    Calls Tryz.prog 122 #[.slice (some ⟨bk, o, none⟩) 1 c, .string sep] w fun e w' => e = .returned (.string x) ∧ w' = w := by
  go_enter Tryz.func122, Tryz.ntmps122
  go_wp2
  go_ret
  exact ⟨rfl, rfl⟩
set_option maxHeartbeats 8000000 in
set_option maxRecDepth 100000 in
theorem str_Join_many (bk o c : Nat) (xs : List ByteArray) (sep : ByteArray) (w : World)
    (hcells : ∀ (j : Nat) x, xs[j]? = some x → w.cell? ⟨bk, o + j, none⟩ = some (.string x))
    (hbk : bk < w.heap.size) (h2 : 2 ≤ xs.length) (hN : xs.length ≤ 140737488355328) (hcap : xs.length ≤ c)
    (hlen : (Lib.join (xs.map (·.data.toList)) sep.data.toList).length ≤ 140737488355328) :
    Calls Tryz.prog 122 #[.slice (some ⟨bk, o, none⟩) xs.length c, .string sep] w fun e w' => e = .returned (.string ⟨(Lib.join (xs.map (·.data.toList)) sep.data.toList).toArray⟩) ∧ Below w.heap.size w w' := by
  have HC := Any.hidJ hcells
  clear hcells
  obtain ⟨x0, r, hxs⟩ : ∃ x0 r, xs = x0 :: r := by
    cases xs with
    | nil => simp at h2
    | cons a t => exact ⟨a, t, rfl⟩
  have hjl : sep.size * (xs.length - 1) + Lib.lens (xs.map (·.data.toList)) ≤ 140737488355328 := by
    have := Lib.join_length x0.data.toList (r.map (·.data.toList)) sep.data.toList
    rw [hxs] at hlen ⊢
    simp only [List.map_cons] at hlen ⊢
    rw [this, List.length_map] at hlen
    rw [Lib.size_eq, List.length_cons, Nat.add_sub_cancel]
    exact hlen
  have hmul : sep.size * (xs.length - 1) ≤ 140737488355328 := by omega
  generalize hM : sep.size * (xs.length - 1) = M at hjl hmul
  have hcast : ((xs.length : Int) - 1) = ((xs.length - 1 : Nat) : Int) := by omega
  have hlt : sep.size < 9223372036854775807 / (xs.length - 1) := by
    have : sep.size + 1 ≤ 9223372036854775807 / (xs.length - 1) := by
      rw [Nat.le_div_iff_mul_le (by omega), Nat.add_mul, hM]
      omega
    omega
  have hdv : ¬ (9223372036854775807 / ((xs.length : Int) - 1) ≤ (sep.size : Int)) := by
    have e : (9223372036854775807 : Int) / ((xs.length - 1 : Nat) : Int) = ((9223372036854775807 / (xs.length - 1) : Nat) : Int) := IntWalk.up_div (x := 9223372036854775807) rfl rfl
    rw [hcast, e]
    generalize 9223372036854775807 / (xs.length - 1) = q at hlt
    omega
  have hprod : wrap64 ((sep.size : Int) * ((xs.length : Int) - 1)) = (M : Int) := by
    have e : (sep.size : Int) * ((xs.length - 1 : Nat) : Int) = ((sep.size * (xs.length - 1) : Nat) : Int) := IntWalk.up_mul rfl rfl
    rw [hcast, e, hM]
    exact IntWalk.wrap64_in _ ⟨by omega, by omega⟩
  have hM0 : sep.size = 0 → M = 0 := fun h => by rw [← hM, h, Nat.zero_mul]
  clear hlt hcast
  have hne0 : ((xs.length : Int) == 0) = false := beq_eq_false_iff_ne.2 (by omega)
  have hne1 : ((xs.length : Int) == 1) = false := beq_eq_false_iff_ne.2 (by omega)
  have Hxs := Any.hidJ hxs
  have Hlen := Any.hidJ hlen
  clear hxs hlen
  go_enter Tryz.func122, Tryz.ntmps122
  go_wp2_with fail
  all_goals (
    go_loop [5, 41] (fun n i => ∃ k : Nat, k ≤ xs.length ∧ i = .int .i64 k ∧ n = .int .i64 ((M + Lib.lens ((xs.map (·.data.toList)).take k) : Nat) : Int)) (fun _ i => xs.length - (intOf i).toNat)
    case atStart => exact ⟨0, Nat.zero_le _, rfl, by first | (simp [Lib.lens]; done) | (have := hM0 (by omega); simp [Lib.lens, this])⟩
    case round =>
      obtain ⟨k, hk, rfl, rfl⟩ := hrel
      by_cases hkn : k < xs.length
      · obtain ⟨x, hx⟩ : ∃ x, xs[k]? = some x := ⟨xs[k], List.getElem?_eq_getElem hkn⟩
        have hc := HC.out k x hx
        have hstep := Lib.lens_take_succ (xs.map (·.data.toList)) k x.data.toList (by simp [hx])
        have hbound : Lib.lens ((xs.map (·.data.toList)).take (k + 1)) ≤ Lib.lens (xs.map (·.data.toList)) := Lib.lens_take_le _ _
        rw [← Lib.size_eq] at hstep
        generalize hA1 : Lib.lens ((xs.map (·.data.toList)).take (k + 1)) = A1 at hstep hbound
        generalize Lib.lens ((xs.map (·.data.toList)).take k) = A0 at hstep
        have HA1 := Any.hidJ hA1
        clear hA1
        go_wp2
        exact ⟨⟨k + 1, by omega, by go_num, by rw [HA1.out]; refine congrArg _ ?_; omega⟩, by simp [intOf]; omega⟩
      · have hke : k = xs.length := by omega
        subst hke
        have hall : (xs.map (·.data.toList)).take xs.length = xs.map (·.data.toList) := List.take_of_length_le (by simp)
        rw [hall]
        generalize hT : Lib.lens (xs.map (·.data.toList)) = T at hjl
        have HT := Any.hidJ hT
        clear hT hall
        go_wp2_with fail
        have hMT : ((M : Int) + (T : Int)) = ((M + T : Nat) : Int) := by omega
        rw [hMT]
        refine (sb_Grow_fresh w.heap.size w.heap.size (M + T) _ (Nat.le_refl _) (heap_alloc_new w _) (by simp) (by omega)).mono ?_
        rintro e w1 ⟨rfl, h1, hb1⟩
        have hb1' : Below w.heap.size w w1 := ((Below.refl w.heap.size w).alloc (Nat.le_refl _) _).trans hb1
        have hx0 : xs[0]? = some x0 := by rw [Hxs.out]; rfl
        have hc0 : w1.cell? ⟨bk, o, none⟩ = some (.string x0) := by
          rw [hb1'.cell (p := ⟨bk, o, none⟩) hbk]
          exact HC.out 0 x0 hx0
        have H1 := Any.hidJ (Or.inr (Lib.BuilderAtF.of h1) : SbAt w.heap.size w.heap.size [] w1)
        have Hb1 := Any.hidJ hb1'
        have hBw1 : w.heap.size ≤ w1.heap.size := hb1'.size
        clear h1 hb1 hb1' hMT
        have hwhole : Lib.join (xs.map (·.data.toList)) sep.data.toList = x0.data.toList ++ Lib.joinTail sep.data.toList (r.map (·.data.toList)) := by
          rw [Hxs.out, List.map_cons, Lib.join_cons]
        have hCle : ∀ k, (x0.data.toList ++ Lib.joinTail sep.data.toList ((r.map (·.data.toList)).take k)).length ≤ 140737488355328 := fun k => by
          have h1 := Hlen.out
          rw [hwhole, List.length_append] at h1
          have h2 := Lib.joinTail_take_le sep.data.toList (r.map (·.data.toList)) k
          rw [List.length_append]
          omega
        have HCle := Any.hidJ hCle
        have Hwhole := Any.hidJ hwhole
        clear hCle hwhole
        go_wp2_with fail
        refine (sb_WriteString w.heap.size w.heap.size [] x0 w1 H1.out (by have := HCle.out 0; simp [Lib.joinTail] at this ⊢; omega) hBw1).mono ?_
        rintro e w2 ⟨rfl, h2', hb2, _⟩
        have hstart : ([] : List UInt8) ++ bl x0 = x0.data.toList ++ Lib.joinTail sep.data.toList ((r.map (·.data.toList)).take 0) := by
          simp [Lib.joinTail, bl]
        rw [hstart] at h2'
        have H2 := Any.hidJ h2'
        have Hb2 := Any.hidJ (Hb1.out.trans hb2)
        clear h2' hb2 hstart
        have hrl : r.length = xs.length - 1 := by rw [Hxs.out]; simp
        go_wp2_with fail
        go_loopw [65] (fun i wr => ∃ k : Nat, k ≤ r.length ∧ i = .int .i64 k ∧ Hid (SbAt w.heap.size w.heap.size (x0.data.toList ++ Lib.joinTail sep.data.toList ((r.map (·.data.toList)).take k)) wr) ∧ Hid (Below w.heap.size w wr)) (fun i _ => r.length - (intOf i).toNat)
        case atStart => exact ⟨0, Nat.zero_le _, rfl, H2, Hb2⟩
        case round =>
          obtain ⟨k, hk', rfl, HB, HW⟩ := hrel
          by_cases hkr : k < r.length
          · obtain ⟨y, hy⟩ : ∃ y, r[k]? = some y := ⟨r[k], List.getElem?_eq_getElem hkr⟩
            have hxy : xs[k + 1]? = some y := by rw [Hxs.out]; simpa using hy
            have hcy : wr.cell? ⟨bk, o + 1 + k, none⟩ = some (.string y) := by
              rw [HW.out.cell (p := ⟨bk, o + 1 + k, none⟩) hbk, show o + 1 + k = o + (k + 1) by omega]
              exact HC.out (k + 1) y hxy
            have hBw : w.heap.size ≤ wr.heap.size := HW.out.size
            have hnext : x0.data.toList ++ Lib.joinTail sep.data.toList ((r.map (·.data.toList)).take k) ++ bl sep ++ bl y = x0.data.toList ++ Lib.joinTail sep.data.toList ((r.map (·.data.toList)).take (k + 1)) := by
              rw [Lib.joinTail_take_succ sep.data.toList (r.map (·.data.toList)) k y.data.toList (by simp [hy])]
              simp only [bl, List.append_assoc]
            have hl1 := HCle.out (k + 1)
            rw [Lib.joinTail_take_succ sep.data.toList (r.map (·.data.toList)) k y.data.toList (by simp [hy])] at hl1
            simp only [List.length_append, ← Lib.size_eq] at hl1
            have hl0 : (x0.data.toList ++ Lib.joinTail sep.data.toList ((r.map (·.data.toList)).take k)).length = x0.size + (Lib.joinTail sep.data.toList ((r.map (·.data.toList)).take k)).length := by
              rw [List.length_append, ← Lib.size_eq]
            have hl2 : (x0.data.toList ++ Lib.joinTail sep.data.toList ((r.map (·.data.toList)).take k) ++ bl sep).length = x0.size + (Lib.joinTail sep.data.toList ((r.map (·.data.toList)).take k)).length + sep.size := by
              rw [List.length_append, hl0, Lib.size_eq sep]
            generalize (Lib.joinTail sep.data.toList ((r.map (·.data.toList)).take k)).length = J at hl0 hl1 hl2
            have Hn := Any.hidJ hnext
            have HL0 := Any.hidJ hl0
            have HL2 := Any.hidJ hl2
            clear hnext hy hxy hl0 hl2
            go_wp2_with fail
            refine (sb_WriteString w.heap.size w.heap.size _ sep wr HB.out (by rw [HL0.out]; omega) hBw).mono ?_
            rintro e w3 ⟨rfl, h3, hb3, _⟩
            have hBw3 : w.heap.size ≤ w3.heap.size := Nat.le_trans hBw hb3.size
            have H3 := Any.hidJ h3
            have Hb3 := Any.hidJ hb3
            clear h3 hb3
            go_wp2_with fail
            refine (sb_WriteString w.heap.size w.heap.size _ y w3 H3.out (by rw [HL2.out]; omega) hBw3).mono ?_
            rintro e w4 ⟨rfl, h4, hb4, _⟩
            rw [Hn.out] at h4
            have H4 := Any.hidJ h4
            have Hb4 := Any.hidJ ((HW.out.trans Hb3.out).trans hb4)
            clear h4 hb4
            go_wp2
            exact ⟨⟨k + 1, by omega, by go_num, H4, Hb4⟩, by simp [intOf]; omega⟩
          · have hke : k = r.length := by omega
            subst hke
            have hfull : (r.map (·.data.toList)).take r.length = r.map (·.data.toList) := List.take_of_length_le (by simp)
            have hB' := HB.out
            rw [hfull, ← Hwhole.out] at hB'
            have hBw : w.heap.size ≤ wr.heap.size := HW.out.size
            go_wp2_with fail
            refine (Tryz.Builder_String_any_f w.heap.size w.heap.size _ wr hB' hBw).mono ?_
            rintro e w5 ⟨rfl, _, hb5⟩
            have Hb5 := Any.hidJ (HW.out.trans hb5)
            clear hb5 hB'
            go_wp2
            go_ret
            exact ⟨rfl, Hb5.out⟩)
theorem joinB_one (x sep : ByteArray) : joinB [x] sep = x := by unfold joinB; rw [List.map_cons, List.map_nil, Lib.join_one]
end Go.Proofs.YtcmdhfccdkjenaaGreatDoor
namespace Go.Proofs.YtcmdhfccdkjenaaGreatDoor
open Go.RowKit Go.Shelf

theorem str_Join (v : Value) (xs : List ByteArray) (sep : ByteArray) (w : World) (h : SlA w 1 v xs.length (strs xs)) (hN : xs.length ≤ 1000000) (hlen : (joinB xs sep).size ≤ 140737488355328) :
    Calls Tryz.prog 122 #[v, .string sep] w fun e w' => e = .returned (.string (joinB xs sep)) ∧ Below w.heap.size w w' := by
  obtain ⟨ao, c, rfl⟩ := h.form
  by_cases h0 : xs.length = 0
  · have hx : xs = [] := List.eq_nil_of_length_eq_zero h0
    subst hx
    refine (str_Join_none ao c sep w).mono ?_
    rintro e w' ⟨rfl, rfl⟩
    exact ⟨rfl, Below.refl _ _⟩
  · obtain ⟨b1, o1, c1, he1, hc1, hm1, hb1, hx1⟩ := h.pos (by omega)
    simp only [Value.slice.injEq, true_and] at he1
    obtain ⟨rfl, rfl⟩ := he1
    have hcl : ∀ (j : Nat) x, xs[j]? = some x → w.cell? ⟨b1, o1 + j, none⟩ = some (.string x) := fun j x hj => hx1 j _ (by unfold strs; rw [List.getElem?_map, hj]; rfl)
    by_cases h1 : xs.length = 1
    · obtain ⟨x, hx⟩ := List.length_eq_one_iff.1 h1
      subst hx
      refine (str_Join_one b1 o1 c x sep w (by have := hcl 0 x rfl; simpa using this)).mono ?_
      rintro e w' ⟨rfl, rfl⟩
      exact ⟨by rw [joinB_one], Below.refl _ _⟩
    · refine (str_Join_many b1 o1 c xs sep w hcl hb1 (by omega) (by omega) hc1 ?_).mono ?_
      · have : (joinB xs sep).size = (Lib.join (xs.map (·.data.toList)) sep.data.toList).length := by unfold joinB; simp [ByteArray.size, bl]
        omega
      · rintro e w' ⟨rfl, hb⟩
        exact ⟨rfl, hb⟩
end Go.Proofs.YtcmdhfccdkjenaaGreatDoor
namespace Go.Proofs.YtcmdhfccdkjenaaGreatDoor
open Go.RowKit Go.Shelf

def capV : Value → Nat
  | .slice _ _ c => c
  | _ => 0
section
variable {P : Program} (w : World)
theorem run_append_in (base : Nat) (t u ty e : TypeId) (i : TypeInfo) (ht : P.underlying t = some (.slice e)) (hu : P.underlying u = some .string) (hi : P.info? e = some i) (hz : i.zero = some (.int .u8 0))
    (hsize : i.size = 1) (hby : i.bytes = 1) (v : Value) (n : Nat) (xs : List Value) (hown : w.ownsRowF base e 1 v n xs) (s : ByteArray)
    (h63 : n + s.size ≤ maxLen) (hcap : n + s.size ≤ capV v) (hbase : base ≤ w.heap.size) :
    ∃ v' w', (Builtin.append_ #[t, u] ty #[v, .string s]).run P w = .ok v' w' ∧ w'.ownsRowF base e 1 v' (n + s.size) (xs ++ Lib.strCells s) ∧ w.grownBy w' v.ownBlock ∧ capV v' = capV v := by
  rcases hown.2 with ⟨rfl, rfl⟩ | ⟨g, cap, cur, fz, rfl, hbg, hg, hfz, hnc, hcm, hcs, htake⟩
  · have hs : s.size = 0 := by simp only [capV] at hcap; omega
    obtain ⟨v', w', h1, h2, h3, h4⟩ := Lib.run_append_own_string (P := P) w base t u ty e i ht hu hi hz hsize hby (.slice none 0 0) 0 xs ⟨hown.1, .inl ⟨rfl, rfl⟩⟩ s h63 (by omega) hbase
    obtain rfl := h4.2 ⟨rfl, hs⟩
    exact ⟨_, w', h1, World.ownsRowF_of h2, h3, rfl⟩
  · have hxl : xs.length = n := by simpa using hown.1
    have hlen : (xs ++ Lib.strCells s).length = (n + s.size) * 1 := by rw [List.length_append, hxl, Lib.strCells_length, Nat.mul_one]
    have hroom : n + s.size ≤ cap := hcap
    have hcs' : cur.size = cap := by simpa using hcs
    have hr := Lib.run_append_room_stringF (P := P) w t u ty e i ht hu hi hsize g n cap cur fz hg (by simpa using hfz) s hroom (by omega)
    refine ⟨_, _, hr, ⟨hlen, .inr ⟨g, cap, _, fz, rfl, hbg, setRow_heap w g cur _ e _ hg, by omega, hroom, hcm, ?_, ?_⟩⟩, ⟨rfl, rfl, rfl, by simp, fun k _ hk => setRow_other w g k _ (fun e => hk (by simp [Value.ownBlock, e]))⟩, rfl⟩
    · simp only [List.size_toArray, List.length_append, List.length_take, List.length_drop, Array.length_toList, Lib.strCells_length]
      omega
    · have ht' : cur.toList.take n = xs := by simpa using htake
      rw [ht', ← hlen]
      exact List.take_left
theorem wpList_append_in {ops : Array Oper} {rest : List Oper} {o : Oper} {a : Act} {Q : Exit → Act → World → Prop} (hgd : o.guard = none) (sl x : Operand) (t u : TypeId)
    (ho : o.op = .call { callee := .builtin .append, args := #[sl, x], argTypes := #[t, u] })
    (base : Nat) (e : TypeId) (i : TypeInfo) (ht : P.underlying t = some (.slice e)) (hu : P.underlying u = some .string) (hi : P.info? e = some i) (hz : i.zero = some (.int .u8 0))
    (hsize : i.size = 1) (hby : i.bytes = 1)
    (v : Value) (n : Nat) (xs : List Value) (hs : a.eval sl = v) (hown : w.ownsRowF base e 1 v n xs) (s : ByteArray) (hx : a.eval x = .string s)
    (h63 : n + s.size ≤ maxLen) (hcap : n + s.size ≤ capV v) (hbase : base ≤ w.heap.size)
    (h : ∀ v' w', w'.ownsRowF base e 1 v' (n + s.size) (xs ++ Lib.strCells s) → w.grownBy w' v.ownBlock → capV v' = capV v → wpList P ops Q rest (a.put o.dst v') w') : wpList P ops Q (o :: rest) a w := by
  refine wpList_plain hgd fun K hK => ?_
  obtain ⟨v', w', hr, h2, h3, h4⟩ := run_append_in (P := P) w base t u o.type e i ht hu hi hz hsize hby v n xs hown s h63 hcap hbase
  unfold Oper.wp execOp
  simp only [ho, resolve, invoke, builtin, Sem.run_bind, Sem.run_pure, Result.andThen_ok, List.map_toArray, List.map_cons, List.map_nil, hs, hx, hr]
  exact hK _ _ (h v' w' h2 h3 h4)
end
def SbU (B b : Nat) (l : List UInt8) (C : Nat) (w : World) : Prop := Lib.BuilderAtF 177 5 B b (.pointer (some ⟨b, 0, none⟩)) (Lib.byteCells l) w ∧ ∃ v, w.cell? ⟨b, 1, none⟩ = some v ∧ C ≤ capV v
set_option maxHeartbeats 2000000 in
set_option maxRecDepth 1000000 in
theorem sb_grow_in (B b n : Nat) (w : World) (hB : B ≤ b) (hbk : w.heap[b]? = some (.cells #[.pointer (some ⟨b, 0, none⟩), .slice none 0 0] 177 (0, 0))) (hBw : B ≤ w.heap.size) (hn : n ≤ 281474976710656) :
    Calls Tryz.prog 211 #[.pointer (some ⟨b, 0, none⟩), .int .i64 n] w fun e w' => e = .returned (.tuple #[]) ∧ (Lib.BuilderAt 177 5 B b (.pointer (some ⟨b, 0, none⟩)) [] w' ∧ Below B w w' ∧ ∃ v, w'.cell? ⟨b, 1, none⟩ = some v ∧ n ≤ capV v) := by
  obtain ⟨i0, hi, hz0, hz1, hz2⟩ := info_parts sb_byte
  obtain ⟨cs, hrun, hle, hmax⟩ := Lib.run_makeNoZero (P := Tryz.prog) w.drew #[3] 175 5 Tryz.underlying175 n hn
  have hw : IntKind.i64.wrap (IntKind.i64.wrap 0 + (n : Int)) = n := by
    rw [IntKind.wrap_i64, IntKind.wrap_i64]
    omega
  have hcall : (callFunc 237 #[.int .i64 (IntKind.i64.wrap (IntKind.i64.wrap 0 + (n : Int)))]).run Tryz.prog w.drew = .ok (.value (.slice (some ⟨w.drew.heap.size, 0, none⟩) n cs.size)) (w.drew.drew.drew.alloc (.cells cs 5)) := by
    rw [hw, run_callFunc_extern Tryz.func237 (by kernel_rfl) (by kernel_rfl) (by kernel_rfl) (e := Extern.BytealgMakeNoZero.makeNoZero #[3] #[175]) (by kernel_rfl), hrun]
    rfl
  have c1 : w.drew.cell? ⟨b, 1, none⟩ = some (.slice none 0 0) := by
    have : w.drew.heap[b]? = _ := hbk
    rw [Lib.cell_of_heap this]; rfl
  have c2 : (w.alloc (.cells cs 5)).cell? ⟨b, 1, none⟩ = some (.slice none 0 0) := by
    have hlt : b < w.heap.size := by
      rcases Nat.lt_or_ge b w.heap.size with h' | h'
      · exact h'
      · simp [Array.getElem?_eq_none h'] at hbk
    have : (w.alloc (.cells cs 5)).heap[b]? = _ := (Lib.alloc_old w _ b hlt).trans hbk
    rw [Lib.cell_of_heap this]; rfl
  have f2 : (w.alloc (.cells cs 5)).frozen? ⟨b, 1, none⟩ = false := by
    have hlt : b < w.heap.size := by
      rcases Nat.lt_or_ge b w.heap.size with h' | h'
      · exact h'
      · simp [Array.getElem?_eq_none h'] at hbk
    exact Lib.frozen_of_heap ((Lib.alloc_old w _ b hlt).trans hbk) 1
  have hcopy : ∀ W : World, (Builtin.copy_ #[175, 175] 3 #[.slice (some ⟨w.heap.size, 0, none⟩) 0 cs.size, .slice none 0 0]).run Tryz.prog W = .ok (goInt 0) W :=
    fun W => run_copy_none W 175 175 3 5 _ _ 0 cs.size 0 0 Tryz.underlying175 (by rw [hi]; exact congrArg some hz1) rfl
  clear hw
  go_enter Tryz.func211, Tryz.ntmps211
  go_wp2
  have hfin := Lib.grown_fresh (T := 177) (e := 5) (cs := cs) hB hbk hBw (hmax (by unfold maxLen; omega)) (by decide)
  go_region
  all_goals (go_wp2; go_end0; exact ⟨rfl, hfin.1, hfin.2, _, World.cell?_setCell_same _ _ _ c2, hle⟩)

set_option maxHeartbeats 2000000 in
set_option maxRecDepth 1000000 in
theorem sb_Grow_in (B b n : Nat) (w : World) (hB : B ≤ b) (hbk : w.heap[b]? = some (.cells #[.pointer none, .slice none 0 0] 177 (0, 0))) (hBw : B ≤ w.heap.size) (hn : n ≤ 281474976710656) (hn0 : 0 < n) :
    Calls Tryz.prog 173 #[.pointer (some ⟨b, 0, none⟩), .int .i64 n] w fun e w' => e = .returned (.tuple #[]) ∧ (Lib.BuilderAt 177 5 B b (.pointer (some ⟨b, 0, none⟩)) [] w' ∧ Below B w w' ∧ ∃ v, w'.cell? ⟨b, 1, none⟩ = some v ∧ n ≤ capV v) := by
  have hbk1 : (w.setCell ⟨b, 0, none⟩ (.pointer (some ⟨b, 0, none⟩))).heap[b]? = some (.cells #[.pointer (some ⟨b, 0, none⟩), .slice none 0 0] 177 (0, 0)) := by
    simp [World.setCell, Array.getElem?_modify, hbk]
  have c1 : (w.setCell ⟨b, 0, none⟩ (.pointer (some ⟨b, 0, none⟩))).cell? ⟨b, 1, none⟩ = some (.slice none 0 0) := by rw [Lib.cell_of_heap hbk1]; rfl
  have hb1 : Below B w (w.setCell ⟨b, 0, none⟩ (.pointer (some ⟨b, 0, none⟩))) := (Below.refl B w).setCell (p := ⟨b, 0, none⟩) hB _
  go_enter Tryz.func173, Tryz.ntmps173
  have hU : Lib.BuilderAt 177 5 B b (.pointer (some ⟨b, 0, none⟩)) [] (w.setCell ⟨b, 0, none⟩ (.pointer (some ⟨b, 0, none⟩))) := ⟨hB, .slice none 0 0, hbk1, World.ownsRow_nil _ _ _ _, by simp [Value.ownBlock]⟩
  have c1' : (w.setCell ⟨b, 0, none⟩ (.pointer (some ⟨b, 0, none⟩))).drew.cell? ⟨b, 1, none⟩ = some (.slice none 0 0) := c1
  go_wp2_with (go_at_call 210; refine (sb_copyCheck_fresh b w (by rw [Lib.cell_of_heap hbk]; rfl) (by simp [World.shape?, hbk]) (Lib.frozen_of_heap hbk 0)).mono ?_; rintro e w' ⟨rfl, rfl⟩)
  go_region
  all_goals go_wp2_with (go_at_call 211; refine (sb_grow_in B b n (w.setCell ⟨b, 0, none⟩ (.pointer (some ⟨b, 0, none⟩))).drew hB hbk1 (by simpa [World.setCell, World.drew, -World.drew_eq] using hBw) hn).mono ?_; rintro e w' ⟨rfl, h1, h2, h3⟩)
  all_goals (go_end0; exact ⟨rfl, h1, hb1.drew.trans h2, h3⟩)

set_option maxHeartbeats 2000000 in
set_option maxRecDepth 100000 in
theorem sb_Write_in (B b C : Nat) (l : List UInt8) (s : ByteArray) (w : World) (h : SbU B b l C w) (hlen : l.length + s.size ≤ C) (hC : C ≤ 281474976710656) (hBw : B ≤ w.heap.size) :
    Calls Tryz.prog 174 #[.pointer (some ⟨b, 0, none⟩), .string s] w fun e w' => e = .returned (.tuple #[.int .i64 s.size, .nilIface]) ∧ (SbU B b (l ++ bl s) C w' ∧ Below B w w') := by
  obtain ⟨i0, hi, hz0, hz1, hz2⟩ := info_parts sb_byte
  obtain ⟨hu, v, hv, hcv⟩ := h
  have hbl : (Lib.byteCells l).length = l.length := by simp [Lib.byteCells]
  have H0 := hu.cell0
  obtain ⟨hB, v1, hbk, hown, hne⟩ := hu
  have c1 : w.cell? ⟨b, 1, none⟩ = some v1 := by rw [Lib.cell_of_heap hbk]; rfl
  obtain rfl : v1 = v := Option.some.inj (c1.symm.trans hv)
  have HL := Lib.hid (show (Lib.byteCells l).length + s.size ≤ C by omega)
  have HC := Lib.hid hC
  have HV := Lib.hid hcv
  clear hlen hbl hC hcv hv
  go_enter Tryz.func174, Tryz.ntmps174
  go_wp2_with (go_at_call 210; refine (sb_copyCheck_used b _ H0).mono ?_)
  rintro e w' ⟨rfl, rfl⟩
  go_wp2_with (at_builtin; refine wpList_append_in _ rfl _ _ 175 9 rfl B 5 i0 Tryz.underlying175 Tryz.underlying9 hi hz0 hz1 hz2 _ _ _ rfl hown s rfl ?c3 ?c4 ?c5 ?_)
  case c3 => have := HL.out; have := HC.out; unfold maxLen; omega
  case c4 => exact Nat.le_trans HL.out HV.out
  case c5 => omega
  intro v' w2 hown' hgrow hcap
  have hlt : b < w'.heap.size := by
    rcases Nat.lt_or_ge b w'.heap.size with h' | h'
    · exact h'
    · simp [Array.getElem?_eq_none h'] at hbk
  have hb2 : w2.heap[b]? = some (.cells #[.pointer (some ⟨b, 0, none⟩), v1] 177 (0, 0)) := by
    rw [hgrow.block b hlt (fun e => hne e.symm)]
    exact hbk
  have d0 : w2.cell? ⟨b, 0, none⟩ = some (.pointer (some ⟨b, 0, none⟩)) := by rw [Lib.cell_of_heap hb2]; rfl
  have d1 : w2.cell? ⟨b, 1, none⟩ = some v1 := by rw [Lib.cell_of_heap hb2]; rfl
  have f1 : w2.frozen? ⟨b, 1, none⟩ = false := Lib.frozen_of_heap hb2 1
  have HCP := Lib.hid (show C ≤ capV v' by rw [hcap]; exact HV.out)
  obtain ⟨ao, n', cap, rfl⟩ : ∃ ao n' cap, v' = .slice ao n' cap := by
    rcases hown'.2 with ⟨hv, _⟩ | ⟨g, cap, cur, fz, hv, _⟩
    · exact ⟨_, _, _, hv⟩
    · exact ⟨_, _, _, hv⟩
  go_wp2
  go_ret2
  refine ⟨rfl, ⟨?_, _, World.cell?_setCell_same _ _ _ d1, HCP.out⟩, ?_⟩
  · have e1 : Lib.byteCells (l ++ bl s) = Lib.byteCells l ++ Lib.strCells s := by rw [strCells_eq]; simp [Lib.byteCells]
    rw [e1]
    exact Lib.BuilderAtF.put (T := 177) (e := 5) hB hb2 (bs' := Lib.byteCells l ++ Lib.strCells s) (by simpa [Lib.strCells_length] using hown') (by decide)
  · exact (((Below.refl B _).grown hgrow hBw (fun k hk => (hown.lt k hk).1))).setCell (p := ⟨b, 1, none⟩) hB _
end Go.Proofs.YtcmdhfccdkjenaaGreatDoor
namespace Go.Proofs.YtcmdhfccdkjenaaGreatDoor
open Go.RowKit Go.Shelf

set_option maxHeartbeats 8000000 in
set_option maxRecDepth 100000 in
theorem str_Join_big (bk o c : Nat) (xs : List ByteArray) (sep : ByteArray) (w : World)
    (hcells : ∀ (j : Nat) x, xs[j]? = some x → w.cell? ⟨bk, o + j, none⟩ = some (.string x))
    (hbk : bk < w.heap.size) (h2 : 2 ≤ xs.length) (hN : xs.length ≤ 1000000) (hcap : xs.length ≤ c)
    (hlen : (Lib.join (xs.map (·.data.toList)) sep.data.toList).length ≤ 281474976710656)
    (hpos : 0 < (Lib.join (xs.map (·.data.toList)) sep.data.toList).length) :
    Calls Tryz.prog 122 #[.slice (some ⟨bk, o, none⟩) xs.length c, .string sep] w fun e w' => e = .returned (.string ⟨(Lib.join (xs.map (·.data.toList)) sep.data.toList).toArray⟩) ∧ Below w.heap.size w w' := by
  have HC := Any.hidJ hcells
  clear hcells
  obtain ⟨x0, r, hxs⟩ : ∃ x0 r, xs = x0 :: r := by
    cases xs with
    | nil => simp at h2
    | cons a t => exact ⟨a, t, rfl⟩
  have hjl : sep.size * (xs.length - 1) + Lib.lens (xs.map (·.data.toList)) ≤ 281474976710656 ∧ 0 < sep.size * (xs.length - 1) + Lib.lens (xs.map (·.data.toList)) := by
    have := Lib.join_length x0.data.toList (r.map (·.data.toList)) sep.data.toList
    rw [hxs] at hlen hpos ⊢
    simp only [List.map_cons] at hlen hpos ⊢
    rw [this, List.length_map] at hlen hpos
    rw [Lib.size_eq, List.length_cons, Nat.add_sub_cancel]
    exact ⟨hlen, hpos⟩
  have hmul : sep.size * (xs.length - 1) ≤ 281474976710656 := by omega
  generalize hM : sep.size * (xs.length - 1) = M at hjl hmul
  have hcast : ((xs.length : Int) - 1) = ((xs.length - 1 : Nat) : Int) := by omega
  have hlt : sep.size < 9223372036854775807 / (xs.length - 1) := by
    have : sep.size + 1 ≤ 9223372036854775807 / (xs.length - 1) := by
      rw [Nat.le_div_iff_mul_le (by omega), Nat.add_mul, hM]
      omega
    omega
  have hdv : ¬ (9223372036854775807 / ((xs.length : Int) - 1) ≤ (sep.size : Int)) := by
    have e : (9223372036854775807 : Int) / ((xs.length - 1 : Nat) : Int) = ((9223372036854775807 / (xs.length - 1) : Nat) : Int) := IntWalk.up_div (x := 9223372036854775807) rfl rfl
    rw [hcast, e]
    generalize 9223372036854775807 / (xs.length - 1) = q at hlt
    omega
  have hprod : wrap64 ((sep.size : Int) * ((xs.length : Int) - 1)) = (M : Int) := by
    have e : (sep.size : Int) * ((xs.length - 1 : Nat) : Int) = ((sep.size * (xs.length - 1) : Nat) : Int) := IntWalk.up_mul rfl rfl
    rw [hcast, e, hM]
    exact IntWalk.wrap64_in _ ⟨by omega, by omega⟩
  have hM0 : sep.size = 0 → M = 0 := fun h => by rw [← hM, h, Nat.zero_mul]
  clear hlt hcast
  have hne0 : ((xs.length : Int) == 0) = false := beq_eq_false_iff_ne.2 (by omega)
  have hne1 : ((xs.length : Int) == 1) = false := beq_eq_false_iff_ne.2 (by omega)
  have Hxs := Any.hidJ hxs
  have Hlen := Any.hidJ hlen
  clear hxs hlen hpos
  go_enter Tryz.func122, Tryz.ntmps122
  go_wp2_with fail
  all_goals (
    go_loop [5, 41] (fun n i => ∃ k : Nat, k ≤ xs.length ∧ i = .int .i64 k ∧ n = .int .i64 ((M + Lib.lens ((xs.map (·.data.toList)).take k) : Nat) : Int)) (fun _ i => xs.length - (intOf i).toNat)
    case atStart => exact ⟨0, Nat.zero_le _, rfl, by first | (simp [Lib.lens]; done) | (have := hM0 (by omega); simp [Lib.lens, this])⟩
    case round =>
      obtain ⟨k, hk, rfl, rfl⟩ := hrel
      by_cases hkn : k < xs.length
      · obtain ⟨x, hx⟩ : ∃ x, xs[k]? = some x := ⟨xs[k], List.getElem?_eq_getElem hkn⟩
        have hc := HC.out k x hx
        have hstep := Lib.lens_take_succ (xs.map (·.data.toList)) k x.data.toList (by simp [hx])
        have hbound : Lib.lens ((xs.map (·.data.toList)).take (k + 1)) ≤ Lib.lens (xs.map (·.data.toList)) := Lib.lens_take_le _ _
        rw [← Lib.size_eq] at hstep
        generalize hA1 : Lib.lens ((xs.map (·.data.toList)).take (k + 1)) = A1 at hstep hbound
        generalize Lib.lens ((xs.map (·.data.toList)).take k) = A0 at hstep
        have HA1 := Any.hidJ hA1
        clear hA1
        go_wp2
        exact ⟨⟨k + 1, by omega, by go_num, by rw [HA1.out]; refine congrArg _ ?_; omega⟩, by simp [intOf]; omega⟩
      · have hke : k = xs.length := by omega
        subst hke
        have HMT := Any.hidJ (show (Lib.join (xs.map (·.data.toList)) sep.data.toList).length = M + Lib.lens (xs.map (·.data.toList)) by have := Lib.join_length x0.data.toList (r.map (·.data.toList)) sep.data.toList; rw [Hxs.out] at hM ⊢; simp only [List.map_cons]; rw [this, List.length_map, ← hM, Lib.size_eq, List.length_cons, Nat.add_sub_cancel])
        have hall : (xs.map (·.data.toList)).take xs.length = xs.map (·.data.toList) := List.take_of_length_le (by simp)
        rw [hall]
        generalize hT : Lib.lens (xs.map (·.data.toList)) = T at hjl HMT
        have HT := Any.hidJ hT
        clear hT hall
        go_wp2_with fail
        have hMT : ((M : Int) + (T : Int)) = ((M + T : Nat) : Int) := by omega
        rw [hMT]
        refine (sb_Grow_in w.heap.size w.heap.size (M + T) _ (Nat.le_refl _) (heap_alloc_new w _) (by simp) (by omega) (by omega)).mono ?_
        rintro e w1 ⟨rfl, h1, hb1, hcapv⟩
        have hb1' : Below w.heap.size w w1 := ((Below.refl w.heap.size w).alloc (Nat.le_refl _) _).trans hb1
        have hx0 : xs[0]? = some x0 := by rw [Hxs.out]; rfl
        have hc0 : w1.cell? ⟨bk, o, none⟩ = some (.string x0) := by
          rw [hb1'.cell (p := ⟨bk, o, none⟩) hbk]
          exact HC.out 0 x0 hx0
        have H1 := Any.hidJ (⟨Lib.BuilderAtF.of h1, hcapv⟩ : SbU w.heap.size w.heap.size [] (M + T) w1)
        have Hb1 := Any.hidJ hb1'
        have hBw1 : w.heap.size ≤ w1.heap.size := hb1'.size
        clear h1 hb1 hb1' hMT hcapv
        have hwhole : Lib.join (xs.map (·.data.toList)) sep.data.toList = x0.data.toList ++ Lib.joinTail sep.data.toList (r.map (·.data.toList)) := by
          rw [Hxs.out, List.map_cons, Lib.join_cons]
        have hCle : ∀ k, (x0.data.toList ++ Lib.joinTail sep.data.toList ((r.map (·.data.toList)).take k)).length ≤ M + T := fun k => by
          have h1 := HMT.out
          rw [hwhole, List.length_append] at h1
          have h2 := Lib.joinTail_take_le sep.data.toList (r.map (·.data.toList)) k
          rw [List.length_append]
          omega
        have HCle := Any.hidJ hCle
        have Hwhole := Any.hidJ hwhole
        clear hCle hwhole
        go_wp2_with fail
        refine (sb_Write_in w.heap.size w.heap.size (M + T) [] x0 w1 H1.out (by have := HCle.out 0; simp [Lib.joinTail] at this ⊢; omega) (by omega) hBw1).mono ?_
        rintro e w2 ⟨rfl, h2', hb2⟩
        have hstart : ([] : List UInt8) ++ bl x0 = x0.data.toList ++ Lib.joinTail sep.data.toList ((r.map (·.data.toList)).take 0) := by
          simp [Lib.joinTail, bl]
        rw [hstart] at h2'
        have H2 := Any.hidJ h2'
        have Hb2 := Any.hidJ (Hb1.out.trans hb2)
        clear h2' hb2 hstart
        have hrl : r.length = xs.length - 1 := by rw [Hxs.out]; simp
        go_wp2_with fail
        go_loopw [65] (fun i wr => ∃ k : Nat, k ≤ r.length ∧ i = .int .i64 k ∧ Hid (SbU w.heap.size w.heap.size (x0.data.toList ++ Lib.joinTail sep.data.toList ((r.map (·.data.toList)).take k)) (M + T) wr) ∧ Hid (Below w.heap.size w wr)) (fun i _ => r.length - (intOf i).toNat)
        case atStart => exact ⟨0, Nat.zero_le _, rfl, H2, Hb2⟩
        case round =>
          obtain ⟨k, hk', rfl, HB, HW⟩ := hrel
          by_cases hkr : k < r.length
          · obtain ⟨y, hy⟩ : ∃ y, r[k]? = some y := ⟨r[k], List.getElem?_eq_getElem hkr⟩
            have hxy : xs[k + 1]? = some y := by rw [Hxs.out]; simpa using hy
            have hcy : wr.cell? ⟨bk, o + 1 + k, none⟩ = some (.string y) := by
              rw [HW.out.cell (p := ⟨bk, o + 1 + k, none⟩) hbk, show o + 1 + k = o + (k + 1) by omega]
              exact HC.out (k + 1) y hxy
            have hBw : w.heap.size ≤ wr.heap.size := HW.out.size
            have hnext : x0.data.toList ++ Lib.joinTail sep.data.toList ((r.map (·.data.toList)).take k) ++ bl sep ++ bl y = x0.data.toList ++ Lib.joinTail sep.data.toList ((r.map (·.data.toList)).take (k + 1)) := by
              rw [Lib.joinTail_take_succ sep.data.toList (r.map (·.data.toList)) k y.data.toList (by simp [hy])]
              simp only [bl, List.append_assoc]
            have hl1 := HCle.out (k + 1)
            rw [Lib.joinTail_take_succ sep.data.toList (r.map (·.data.toList)) k y.data.toList (by simp [hy])] at hl1
            simp only [List.length_append, ← Lib.size_eq] at hl1
            have hl0 : (x0.data.toList ++ Lib.joinTail sep.data.toList ((r.map (·.data.toList)).take k)).length = x0.size + (Lib.joinTail sep.data.toList ((r.map (·.data.toList)).take k)).length := by
              rw [List.length_append, ← Lib.size_eq]
            have hl2 : (x0.data.toList ++ Lib.joinTail sep.data.toList ((r.map (·.data.toList)).take k) ++ bl sep).length = x0.size + (Lib.joinTail sep.data.toList ((r.map (·.data.toList)).take k)).length + sep.size := by
              rw [List.length_append, hl0, Lib.size_eq sep]
            generalize (Lib.joinTail sep.data.toList ((r.map (·.data.toList)).take k)).length = J at hl0 hl1 hl2
            have Hn := Any.hidJ hnext
            have HL0 := Any.hidJ hl0
            have HL2 := Any.hidJ hl2
            clear hnext hy hxy hl0 hl2
            go_wp2_with fail
            refine (sb_Write_in w.heap.size w.heap.size (M + T) _ sep wr HB.out (by rw [HL0.out]; omega) (by omega) hBw).mono ?_
            rintro e w3 ⟨rfl, h3, hb3⟩
            have hBw3 : w.heap.size ≤ w3.heap.size := Nat.le_trans hBw hb3.size
            have H3 := Any.hidJ h3
            have Hb3 := Any.hidJ hb3
            clear h3 hb3
            go_wp2_with fail
            refine (sb_Write_in w.heap.size w.heap.size (M + T) _ y w3 H3.out (by rw [HL2.out]; omega) (by omega) hBw3).mono ?_
            rintro e w4 ⟨rfl, h4, hb4⟩
            rw [Hn.out] at h4
            have H4 := Any.hidJ h4
            have Hb4 := Any.hidJ ((HW.out.trans Hb3.out).trans hb4)
            clear h4 hb4
            go_wp2
            exact ⟨⟨k + 1, by omega, by go_num, H4, Hb4⟩, by simp [intOf]; omega⟩
          · have hke : k = r.length := by omega
            subst hke
            have hfull : (r.map (·.data.toList)).take r.length = r.map (·.data.toList) := List.take_of_length_le (by simp)
            have hB' := HB.out
            rw [hfull, ← Hwhole.out] at hB'
            have hBw : w.heap.size ≤ wr.heap.size := HW.out.size
            go_wp2_with fail
            refine (Tryz.Builder_String_any_f w.heap.size w.heap.size _ wr (.inr hB'.1) hBw).mono ?_
            rintro e w5 ⟨rfl, _, hb5⟩
            have Hb5 := Any.hidJ (HW.out.trans hb5)
            clear hb5 hB'
            go_wp2
            go_ret
            exact ⟨rfl, Hb5.out⟩)

theorem str_JoinB (v : Value) (xs : List ByteArray) (sep : ByteArray) (w : World) (h : SlA w 1 v xs.length (strs xs)) (hN : xs.length ≤ 1000000) (hlen : (joinB xs sep).size ≤ 281474976710656) :
    Calls Tryz.prog 122 #[v, .string sep] w fun e w' => e = .returned (.string (joinB xs sep)) ∧ Below w.heap.size w w' := by
  by_cases hsm : (joinB xs sep).size ≤ 140737488355328
  · exact str_Join v xs sep w h hN hsm
  obtain ⟨ao, c, rfl⟩ := h.form
  by_cases h0 : xs.length = 0
  · have hx : xs = [] := List.eq_nil_of_length_eq_zero h0
    subst hx
    refine (str_Join_none ao c sep w).mono ?_
    rintro e w' ⟨rfl, rfl⟩
    exact ⟨rfl, Below.refl _ _⟩
  · obtain ⟨b1, o1, c1, he1, hc1, hm1, hb1, hx1⟩ := h.pos (by omega)
    simp only [Value.slice.injEq, true_and] at he1
    obtain ⟨rfl, rfl⟩ := he1
    have hcl : ∀ (j : Nat) x, xs[j]? = some x → w.cell? ⟨b1, o1 + j, none⟩ = some (.string x) := fun j x hj => hx1 j _ (by unfold strs; rw [List.getElem?_map, hj]; rfl)
    by_cases h1 : xs.length = 1
    · obtain ⟨x, hx⟩ := List.length_eq_one_iff.1 h1
      subst hx
      refine (str_Join_one b1 o1 c x sep w (by have := hcl 0 x rfl; simpa using this)).mono ?_
      rintro e w' ⟨rfl, rfl⟩
      exact ⟨by rw [joinB_one], Below.refl _ _⟩
    · have hjs : (joinB xs sep).size = (Lib.join (xs.map (·.data.toList)) sep.data.toList).length := by unfold joinB; simp [ByteArray.size, bl]
      refine (str_Join_big b1 o1 c xs sep w hcl hb1 (by omega) (by omega) hc1 (by omega) (by omega)).mono ?_
      rintro e w' ⟨rfl, hb⟩
      exact ⟨rfl, hb⟩
end Go.Proofs.YtcmdhfccdkjenaaGreatDoor
