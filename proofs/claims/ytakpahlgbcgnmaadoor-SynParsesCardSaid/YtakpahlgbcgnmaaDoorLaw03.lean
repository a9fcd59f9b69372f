/- The statement SynRight: the walk of the law, and of its 'lives'. -/
import Derived.Test.YtakpahlgbcgnmaaDoorSynParse
import Derived.Test.YtakpahlgbcgnmaaDoorSynLight
import Derived.Deep.RegionHeld3
import Derived.Deep.DeepCutAuto
import Derived.KernelRfl
namespace Go.Proofs.YtakpahlgbcgnmaaDoor
open Go.RowKit Go.Shelf

def livesS : St := ⟨4, ⟨⟨#[65]⟩, ⟨#[114]⟩⟩, emp, ⟨⟨#[65]⟩, ⟨#[115]⟩⟩, ⟨⟨#[66]⟩, ⟨#[115]⟩⟩, emp⟩
theorem lives_parse : parseS ⟨#[65, 46, 114, 32, 60, 45, 32, 66, 46, 115, 32, 38, 32, 65, 46, 115]⟩ = (livesS, 0, 0) := by kernel_rfl
theorem lives_printS : printS livesS = ⟨#[65, 46, 114, 32, 60, 45, 32, 65, 46, 115, 32, 38, 32, 66, 46, 115]⟩ := by kernel_rfl
theorem lives_right : rightS livesS = true := by kernel_rfl
theorem lives_le : livesS.le 4294967 := by
  simp only [livesS, St.le, Rl.le, ByteArray.size]; decide

set_option maxRecDepth 100000 in
set_option maxHeartbeats 1000000 in
theorem law3_lives (w : World) (hg : Gl w) : Calls Tryd.prog 21 #[] w fun e w' => e = .returned (.bool true) ∧ Below w.heap.size w w' := by
  have HP := Lib.hid (syn_Parse ⟨#[65, 46, 114, 32, 60, 45, 32, 66, 46, 115, 32, 38, 32, 65, 46, 115]⟩ w (by decide) hg)
  have H1 := Lib.hid fun W => syn_Print livesS W lives_le
  have H2 := Lib.hid fun W => syn_Right livesS W lives_le
  rw [lives_parse] at HP
  rw [lives_printS] at H1
  rw [lives_right] at H2
  simp only [livesS, sv, emp] at HP H1 H2
  go_enter Tryd.func21, Tryd.ntmps21
  go_wp2_with (first
    | (go_at_call 17; refine HP.out.mono ?_; rintro e w1 ⟨rfl, hb1⟩)
    | (go_at_call 19; refine (H1.out _).mono ?_; rintro e w2 ⟨rfl, hb2⟩; obtain ⟨ca, fa, za⟩ := keep1 hb2)
    | (go_at_call 18; refine (H2.out _).mono ?_; rintro e w3 ⟨rfl, hb3⟩))
  go_ret
  have hz1 := hb1.size
  have hz2 := hb2.size
  have hz3 := hb3.size
  simp at hz2
  refine ⟨rfl, ?_⟩
  (repeat' (first | with_reducible exact Below.refl _ _ | with_reducible assumption | with_reducible (refine Below.setCell ?_ ?_ _) | with_reducible (refine Below.alloc ?_ ?_ _) | with_reducible (refine below_drew ?_) | with_reducible (refine below_drewN ?_ _) | with_reducible (refine Below.trans ?_ (Below.mono (by assumption) ?_)) | omega | (simp; done) | (simp; omega)))

def roles1 (s : St) : List Rl := if 2 ≤ s.k ∧ s.k ≤ 4 then [s.h, s.a] else [s.h]
theorem roles1_yes {s : St} (h : 2 ≤ s.k) (h' : s.k ≤ 4) : roles1 s = [s.h] ++ [s.a] := if_pos ⟨h, h'⟩
theorem roles1_no {s : St} (h : ¬ (2 ≤ s.k ∧ s.k ≤ 4)) : roles1 s = [s.h] := if_neg h
theorem roles1_four {s : St} (h : s.k = 4) : rolesS s = roles1 s ++ [s.b] := by
  rw [rolesS_three h, roles1_yes (by omega) (by omega)]; rfl
theorem roles1_else {s : St} (h : ¬ s.k = 4) : rolesS s = roles1 s := by
  unfold rolesS roles1
  by_cases h2 : s.k = 2 ∨ s.k = 3
  · rw [if_pos h2, if_pos (by omega)]
  · rw [if_neg h2, if_neg h, if_neg (by omega)]
def Stop_ (p : Prop) : Prop := p
theorem stop_ {p : Prop} (h : Stop_ p) : p := h
def midQ (k : Int) : Bool := decide (2 ≤ k ∧ k ≤ 4)
theorem roles1_len (s : St) : (roles1 s).length ≤ 2 := by unfold roles1; split <;> simp
/-- The roles stand in a row of the call's own; the statement's block stands whole. -/
structure RolesAt (w : World) (cs : Array Value) (l : List Rl) (v : Value) (wx : World) : Prop where
  own : wx.ownsRow (w.heap.size + 1) 29 2 v l.length (l.flatMap Rl.cells)
  blk : Blk wx w.heap.size cs
  low : Below w.heap.size w wx
theorem rl_info : (Tryd.prog.info? 29).map (fun i => (i.zero, i.size, i.bytes)) = some (some (.agg #[.string ByteArray.empty, .string ByteArray.empty]), 2, 32) := by kernel_rfl
theorem rl_one (x y : ByteArray) : ∀ u ∈ [Value.string x, Value.string y], u.oneCell' = true := by
  intro u hu; simp at hu; rcases hu with rfl | rfl <;> rfl
theorem RolesAt.push {w wx w2 : World} {cs : Array Value} {l : List Rl} {v v' : Value} (h : RolesAt w cs l v wx) (x y : ByteArray) (o : Obj)
    (hown : w2.ownsRow (w.heap.size + 1) 29 2 v' (l.length + 1) (l.flatMap Rl.cells ++ [.string x, .string y])) (hg : (wx.alloc o).grownBy w2 v.ownBlock) : RolesAt w cs (l ++ [⟨x, y⟩]) v' w2 := by
  have hlt : ∀ k, v.ownBlock = some k → w.heap.size + 1 ≤ k := fun k hk => (h.own.lt k hk).1
  have hsz := h.low.size
  refine ⟨by simpa [List.flatMap_append, Rl.cells] using hown, (h.blk.alloc o).grown hg (fun e => by have := hlt _ e.symm; omega), ?_⟩
  exact (h.low.alloc hsz o).grown hg (by simp; omega) (fun k hk => by have := hlt k hk; omega)

set_option maxRecDepth 100000 in
set_option maxHeartbeats 4000000 in
theorem law3_SynRight (s : St) (w : World) (hg : Gl w) (hs : s.le 9223372036854775807) :
    Calls Tryd.prog 6 #[sv s] w fun e w' => e = .returned (.bool true) ∧ Below w.heap.size w w' := by
  have HL := Lib.hid (fun W (h : Gl W) => law3_lives W h)
  have HLight := Lib.hid (fun W => law3_Light s W hs)
  have HG := Lib.hid hg
  have hEq := stmt_eql'
  obtain ⟨k, ⟨h1, h2⟩, who, ⟨a1, a2⟩, ⟨b1, b2⟩, via⟩ := s
  clear hs hg
  go_enter Tryd.func6, Tryd.ntmps6
  go_wp2_with fail
  refine (HLight.out _).mono ?_
  rintro e w1 ⟨b, rfl, hle, hb1⟩
  have hb := (((Below.refl _ _).alloc (Nat.le_refl _) _).trans (hb1.mono (by simp)) : Below w.heap.size w w1)
  have HB1 := keep1 hb1
  clear hb1
  obtain ⟨ca, fa, za⟩ := id HB1
  have hz := hb.size
  cases b with
  | false =>
    clear hle HB1
    go_wp2_with (go_at_call 21; refine (HL.out _ ?_).mono ?_; exact HG.out.below hb; rintro e w2 ⟨rfl, hb2⟩)
    go_ret
    exact ⟨rfl, hb.trans (hb2.mono hb.size)⟩
  | true =>
    have HLE := Lib.hid (hle rfl)
    have R0 : RolesAt w #[.int .i64 k, .string h1, .string h2, .string who, .string a1, .string a2, .string b1, .string b2, .string via] [⟨h1, h2⟩] (.slice (some ⟨w1.heap.size, 0, none⟩) 1 1) (w1.alloc (.cells #[.string h1, .string h2] 29)) :=
      ⟨World.ownsRow_lit w1 #[.string h1, .string h2] 1 (by omega) (by simp [maxLen]) (by simp), HB1.alloc _, hb.alloc hz _⟩
    have HR0 := Lib.hid R0
    clear hle HB1 R0
    go_upto_region 4 with fail
    go_cut [18] (fun s18 wx => s18 = .bool (midQ k) ∧ wx = (w1.alloc (.cells #[.string h1, .string h2] 29)))
    case first =>
      by_cases q : 2 ≤ k
      · have d : decide (2 ≤ k) = true := by simpa using q
        have d2 := Lib.hid (show midQ k = decide (k ≤ 4) by simp [midQ, q])
        clear q
        go_wp2_with fail
        go_meet
        exact ⟨congrArg Value.bool d2.out.symm, rfl⟩
      · have d : decide (2 ≤ k) = false := by simpa using q
        have d2 := Lib.hid (show midQ k = false by simp [midQ, q])
        clear q
        go_wp2_with fail
        go_meet
        exact ⟨congrArg Value.bool d2.out.symm, rfl⟩
    case rest =>
      obtain ⟨rfl, rfl⟩ := hcut
      go_upto_if 18 with fail
      go_cut [3] (fun s3 wx => RolesAt w #[.int .i64 k, .string h1, .string h2, .string who, .string a1, .string a2, .string b1, .string b2, .string via] (roles1 ⟨k, ⟨h1, h2⟩, who, ⟨a1, a2⟩, ⟨b1, b2⟩, via⟩) s3 wx)
      case first =>
        by_cases hq : 2 ≤ k ∧ k ≤ 4
        · have R := Lib.hid (roles1_yes (s := ⟨k, ⟨h1, h2⟩, who, ⟨a1, a2⟩, ⟨b1, b2⟩, via⟩) hq.1 hq.2)
          have q : midQ k = true := decide_eq_true hq
          rw [q]
          clear hq q
          have hown := HR0.out.own
          go_wp2_with (at_builtin; refine stop_ ?_)
          unfold Stop_
          refine app_own Tryd.underlying45 rl_info rfl (by decide) (by decide) rfl _ _ rfl (w.heap.size + 1) rfl (hown.alloc _) [.string a1, .string a2] rfl (heap_new2 _ _ _) rfl (rl_one _ _) ?_ ?_ ?_
          · simp
          · simp; omega
          intro a' cap' w2 hown' hgrow
          have HO := Lib.hid hown'
          have HGR := Lib.hid hgrow
          clear hown' hgrow
          go_wp2_with fail
          go_meet
          rw [R.out]
          exact HR0.out.push a1 a2 _ HO.out HGR.out
        · have R := Lib.hid (roles1_no (s := ⟨k, ⟨h1, h2⟩, who, ⟨a1, a2⟩, ⟨b1, b2⟩, via⟩) hq)
          have q : midQ k = false := decide_eq_false hq
          rw [q]
          clear hq q
          go_wp2_with fail
          go_meet
          rw [R.out]
          exact HR0.out
      case rest =>
        have HR1 := Lib.hid hcut
        have hz1 := hcut.low.size
        obtain ⟨cb, fb, zb⟩ := id hcut.blk
        obtain ⟨ra, rc, rfl⟩ := own_form hcut.own
        clear hcut HR0
        go_upto_if 26 with fail
        go_cut [3] (fun s3 wx => RolesAt w #[.int .i64 k, .string h1, .string h2, .string who, .string a1, .string a2, .string b1, .string b2, .string via] (rolesS ⟨k, ⟨h1, h2⟩, who, ⟨a1, a2⟩, ⟨b1, b2⟩, via⟩) s3 wx)
        case first =>
          by_cases hq : k = 4
          · have R := Lib.hid (roles1_four (s := ⟨k, ⟨h1, h2⟩, who, ⟨a1, a2⟩, ⟨b1, b2⟩, via⟩) hq)
            have q : (k == 4) = true := by simp [hq]
            have hown := HR1.out.own
            try rw [q]
            clear hq q
            go_wp2_with (at_builtin; refine stop_ ?_)
            unfold Stop_
            refine app_own Tryd.underlying45 rl_info rfl (by decide) (by decide) rfl _ _ rfl (w.heap.size + 1) rfl (hown.alloc _) [.string b1, .string b2] rfl (heap_new1 _ _) rfl (rl_one _ _) ?_ ?_ ?_
            · exact Nat.le_trans (roles1_len _) (by decide)
            · simp; omega
            intro a' cap' w2 hown' hgrow
            have HO := Lib.hid hown'
            have HGR := Lib.hid hgrow
            clear hown' hgrow
            go_wp2_with fail
            go_meet
            rw [R.out]
            exact HR1.out.push b1 b2 _ HO.out HGR.out
          · have R := Lib.hid (roles1_else (s := ⟨k, ⟨h1, h2⟩, who, ⟨a1, a2⟩, ⟨b1, b2⟩, via⟩) hq)
            have q : (k == 4) = false := by simp [hq]
            try rw [q]
            clear hq q
            go_wp2_with fail
            go_meet
            rw [R.out]
            exact HR1.out
        case rest =>
          have HSL := Lib.hid (Sl.of_own hcut.own)
          have HGC := Lib.hid (HG.out.below hcut.low)
          have HLOW := Lib.hid hcut.low
          have HBK : Blk wc.drew w.heap.size #[.int .i64 k, .string h1, .string h2, .string who, .string a1, .string a2, .string b1, .string b2, .string via] := hcut.blk
          have HBC : Below wc.heap.size wc wc.drew := below_drew (Below.refl _ _)
          have hle4 := HLE.out.mono (show 40 ≤ 4294967 by decide)
          have A1 := fun W => syn_Right ⟨k, ⟨h1, h2⟩, who, ⟨a1, a2⟩, ⟨b1, b2⟩, via⟩ W hle4
          have A2 := fun W => ref3_Right ⟨k, ⟨h1, h2⟩, who, ⟨a1, a2⟩, ⟨b1, b2⟩, via⟩ W hle4
          have A3 := fun W => syn_IsRole ⟨a1, a2⟩ W (hle4.2.2.1.mono (by decide))
          have A4 := fun W => ref3_IsRole ⟨a1, a2⟩ W hle4.2.2.1
          have A5 := fun W => syn_Print ⟨k, ⟨h1, h2⟩, who, ⟨a1, a2⟩, ⟨b1, b2⟩, via⟩ W hle4
          have A6 := fun W => ref3_Print ⟨k, ⟨h1, h2⟩, who, ⟨a1, a2⟩, ⟨b1, b2⟩, via⟩ W hle4
          have A7 := fun W => syn_Normal ⟨k, ⟨h1, h2⟩, who, ⟨a1, a2⟩, ⟨b1, b2⟩, via⟩ W
          have A8 := fun W => ref3_Normal ⟨k, ⟨h1, h2⟩, who, ⟨a1, a2⟩, ⟨b1, b2⟩, via⟩ W
          have A9 := fun W => syn_Roles ⟨k, ⟨h1, h2⟩, who, ⟨a1, a2⟩, ⟨b1, b2⟩, via⟩ W
          have A10 := fun W => syn_PrintRole ⟨h1, h2⟩ W hle4.1
          have A11 := fun W => ref3_Role ⟨h1, h2⟩ W hle4.1
          generalize rightS ⟨k, ⟨h1, h2⟩, who, ⟨a1, a2⟩, ⟨b1, b2⟩, via⟩ = bR at A1 A2
          generalize isRole ⟨a1, a2⟩ = bI at A3 A4
          generalize printS ⟨k, ⟨h1, h2⟩, who, ⟨a1, a2⟩, ⟨b1, b2⟩, via⟩ = tP at A5 A6
          generalize normalS ⟨k, ⟨h1, h2⟩, who, ⟨a1, a2⟩, ⟨b1, b2⟩, via⟩ = nz at A7 A8
          obtain ⟨nk, ⟨nh1, nh2⟩, nwho, ⟨na1, na2⟩, ⟨nb1, nb2⟩, nvia⟩ := nz
          generalize rolesS ⟨k, ⟨h1, h2⟩, who, ⟨a1, a2⟩, ⟨b1, b2⟩, via⟩ = lr at A9 HSL
          generalize roleT ⟨h1, h2⟩ = tR at A10 A11
          have hself : eqSt ⟨nk, ⟨nh1, nh2⟩, nwho, ⟨na1, na2⟩, ⟨nb1, nb2⟩, nvia⟩ ⟨nk, ⟨nh1, nh2⟩, nwho, ⟨na1, na2⟩, ⟨nb1, nb2⟩, nvia⟩ = true := by simp [eqSt]
          clear hcut HR1 hle4 ca fa za cb fb zb HLight
          have A1 := Lib.hid A1
          go_upto_region 8 with fail
          go_region_held3 (fun W => ∀ o, W.cell? ⟨w.heap.size, o, none⟩ = (#[.int .i64 k, .string h1, .string h2, .string who, .string a1, .string a2, .string b1, .string b2, .string via] : Array Value)[o]?)
            (first | exact HBK.1 | go_keep)
            (first
              | (go_at_call 18; refine (A1.out _).mono ?_; rintro e wq ⟨rfl, hbq⟩; have HBC := HBC.trans (hbq.mono HBC.size); have HBK := HBK.below hbq; have cq := HBK.1)
              | (go_at_call 25; refine (A2 _).mono ?_; rintro e wq ⟨rfl, hbq⟩; have HBC := HBC.trans (hbq.mono HBC.size); have HBK := HBK.below hbq; have cq := HBK.1)
              | (go_at_call 26; refine (A3 _).mono ?_; rintro e wq ⟨rfl, hbq⟩; have HBC := HBC.trans (hbq.mono HBC.size); have HBK := HBK.below hbq; have cq := HBK.1)
              | (go_at_call 27; refine (A4 _).mono ?_; rintro e wq ⟨rfl, hbq⟩; have HBC := HBC.trans (hbq.mono HBC.size); have HBK := HBK.below hbq; have cq := HBK.1)
              | (go_at_call 19; refine (A5 _).mono ?_; rintro e wq ⟨rfl, hbq⟩; have HBC := HBC.trans (hbq.mono HBC.size); have HBK := HBK.below hbq; have cq := HBK.1)
              | (go_at_call 28; refine (A6 _).mono ?_; rintro e wq ⟨rfl, hbq⟩; have HBC := HBC.trans (hbq.mono HBC.size); have HBK := HBK.below hbq; have cq := HBK.1)
              | (go_at_call 29; refine (A7 _).mono ?_; rintro e wq ⟨rfl, hbq⟩; have HBC := HBC.trans (hbq.mono HBC.size); have HBK := HBK.below hbq; have cq := HBK.1)
              | (go_at_call 30; refine (A8 _).mono ?_; rintro e wq ⟨rfl, hbq⟩; have HBC := HBC.trans (hbq.mono HBC.size); have HBK := HBK.below hbq; have cq := HBK.1)
              | (go_at_call 32; refine (A9 _).mono ?_; rintro e wq ⟨rq, rfl, hslq, hbq⟩; have HBC := HBC.trans (hbq.mono HBC.size); have HBK := HBK.below hbq; have cq := HBK.1; have HSQ := Lib.hid hslq)
              | (go_at_call 31; refine (ref3_SameRoles_same _ _ _ _ HSQ.out (HSL.out.below HBC)).mono ?_; rintro e wq ⟨rfl, nq, rfl⟩; have HBC := below_drewN HBC nq; have HBK := HBK.drewN nq; have cq := HBK.1)
              | (go_at_call 33; refine (A10 _).mono ?_; rintro e wq ⟨rfl, hbq⟩; have HBC := HBC.trans (hbq.mono HBC.size); have HBK := HBK.below hbq; have cq := HBK.1)
              | (go_at_call 34; refine (A11 _).mono ?_; rintro e wq ⟨rfl, hbq⟩; have HBC := HBC.trans (hbq.mono HBC.size); have HBK := HBK.below hbq; have cq := HBK.1)
              | (go_at_call 21; refine (HL.out _ ?_).mono ?_; exact (HGC.out.below HBC); rintro e wq ⟨rfl, hbq⟩; have HBC := HBC.trans (hbq.mono HBC.size); have HBK := HBK.below hbq; have cq := HBK.1))
          go_wp2
          go_ret
          exact ⟨rfl, HLOW.out.trans (HBC.mono HLOW.out.size)⟩
end Go.Proofs.YtakpahlgbcgnmaaDoor
