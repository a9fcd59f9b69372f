/- The statement StateSteps: the walk of the law. -/
import Derived.Test.YtmpanikeeeoikaaStReach3
import Derived.Test.YtmpanikeeeoikaaLaw10P
import Derived.Test.YtmpanikeeeoikaaRefRight5
namespace Go.Proofs.Ytmpanikeeeoikaa
open Go.RowKit Go.Shelf

theorem reach_iff (l : List St) (g h : List Rl) (m : List St) : reachS l g h m = true ↔ (∀ x ∈ m, rightS x = true ∧ (x ∈ l ∨ hasR g x.h = false)) ∧ ∀ x ∈ l, hasR h x.h = true → x ∈ m := by
  unfold reachS
  rw [Bool.and_eq_true, List.all_eq_true, Bool.not_eq_true', List.any_eq_false]
  have e1 : ∀ x, cOk l g x = true ↔ rightS x = true ∧ (x ∈ l ∨ hasR g x.h = false) := fun x => by
    unfold cOk; rw [Bool.and_eq_true, Bool.or_eq_true, Bool.not_eq_true', hasS_mem]
  have e2 : ∀ x, ¬ stays h m x = true ↔ (hasR h x.h = true → x ∈ m) := fun x => by
    unfold stays; rw [Bool.and_eq_true, Bool.not_eq_true', ← hasS_mem]
    cases hasR h x.h <;> cases hasS m x <;> simp
  simp only [e1, e2]
theorem reach_self {l : List St} {g h : List Rl} (hr : ∀ x ∈ l, rightS x = true) : reachS l g h l = true :=
  (reach_iff l g h l).2 ⟨fun x hx => ⟨hr x hx, .inl hx⟩, fun _ hx _ => hx⟩
theorem reach_trans {l m n : List St} {g h : List Rl} (h1 : reachS l g h m = true) (h2 : reachS m g h n = true) : reachS l g h n = true := by
  rw [reach_iff] at *
  refine ⟨fun x hx => ⟨(h2.1 x hx).1, ?_⟩, fun x hx hh => h2.2 x (h1.2 x hx hh) hh⟩
  rcases (h2.1 x hx).2 with h | h
  · exact (h1.1 x h).2
  · exact .inr h
theorem reach_more {l : List St} {g h : List Rl} {s : St} (hr : ∀ x ∈ l, rightS x = true) (hs : (rightS s && !hasR g s.h) = true) : reachS l g h (unionS l [s]) = true := by
  rw [Bool.and_eq_true, Bool.not_eq_true'] at hs
  refine (reach_iff _ _ _ _).2 ⟨fun x hx => ?_, fun x hx _ => (union_mem _ _ _).2 (.inl hx)⟩
  rcases (union_mem _ _ _).1 hx with hx | hx
  · exact ⟨hr x hx, .inl hx⟩
  · rw [List.mem_singleton.1 hx]; exact ⟨hs.1, .inr hs.2⟩
theorem reach_less {l : List St} {g h : List Rl} {x : St} (hr : ∀ x ∈ l, rightS x = true) (hx : x ∈ l) : reachS l g h (minusS l [x]) = !hasR h x.h := by
  cases e : hasR h x.h with
  | true =>
    rw [Bool.not_true, ← Bool.not_eq_true, reach_iff]
    intro hh
    have := (minus_mem _ _ _).1 (hh.2 x hx e)
    exact this.2 (List.mem_singleton.2 rfl)
  | false =>
    rw [Bool.not_false]
    refine (reach_iff _ _ _ _).2 ⟨fun y hy => ?_, fun y hy hh => (minus_mem _ _ _).2 ⟨hy, fun h1 => ?_⟩⟩
    · have := ((minus_mem _ _ _).1 hy).1
      exact ⟨hr y this, .inl this⟩
    · rw [List.mem_singleton.1 h1, e] at hh; cases hh
theorem union_le {l : List St} {s : St} {k : Nat} (hl : allLe l k) (hs : s.le k) : allLe (unionS l [s]) k := fun x hx => by
  rcases (union_mem _ _ _).1 hx with hx | hx
  · exact hl x hx
  · rw [List.mem_singleton.1 hx]; exact hs
theorem minus_le {l m : List St} {k : Nat} (hl : allLe l k) : allLe (minusS l m) k := fun x hx => hl x ((minus_mem _ _ _).1 hx).1
/-- A row of one statement, new in memory. -/
theorem row_new (k : Int) (h1 h2 who a1 a2 b1 b2 via : ByteArray) (w : World) : Sl (w.alloc (.cells #[.int .i64 k, .string h1, .string h2, .string who, .string a1, .string a2, .string b1, .string b2, .string via] 30)) 9 (.slice (some ⟨w.heap.size, 0, none⟩) 1 1)
    [(⟨k, ⟨h1, h2⟩, who, ⟨a1, a2⟩, ⟨b1, b2⟩, via⟩ : St)].length ([(⟨k, ⟨h1, h2⟩, who, ⟨a1, a2⟩, ⟨b1, b2⟩, via⟩ : St)].flatMap St.cells) :=
  Sl.new w [.int .i64 k, .string h1, .string h2, .string who, .string a1, .string a2, .string b1, .string b2, .string via] 30 9 1 w.heap.size rfl rfl (by simp [maxLen])
theorem row_aft (k : Int) (h1 h2 who a1 a2 b1 b2 via : ByteArray) {w w' : World} {n : Nat} (hn : w.heap.size = n) (hb : Below (w.alloc (.cells #[.int .i64 k, .string h1, .string h2, .string who, .string a1, .string a2, .string b1, .string b2, .string via] 30)).heap.size (w.alloc (.cells #[.int .i64 k, .string h1, .string h2, .string who, .string a1, .string a2, .string b1, .string b2, .string via] 30)) w') :
    Sl w' 9 (.slice (some ⟨n, 0, none⟩) 1 1) [(⟨k, ⟨h1, h2⟩, who, ⟨a1, a2⟩, ⟨b1, b2⟩, via⟩ : St)].length ([(⟨k, ⟨h1, h2⟩, who, ⟨a1, a2⟩, ⟨b1, b2⟩, via⟩ : St)].flatMap St.cells) := by
  have h := (row_new k h1 h2 who a1 a2 b1 b2 via w).below hb
  rw [hn] at h
  exact h
/-- Two blocks of a call's own that stand whole, the second at any place. -/
structure TwoG (w : World) (A : Array Value) (g : Nat) (B : Array Value) (wx : World) : Prop where
  a : Blk wx w.heap.size A
  b : Blk wx g B
  low : Below w.heap.size w wx
theorem TwoG.later {w wx w' : World} {A B : Array Value} {g : Nat} (h : TwoG w A g B wx) (hb : Below wx.heap.size wx w') : TwoG w A g B w' := ⟨h.a.below hb, h.b.below hb, h.low.trans (hb.mono h.low.size)⟩
theorem TwoG.alloc {w wx : World} {A B : Array Value} {g : Nat} (h : TwoG w A g B wx) (o : Obj) : TwoG w A g B (wx.alloc o) := h.later ((Below.refl _ _).alloc (Nat.le_refl _) o)
theorem TwoG.drew {w wx : World} {A B : Array Value} {g : Nat} (h : TwoG w A g B wx) : TwoG w A g B wx.drew := h.later (below_drew (Below.refl _ _))

set_option maxRecDepth 100000 in
set_option maxHeartbeats 16000000 in
theorem law10_StateSteps (v0 v1 v2 v3 vc vd : Value) (l m n : List St) (g h : List Rl) (qs : List Qv) (s : St) (w : World) (hp : PolAt w v0 v1 v2 v3 l g h qs) (hc : SlA w 9 vc m.length (m.flatMap St.cells)) (hd : SlA w 9 vd n.length (n.flatMap St.cells)) (hm : allLe m 9223372036854775807) (hn : allLe n 9223372036854775807) (hs : s.le 9223372036854775807) :
    Calls Try.prog 6 #[pv v0 v1 v2 v3, .agg #[vc, vd], sv s] w fun e w' => e = .returned (.bool true) ∧ Below w.heap.size w w' := by
  have HL := Lib.hid (fun W => law10_lives W)
  have HP := Lib.hid hp
  have HC := Lib.hid hc
  have HD := Lib.hid hd
  have LP := Lib.hid (fun W hb => law5_Light v0 v1 v2 v3 l g h qs W (hp.below (w' := W) hb))
  have RP := Lib.hid (fun W hb hl hg hh hq hl4 hq4 => ref5_Right v0 v1 v2 v3 l g h qs W (hp.below (w' := W) hb) hl hg hh hq hl4 hq4)
  have LC := Lib.hid (fun W hb => law10_Light vc m W (hc.below (w' := W) hb) hm)
  have LD := Lib.hid (fun W hb => law10_Light vd n W (hd.below (w' := W) hb) hn)
  have LS := Lib.hid (fun W => law3_Light s W hs)
  obtain ⟨a0, c0, rfl⟩ := hp.rs.form
  obtain ⟨a1, c1, rfl⟩ := hp.rg.form
  obtain ⟨a2, c2, rfl⟩ := hp.rh.form
  obtain ⟨a3, c3, rfl⟩ := hp.rq.form
  obtain ⟨am, cm, rfl⟩ := hc.form
  obtain ⟨an, cn, rfl⟩ := hd.form
  obtain ⟨k, ⟨h1, h2⟩, who, ⟨s1, s2⟩, ⟨s3, s4⟩, via⟩ := s
  have HT := Lib.hid (show TwoG w #[.slice a0 l.length c0, .slice a1 g.length c1, .slice a2 h.length c2, .slice a3 qs.length c3] (w.heap.size + 2) #[.int .i64 k, .string h1, .string h2, .string who, .string s1, .string s2, .string s3, .string s4, .string via] (((w.alloc (.cells #[.slice a0 l.length c0, .slice a1 g.length c1, .slice a2 h.length c2, .slice a3 qs.length c3] 26)).alloc (.cells #[.slice am m.length cm, .slice an n.length cn] 47)).alloc (.cells #[.int .i64 k, .string h1, .string h2, .string who, .string s1, .string s2, .string s3, .string s4, .string via] 30))
    from ⟨((Blk.new w _ _).alloc _).alloc _, (by have := Blk.new ((w.alloc (.cells #[.slice a0 l.length c0, .slice a1 g.length c1, .slice a2 h.length c2, .slice a3 qs.length c3] 26)).alloc (.cells #[.slice am m.length cm, .slice an n.length cn] 47)) #[.int .i64 k, .string h1, .string h2, .string who, .string s1, .string s2, .string s3, .string s4, .string via] 30; simpa using this), (((Below.refl _ _).alloc (Nat.le_refl _) _).alloc (by simp) _).alloc (by simp; omega) _⟩)
  have HK := Lib.hid (show Blk (((w.alloc (.cells #[.slice a0 l.length c0, .slice a1 g.length c1, .slice a2 h.length c2, .slice a3 qs.length c3] 26)).alloc (.cells #[.slice am m.length cm, .slice an n.length cn] 47)).alloc (.cells #[.int .i64 k, .string h1, .string h2, .string who, .string s1, .string s2, .string s3, .string s4, .string via] 30)) (w.heap.size + 1) #[.slice am m.length cm, .slice an n.length cn] from by have := (Blk.new (w.alloc (.cells #[.slice a0 l.length c0, .slice a1 g.length c1, .slice a2 h.length c2, .slice a3 qs.length c3] 26)) #[.slice am m.length cm, .slice an n.length cn] 47).alloc (.cells #[.int .i64 k, .string h1, .string h2, .string who, .string s1, .string s2, .string s3, .string s4, .string via] 30); simpa using this)
  clear hp hc hd hm hn hs
  go_enter Try.func6, Try.ntmps6
  go_wp2_with fail
  have HKD := HK.out.below (below_drew (Below.refl _ _))
  have k0 := HKD.1 0
  have k1 := HKD.1 1
  go_region_held3 (fun W => ∀ o, W.cell? ⟨w.heap.size + 1, o, none⟩ = (#[.slice am m.length cm, .slice an n.length cn] : Array Value)[o]?)
    (first | exact HKD.1 | go_keep)
    (fail)
  have HT := Lib.hid HT.out.drew
  clear HKD k0 k1 HK
  obtain ⟨ca, fa, za⟩ := HT.out.a
  go_wp2_with fail
  refine (LP.out _ HT.out.low).mono ?_
  rintro e w1 ⟨⟨bp, rfl, hlp⟩, hb1⟩
  have HT := Lib.hid (HT.out.later hb1)
  have HLP := Lib.hid (fun hh => let q := hlp hh; (⟨q.1, q.2.1, q.2.2.1, q.2.2.2.1, q.2.2.2.2.1, fun x hx => (q.2.2.2.2.2 x hx)⟩ : l.length ≤ 30 ∧ g.length ≤ 30 ∧ h.length ≤ 30 ∧ qs.length ≤ 30 ∧ allLe l 40 ∧ ∀ x ∈ qs, x.okN 40 _))
  have HB1 := Lib.hid hb1
  clear hlp hb1 ca fa za
  cases bp with
  | false =>
    go_wp2_with fail
    refine (HL.out _).mono ?_
    rintro e w6 ⟨rfl, hb6⟩
    have T6 := Lib.hid (HT.out.later hb6)
    clear hb6
    go_wp2
    go_ret
    exact ⟨rfl, T6.out.low⟩
  | true =>
  have HLP2 := Lib.hid (HLP.out (by first | rfl | trivial))
  clear HLP
  have HQ := Lib.hid (fun x hx => (HLP2.out.2.2.2.2.2 x hx).below HB1.out)
  have hl30 : l.length ≤ 30 := HLP2.out.1
  have hg30 : g.length ≤ 30 := HLP2.out.2.1
  have hh30 : h.length ≤ 30 := HLP2.out.2.2.1
  have hq30 : qs.length ≤ 30 := HLP2.out.2.2.2.1
  have HL40 := Lib.hid HLP2.out.2.2.2.2.1
  clear HLP2 HB1 LP
  go_wp2_with fail
  refine (LC.out _ HT.out.low).mono ?_
  rintro e w2 ⟨bc, rfl, hlc, hb2⟩
  have HT := Lib.hid (HT.out.later hb2)
  have HQ := Lib.hid (fun x hx => (HQ.out x hx).below hb2)
  have HLC := Lib.hid hlc
  clear hlc hb2
  cases bc with
  | false =>
    go_wp2_with fail
    refine (HL.out _).mono ?_
    rintro e w6 ⟨rfl, hb6⟩
    have T6 := Lib.hid (HT.out.later hb6)
    clear hb6
    go_wp2
    go_ret
    exact ⟨rfl, T6.out.low⟩
  | true =>
  have HLC2 := Lib.hid (HLC.out (by first | rfl | trivial))
  clear HLC
  go_wp2_with fail
  refine (LD.out _ HT.out.low).mono ?_
  rintro e w3 ⟨bd, rfl, hld, hb3⟩
  have HT := Lib.hid (HT.out.later hb3)
  have HQ := Lib.hid (fun x hx => (HQ.out x hx).below hb3)
  have HLD := Lib.hid hld
  clear hld hb3
  cases bd with
  | false =>
    go_wp2_with fail
    refine (HL.out _).mono ?_
    rintro e w6 ⟨rfl, hb6⟩
    have T6 := Lib.hid (HT.out.later hb6)
    clear hb6
    go_wp2
    go_ret
    exact ⟨rfl, T6.out.low⟩
  | true =>
  have HLD2 := Lib.hid (HLD.out (by first | rfl | trivial))
  clear HLD
  obtain ⟨ca, fa, za⟩ := HT.out.a
  go_wp2_with fail
  refine (RP.out _ HT.out.low hl30 hg30 hh30 hq30 HL40.out HQ.out).mono ?_
  rintro e w4 ⟨⟨br, rfl, hbr⟩, hb4⟩
  have HT := Lib.hid (HT.out.later hb4)
  have HBR := Lib.hid hbr
  clear hbr hb4 ca fa za HQ RP
  cases br with
  | false =>
    go_wp2_with fail
    refine (HL.out _).mono ?_
    rintro e w6 ⟨rfl, hb6⟩
    have T6 := Lib.hid (HT.out.later hb6)
    clear hb6
    go_wp2
    go_ret
    exact ⟨rfl, T6.out.low⟩
  | true =>
  have HR := Lib.hid (HBR.out (by first | rfl | trivial))
  have hm40 : m.length ≤ 40 := HLC2.out.1
  have hn40 : n.length ≤ 40 := HLD2.out.1
  have ll4 : allLe l 4294967 := fun x hx => (HL40.out x hx).mono (by decide)
  have lm4 : allLe m 4294967 := fun x hx => (HLC2.out.2 x hx).mono (by decide)
  have ln4 : allLe n 4294967 := fun x hx => (HLD2.out.2 x hx).mono (by decide)
  have R0 := Lib.hid (fun W hb => (reach_self (g := g) (h := h) HR.out) ▸ state_Reaches (.slice a0 l.length c0) (.slice a1 g.length c1) (.slice a2 h.length c2) (.slice a3 qs.length c3) (.slice a0 l.length c0) l l g h qs W (HP.out.below (w' := W) hb) (HP.out.rs.below hb) ll4)
  have R1 := Lib.hid (fun W hb => state_Reaches (.slice a0 l.length c0) (.slice a1 g.length c1) (.slice a2 h.length c2) (.slice a3 qs.length c3) (.slice am m.length cm) l m g h qs W (HP.out.below (w' := W) hb) (HC.out.below hb) lm4)
  have R2 := Lib.hid (fun W hb => state_Reaches (.slice am m.length cm) (.slice a1 g.length c1) (.slice a2 h.length c2) (.slice a3 qs.length c3) (.slice an n.length cn) m n g h qs W ⟨HC.out.below (w' := W) hb, HP.out.rg.below hb, HP.out.rh.below hb, HP.out.rq.below hb, fun x hx => (lm4 x hx).mono (by decide), HP.out.lg, HP.out.lh, fun x hx => (HP.out.lq x hx).below hb⟩ (HD.out.below hb) ln4)
  have R3 := Lib.hid (fun W hb => state_Reaches (.slice a0 l.length c0) (.slice a1 g.length c1) (.slice a2 h.length c2) (.slice a3 qs.length c3) (.slice an n.length cn) l n g h qs W (HP.out.below (w' := W) hb) (HD.out.below hb) ln4)
  have RT := Lib.hid (fun h1 h2 => reach_trans (l := l) (m := m) (n := n) (g := g) (h := h) h1 h2)
  have UN := Lib.hid (fun vb W hb hv => stUnion (.slice a0 l.length c0) vb l [(⟨k, ⟨h1, h2⟩, who, ⟨s1, s2⟩, ⟨s3, s4⟩, via⟩ : St)] W (HP.out.rs.below (w' := W) hb) hv (by omega) (by simp))
  have MC := Lib.hid (fun W hb ls4 => state_MayCome (.slice a0 l.length c0) (.slice a1 g.length c1) (.slice a2 h.length c2) (.slice a3 qs.length c3) g ⟨k, ⟨h1, h2⟩, who, ⟨s1, s2⟩, ⟨s3, s4⟩, via⟩ W (HP.out.rg.below (w' := W) hb) ls4 rfl rfl rfl)
  have RM := Lib.hid (fun hmc vb W hb ls4 hv => (reach_more (l := l) (g := g) (h := h) (s := ⟨k, ⟨h1, h2⟩, who, ⟨s1, s2⟩, ⟨s3, s4⟩, via⟩) HR.out hmc) ▸ state_Reaches (.slice a0 l.length c0) (.slice a1 g.length c1) (.slice a2 h.length c2) (.slice a3 qs.length c3) vb l (unionS l [⟨k, ⟨h1, h2⟩, who, ⟨s1, s2⟩, ⟨s3, s4⟩, via⟩]) g h qs W (HP.out.below (w' := W) hb) hv (union_le ll4 ls4))
  have MG := Lib.hid (fun x W hb => state_MayGo (.slice a0 l.length c0) (.slice a1 g.length c1) (.slice a2 h.length c2) (.slice a3 qs.length c3) h x W (HP.out.rh.below (w' := W) hb) rfl rfl rfl)
  have MN := Lib.hid (fun x vb W hb hv => stMinus (.slice a0 l.length c0) vb l [x] W (HP.out.rs.below (w' := W) hb) hv (by omega))
  have RL := Lib.hid (fun x hx vb W hb hv => (reach_less (l := l) (g := g) (h := h) (x := x) HR.out hx) ▸ state_Reaches (.slice a0 l.length c0) (.slice a1 g.length c1) (.slice a2 h.length c2) (.slice a3 qs.length c3) vb l (minusS l [x]) g h qs W (HP.out.below (w' := W) hb) hv (minus_le ll4))
  generalize (rightS ⟨k, ⟨h1, h2⟩, who, ⟨s1, s2⟩, ⟨s3, s4⟩, via⟩ && !hasR g _) = rmc at MC RM
  generalize reachS l g h m = r1 at R1 RT
  generalize reachS m g h n = r2 at R2 RT
  generalize reachS l g h n = r3 at R3 RT
  generalize unionS l [(⟨k, ⟨h1, h2⟩, who, ⟨s1, s2⟩, ⟨s3, s4⟩, via⟩ : St)] = un at UN RM
  clear lm4 ln4 HLC2 HLD2 LC LD HBR
  obtain ⟨ca, fa, za⟩ := HT.out.a
  go_upto_region 6 with fail
  have HT := Lib.hid (HT.out.alloc (.cells #[.slice am m.length cm, .slice a1 g.length c1, .slice a2 h.length c2, .slice a3 qs.length c3] 26))
  have HQB := Lib.hid (Blk.new w4 #[.slice am m.length cm, .slice a1 g.length c1, .slice a2 h.length c2, .slice a3 qs.length c3] 26)
  go_cut [59] (fun s59 wx => s59 = .bool false ∧ Hid (TwoG w #[.slice a0 l.length c0, .slice a1 g.length c1, .slice a2 h.length c2, .slice a3 qs.length c3] (w.heap.size + 2) #[.int .i64 k, .string h1, .string h2, .string who, .string s1, .string s2, .string s3, .string s4, .string via] wx))
  case first =>
    go_wp2_with fail
    refine (R0.out _ HT.out.low).mono ?_
    rintro e w5 ⟨rfl, hb5⟩
    have HT := Lib.hid (HT.out.later hb5)
    have HQB := Lib.hid (HQB.out.below hb5)
    clear hb5 ca fa za R0
    obtain ⟨ca, fa, za⟩ := HT.out.a
    go_wp2_with fail
    refine (R1.out _ HT.out.low).mono ?_
    rintro e w6 ⟨rfl, hb6⟩
    have HT := Lib.hid (HT.out.later hb6)
    have HQB := Lib.hid (HQB.out.below hb6)
    clear hb6 ca fa za R1
    cases r1 with
    | false =>
      go_wp2_with fail
      go_meet
      exact ⟨rfl, HT⟩
    | true =>
      obtain ⟨cq, fq, zq⟩ := HQB.out
      go_wp2_with fail
      refine (R2.out _ HT.out.low).mono ?_
      rintro e w7 ⟨rfl, hb7⟩
      have HT := Lib.hid (HT.out.later hb7)
      clear hb7 cq fq zq R2 HQB
      cases r2 with
      | false =>
        go_wp2_with fail
        go_meet
        exact ⟨rfl, HT⟩
      | true =>
        obtain ⟨ca, fa, za⟩ := HT.out.a
        have hr3 : r3 = true := RT.out (by first | rfl | trivial) (by first | rfl | trivial)
        subst hr3
        go_wp2_with fail
        refine (R3.out _ HT.out.low).mono ?_
        rintro e w8 ⟨rfl, hb8⟩
        have HT := Lib.hid (HT.out.later hb8)
        clear hb8 ca fa za R3 RT
        go_wp2_with fail
        go_meet
        exact ⟨rfl, HT⟩
  case rest =>
    clear HT HQB R0 R1 R2 R3 RT ca fa za
    obtain ⟨rfl, HT⟩ := hcut
    obtain ⟨ca, fa, za⟩ := HT.out.a
    obtain ⟨cb, fb, zb⟩ := HT.out.b
    go_wp2_with fail
    refine (UN.out _ _ (HT.out.alloc _).low (row_new _ _ _ _ _ _ _ _ _ _).a).mono ?_
    rintro e wU ⟨vu, rfl, hsu, hbu⟩
    have HT := Lib.hid ((HT.out.alloc (.cells #[.int .i64 k, .string h1, .string h2, .string who, .string s1, .string s2, .string s3, .string s4, .string via] 30)).later hbu)
    have HU := Lib.hid hsu
    obtain ⟨uo, uc, hvu⟩ := hsu.form
    subst hvu
    clear hsu hbu ca fa za cb fb zb UN
    obtain ⟨ca, fa, za⟩ := HT.out.a
    obtain ⟨cb, fb, zb⟩ := HT.out.b
    go_upto_region 9 with fail
    go_cut [77] (fun s77 wx => s77 = .bool false ∧ Hid (TwoG w #[.slice a0 l.length c0, .slice a1 g.length c1, .slice a2 h.length c2, .slice a3 qs.length c3] (w.heap.size + 2) #[.int .i64 k, .string h1, .string h2, .string who, .string s1, .string s2, .string s3, .string s4, .string via] wx))
    case first =>
      go_wp2_with fail
      refine (LS.out _).mono ?_
      rintro e wL ⟨bs, rfl, hls, hbL⟩
      have HT := Lib.hid (HT.out.later hbL)
      have HU := Lib.hid (HU.out.below hbL)
      have HLS := Lib.hid hls
      clear hls hbL ca fa za cb fb zb LS
      cases bs with
      | false =>
        go_wp2_with fail
        go_meet
        exact ⟨rfl, HT⟩
      | true =>
        have ls4 := (HLS.out (by first | rfl | trivial)).mono (show 40 ≤ 4294967 by decide)
        clear HLS
        obtain ⟨ca, fa, za⟩ := HT.out.a
        obtain ⟨cb, fb, zb⟩ := HT.out.b
        go_wp2_with fail
        refine (MC.out _ HT.out.low ls4).mono ?_
        rintro e wM ⟨rfl, hbM⟩
        have HT := Lib.hid (HT.out.later hbM)
        have HU := Lib.hid (HU.out.below hbM)
        clear hbM ca fa za cb fb zb MC
        cases rmc with
        | false =>
          go_wp2_with fail
          go_meet
          exact ⟨rfl, HT⟩
        | true =>
          obtain ⟨ca, fa, za⟩ := HT.out.a
          go_wp2_with fail
          refine (RM.out (by first | rfl | trivial) _ _ HT.out.low ls4 HU.out.a).mono ?_
          rintro e wN ⟨rfl, hbN⟩
          have HT := Lib.hid (HT.out.later hbN)
          clear hbN ca fa za RM
          go_wp2_with fail
          go_meet
          exact ⟨rfl, HT⟩
    case rest =>
      clear HT HU ca fa za cb fb zb LS MC RM
      obtain ⟨rfl, HT⟩ := hcut
      obtain ⟨ca, fa, za⟩ := HT.out.a
      go_wp2_with fail
      clear ca fa za
      go_loopw [81] (fun i wr => ∃ k' : Nat, k' ≤ l.length ∧ i = .int .i64 k' ∧ Hid (TwoG w #[.slice a0 l.length c0, .slice a1 g.length c1, .slice a2 h.length c2, .slice a3 qs.length c3] (w.heap.size + 2) #[.int .i64 k, .string h1, .string h2, .string who, .string s1, .string s2, .string s3, .string s4, .string via] wr)) (fun i _ => l.length - (intOf i).toNat)
      case atStart => exact ⟨0, by omega, rfl, HT⟩
      case round =>
        clear HT
        obtain ⟨k', hk, rfl, HT⟩ := hrel
        by_cases hlt : k' < l.length
        · obtain ⟨b1, o1, e1, he1, hc1, hm1', hb1, hx1⟩ := HP.out.rs.pos (by omega)
          simp only [Value.slice.injEq, true_and] at he1
          obtain ⟨rfl, rfl⟩ := he1
          obtain ⟨p0, p1, p2, p3, p4, p5, p6, p7, p8⟩ := st_cell (w := wr) (fun j u hu => (HT.out.low.cell (p := ⟨b1, o1 + j, none⟩) hb1).trans (hx1 j u hu)) k' hlt
          have hbr : b1 < wr.heap.size := Nat.lt_of_lt_of_le hb1 HT.out.low.size
          have MGk := Lib.hid (fun W hb => MG.out (l[k']'hlt) W hb)
          have MNk := Lib.hid (fun vb W hb hv => MN.out (l[k']'hlt) vb W hb hv)
          have RLk := Lib.hid (fun vb W hb hv => RL.out (l[k']'hlt) (List.getElem_mem hlt) vb W hb hv)
          generalize minusS l [l[k']] = mi at MNk RLk
          have hek : l[k'] = ⟨l[k'].k, ⟨l[k'].h.o, l[k'].h.n⟩, l[k'].who, ⟨l[k'].a.o, l[k'].a.n⟩, ⟨l[k'].b.o, l[k'].b.n⟩, l[k'].via⟩ := rfl
          clear hx1
          generalize l[k'] = x at *
          obtain ⟨xk, ⟨x1, x2⟩, xw, ⟨x3, x4⟩, ⟨x5, x6⟩, xv⟩ := x
          clear hek
          generalize hasR h _ = rh at MGk RLk
          have HE := Lib.hid (show (wr.alloc (.cells #[.int .i64 xk, .string x1, .string x2, .string xw, .string x3, .string x4, .string x5, .string x6, .string xv] 30)).drew.heap.size = wr.heap.size + 1 by simp [World.drew])
          have HS : Blk (wr.alloc (.cells #[.int .i64 xk, .string x1, .string x2, .string xw, .string x3, .string x4, .string x5, .string x6, .string xv] 30)).drew (w.heap.size + 2) #[.int .i64 k, .string h1, .string h2, .string who, .string s1, .string s2, .string s3, .string s4, .string via] := (HT.out.alloc (.cells #[.int .i64 xk, .string x1, .string x2, .string xw, .string x3, .string x4, .string x5, .string x6, .string xv] 30)).drew.b
          have HT : TwoG w #[.slice (some ⟨b1, o1, none⟩) l.length c0, .slice a1 g.length c1, .slice a2 h.length c2, .slice a3 qs.length c3] wr.heap.size #[.int .i64 xk, .string x1, .string x2, .string xw, .string x3, .string x4, .string x5, .string x6, .string xv] (wr.alloc (.cells #[.int .i64 xk, .string x1, .string x2, .string xw, .string x3, .string x4, .string x5, .string x6, .string xv] 30)).drew := ⟨(HT.out.alloc (.cells #[.int .i64 xk, .string x1, .string x2, .string xw, .string x3, .string x4, .string x5, .string x6, .string xv] 30)).drew.a, (Blk.new wr _ _).below (below_drew (Below.refl _ _)), (HT.out.alloc (.cells #[.int .i64 xk, .string x1, .string x2, .string xw, .string x3, .string x4, .string x5, .string x6, .string xv] 30)).drew.low⟩
          go_wp2_with fail
          generalize wr.alloc (.cells #[.int .i64 xk, .string x1, .string x2, .string xw, .string x3, .string x4, .string x5, .string x6, .string xv] 30) = wv at HT HS HE ⊢
          go_region_held3 (fun W => (∀ o, W.cell? ⟨w.heap.size, o, none⟩ = (#[.slice (some ⟨b1, o1, none⟩) l.length c0, .slice a1 g.length c1, .slice a2 h.length c2, .slice a3 qs.length c3] : Array Value)[o]?) ∧ (∀ o, W.cell? ⟨wr.heap.size, o, none⟩ = (#[.int .i64 xk, .string x1, .string x2, .string xw, .string x3, .string x4, .string x5, .string x6, .string xv] : Array Value)[o]?))
            (first | exact ⟨HT.a.1, HT.b.1⟩ | exact ⟨(HT.alloc _).a.1, (HT.alloc _).b.1⟩ | go_keep)
            (first
              | (go_at_call 19; refine (MGk.out _ ?_).mono ?_; (first | exact HT.low | exact (HT.alloc (.cells #[.int .i64 xk, .string x1, .string x2, .string xw, .string x3, .string x4, .string x5, .string x6, .string xv] 30)).low); rintro e wqa ⟨rfl, hbq⟩; have HT2 : TwoG w #[.slice (some ⟨b1, o1, none⟩) l.length c0, .slice a1 g.length c1, .slice a2 h.length c2, .slice a3 qs.length c3] wr.heap.size #[.int .i64 xk, .string x1, .string x2, .string xw, .string x3, .string x4, .string x5, .string x6, .string xv] wqa := (by first | exact HT.later hbq | exact (HT.alloc _).later hbq); have HS2 : Blk wqa (w.heap.size + 2) #[.int .i64 k, .string h1, .string h2, .string who, .string s1, .string s2, .string s3, .string s4, .string via] := (by first | exact HS.below hbq | exact (HS.alloc _).below hbq); (try have HRW := row_aft xk x1 x2 xw x3 x4 x5 x6 xv (w := wv.drew) (n := wv.heap.size) rfl hbq); have HT := HT2; have HS := HS2; have cq1 := HT.a.1; have cq2 := HT.b.1)
              | (go_at_call 21; refine (MNk.out _ _ ?_ ?_).mono ?_; (first | exact HT.low | exact (HT.alloc (.cells #[.int .i64 xk, .string x1, .string x2, .string xw, .string x3, .string x4, .string x5, .string x6, .string xv] 30)).low); (first | exact HRW.a | exact (row_new xk x1 x2 xw x3 x4 x5 x6 xv wqa).a); rintro e wq ⟨vm, rfl, hsm, hbq⟩; have HT2 : TwoG w #[.slice (some ⟨b1, o1, none⟩) l.length c0, .slice a1 g.length c1, .slice a2 h.length c2, .slice a3 qs.length c3] wr.heap.size #[.int .i64 xk, .string x1, .string x2, .string xw, .string x3, .string x4, .string x5, .string x6, .string xv] wq := (by first | exact HT.later hbq | exact (HT.alloc _).later hbq); have HS2 : Blk wq (w.heap.size + 2) #[.int .i64 k, .string h1, .string h2, .string who, .string s1, .string s2, .string s3, .string s4, .string via] := (by first | exact HS.below hbq | exact (HS.alloc _).below hbq); have HT := HT2; have HS := HS2; have HM := Lib.hid hsm; have cq1 := HT.a.1; have cq2 := HT.b.1)
              | (go_at_call 11; refine (RLk.out _ _ HT.low HM.out.a).mono ?_; rintro e wq ⟨rfl, hbq⟩; have HT := HT.later hbq; have HS := HS.below hbq; have cq1 := HT.a.1; have cq2 := HT.b.1))
          all_goals (have HT := Lib.hid (show TwoG w #[.slice (some ⟨b1, o1, none⟩) l.length c0, .slice a1 g.length c1, .slice a2 h.length c2, .slice a3 qs.length c3] (w.heap.size + 2) #[.int .i64 k, .string h1, .string h2, .string who, .string s1, .string s2, .string s3, .string s4, .string via] _ from ⟨HT.a, HS, HT.low⟩); clear HS)
          all_goals cases rh
          all_goals go_wp2
          all_goals exact ⟨⟨k' + 1, by omega, by go_num, HT⟩, by simp [intOf]; omega⟩
        · go_wp2_with fail
          refine (HL.out _).mono ?_
          rintro e w6 ⟨rfl, hb6⟩
          have T6 := Lib.hid (HT.out.later hb6)
          clear hb6
          go_wp2
          go_ret
          exact ⟨rfl, T6.out.low⟩
end Go.Proofs.Ytmpanikeeeoikaa
