/- The document's example of layer 6. Rules compared; the role of a number. TableNumbers: the walk. Roles and statements among a law's arguments: opened to data, and read again in a later world. Rows of statements among a law's arguments: opened. -/
import Derived.Test.YthickpocfplcoaaPart8
import Derived.Test.YthickpocfplcoaaPart2
import Derived.Test.YthickpocfplcoaaPart10
import Derived.Test.YthickpocfplcoaaPart6
import Derived.ProofKit
import Derived.OpenShut
import Derived.ChangeMaps5
import Derived.Deep.Strs
import Derived.Test.YthickpocfplcoaaPart4
import Derived.Deep.Slices
namespace Go.Proofs.Ythickpocfplcoaa
open Go.RowKit Go.Shelf

def exA : List ByteArray := [⟨#[66]⟩, ⟨#[65]⟩]
def exB : List ByteArray := [⟨#[115]⟩, ⟨#[114]⟩]
theorem exA_new : newB exA = [⟨#[65]⟩, ⟨#[66]⟩] := by rfl
theorem exB_new : newB exB = [⟨#[114]⟩, ⟨#[115]⟩] := by rfl
theorem ex_role : roleN (newB exA) (newB exB) ⟨⟨#[66]⟩, ⟨#[114]⟩⟩ = 2 := by rfl
theorem ex_roleAt : roleAt (newB exA) (newB exB) 2 = ⟨⟨#[66]⟩, ⟨#[114]⟩⟩ := by rfl
set_option maxRecDepth 100000 in
set_option maxHeartbeats 4000000 in
theorem law6_lives (w : World) : Calls Try.prog 8 #[] w fun e w' => e = .returned (.bool true) ∧ Below w.heap.size w w' := by
  obtain ⟨w0, hw0⟩ : ∃ V, V = (w.alloc (.cells #[.string ⟨#[66]⟩, .string ⟨#[65]⟩] 9)).alloc (.cells #[.string ⟨#[115]⟩, .string ⟨#[114]⟩] 9) := ⟨_, rfl⟩
  have NW := Lib.hid (table_New (.slice (some ⟨w.heap.size, 0, none⟩) 2 2) (.slice (some ⟨w.heap.size + 1, 0, none⟩) 2 2) exA exB w0
    (by rw [hw0]; exact ((Sl.new w (strs exA) 9 1 2 w.heap.size rfl rfl (by simp [maxLen])).below ((Below.refl _ _).alloc (by simp) _)).a)
    (by rw [hw0]; exact (Sl.new (w.alloc (.cells #[.string ⟨#[66]⟩, .string ⟨#[65]⟩] 9)) (strs exB) 9 1 2 (w.heap.size + 1) (by simp) rfl (by simp [maxLen])).a) (by decide) (by decide))
  have HB := Lib.hid (show Below w.heap.size w w0 by rw [hw0]; exact (((Below.refl _ _).alloc (Nat.le_refl _) _).alloc (by simp) _))
  have RO := Lib.hid (fun (t ba bb : Nat) (W : World) (h : TblAt W t ba bb (newB exA) (newB exB)) => ex_role ▸ table_Role h ⟨⟨#[66]⟩, ⟨#[114]⟩⟩)
  have RS := Lib.hid (fun (t ba bb : Nat) (W : World) (h : TblAt W t ba bb (newB exA) (newB exB)) => (show (newB exA).length * (newB exB).length = 4 from rfl) ▸ table_Roles h)
  have RA := Lib.hid (fun (t ba bb : Nat) (W : World) (h : TblAt W t ba bb (newB exA) (newB exB)) => ex_roleAt ▸ table_RoleAt h 2 (by decide))
  go_enter Try.func8, Try.ntmps8
  go_wp2_with fail
  rw [← hw0]
  clear hw0
  refine NW.out.mono ?_
  rintro e w1 ⟨t, ba, bb, rfl, ht, hb⟩
  have HT := Lib.hid ht
  have HB := Lib.hid (HB.out.trans (hb.mono HB.out.size))
  clear ht hb NW
  go_wp2_with fail
  refine (RO.out _ _ _ _ HT.out).mono ?_
  rintro e w2 ⟨rfl, hb⟩
  have HT := Lib.hid (HT.out.below hb)
  have HB := Lib.hid (HB.out.trans (hb.mono HB.out.size))
  clear hb RO
  go_wp2_with fail
  refine (RS.out _ _ _ _ HT.out).mono ?_
  rintro e w3 ⟨rfl, rfl⟩
  clear RS
  go_wp2_with fail
  refine (RA.out _ _ _ _ HT.out).mono ?_
  rintro e w4 ⟨rfl, hb⟩
  have HB := Lib.hid (HB.out.trans (hb.mono HB.out.size))
  clear hb RA HT
  go_wp2
  go_ret
  exact ⟨rfl, HB.out⟩
end Go.Proofs.Ythickpocfplcoaa
namespace Go.Proofs.Ythickpocfplcoaa
open Go.RowKit Go.Shelf

def eqRu (x y : Ru) : Bool := decide (x = y)
set_option maxRecDepth 100000 in
set_option maxHeartbeats 4000000 in
theorem rule_equalIn (d : Nat) (k h u a b v k' h' u' a' b' v' : Int) (w : World) : (Op.equalIn (d + 2) 34 (.agg #[.int .i64 k, .int .i64 h, .int .i64 u, .int .i64 a, .int .i64 b, .int .i64 v]) (.agg #[.int .i64 k', .int .i64 h', .int .i64 u', .int .i64 a', .int .i64 b', .int .i64 v'])).run Try.prog w = .ok (eqRu ⟨k, h, u, a, b, v⟩ ⟨k', h', u', a', b', v'⟩) w := by
  have hS : Try.prog.underlying 34 = some (.struct (Try.prog.fieldsOf 34)) := by kernel_rfl
  have hp : Try.prog.stoodInHeld 34 = false := by kernel_rfl
  rw [run_equalIn_agg w (d + 1) 34 _ _ hS hp]
  simp only [Program.fieldsOf, Try.underlying34]
  go_simp
  simp only [eqRu, Ru.mk.injEq]
  by_cases e1 : k = k' <;> by_cases e2 : h = h' <;> by_cases e3 : u = u' <;> by_cases e4 : a = a' <;> by_cases e5 : b = b' <;> by_cases e6 : v = v' <;> simp [e1, e2, e3, e4, e5, e6]
theorem rule_eql (k h u a b v k' h' u' a' b' v' : Int) (w : World) : (binOp .eql 34 (.agg #[.int .i64 k, .int .i64 h, .int .i64 u, .int .i64 a, .int .i64 b, .int .i64 v]) (.agg #[.int .i64 k', .int .i64 h', .int .i64 u', .int .i64 a', .int .i64 b', .int .i64 v'])).run Try.prog w = .ok (.bool (eqRu ⟨k, h, u, a, b, v⟩ ⟨k', h', u', a', b', v'⟩)) w := by
  rw [run_eql_struct, show (10000 : Nat) = 9998 + 2 from rfl, rule_equalIn 9998]
  rfl
theorem rule_neq (k h u a b v k' h' u' a' b' v' : Int) (w : World) : (binOp .neq 34 (.agg #[.int .i64 k, .int .i64 h, .int .i64 u, .int .i64 a, .int .i64 b, .int .i64 v]) (.agg #[.int .i64 k', .int .i64 h', .int .i64 u', .int .i64 a', .int .i64 b', .int .i64 v'])).run Try.prog w = .ok (.bool (!eqRu ⟨k, h, u, a, b, v⟩ ⟨k', h', u', a', b', v'⟩)) w := by
  rw [run_neq_struct, show (10000 : Nat) = 9998 + 2 from rfl, rule_equalIn 9998]
  rfl
theorem eqRu_self (r : Ru) : eqRu r r = true := decide_eq_true rfl
theorem eqRl_self (r : Rl) : eqRl r r = true := decide_eq_true rfl
theorem roleAt_ij {a b : List ByteArray} {i j : Nat} (hi : i < a.length) (hj : j < b.length) : roleAt a b ((i : Int) * (b.length : Int) + (j : Int)) = ⟨a[i], b[j]⟩ := by
  have h : i * b.length + j < a.length * b.length := by
    have : i * b.length + b.length ≤ a.length * b.length := by rw [← Nat.succ_mul]; exact Nat.mul_le_mul_right _ hi
    omega
  have e : ((i : Int) * (b.length : Int) + (j : Int)) = ((i * b.length + j : Nat) : Int) := by rw [Int.natCast_add, Int.natCast_mul]
  have h0 : 0 < b.length := by omega
  have e1 : (i * b.length + j) / b.length = i := by rw [Nat.add_comm, Nat.add_mul_div_right _ _ h0, Nat.div_eq_of_lt hj, Nat.zero_add]
  have e2 : (i * b.length + j) % b.length = j := by rw [Nat.add_comm, Nat.add_mul_mod_self_right, Nat.mod_eq_of_lt hj]
  rw [e, roleAt_yes h, e1, e2, atB_get hi, atB_get hj]
end Go.Proofs.Ythickpocfplcoaa
namespace Go.Proofs.Ythickpocfplcoaa
open Go.RowKit Go.Shelf

/-- The call's own blocks, the table and the reference's rows. -/
structure NumAt (w : World) (A R : Array Value) (t ba bb : Nat) (a b : List ByteArray) (va vb : Value) (b10 b12 : Nat) (wx : World) : Prop where
  o : OneAt w A wx
  t : TblAt wx t ba bb a b
  ra : SlA wx 1 va a.length (strs a)
  rb : SlA wx 1 vb b.length (strs b)
  x : Blk wx b10 R
  y : Blk wx b12 R
theorem NumAt.later {w wx w' : World} {A R : Array Value} {t ba bb : Nat} {a b : List ByteArray} {va vb : Value} {b10 b12 : Nat} (h : NumAt w A R t ba bb a b va vb b10 b12 wx) (hb : Below wx.heap.size wx w') : NumAt w A R t ba bb a b va vb b10 b12 w' :=
  ⟨h.o.later hb, h.t.below hb, h.ra.below hb, h.rb.below hb, h.x.below hb, h.y.below hb⟩
set_option maxRecDepth 100000 in
set_option maxHeartbeats 16000000 in
theorem law6_TableNumbers (va vb : Value) (l m : List ByteArray) (s : St) (w : World) (ha : SlA w 1 va l.length (strs l)) (hb : SlA w 1 vb m.length (strs m)) (hl : ∀ x ∈ l, x.size ≤ 9223372036854775807) (hm : ∀ x ∈ m, x.size ≤ 9223372036854775807) (hs : s.le 9223372036854775807) :
    Calls Try.prog 3 #[va, vb, sv s] w fun e w' => e = .returned (.bool true) ∧ Below w.heap.size w w' := by
  have LA := Lib.hid (fun W (h : Below w.heap.size w W) => law1_Light va l W (ha.below h) hl)
  have LB := Lib.hid (fun W (h : Below w.heap.size w W) => law1_Light vb m W (hb.below h) hm)
  have LS := Lib.hid (fun W => law3_Light s W hs)
  have LV := Lib.hid (fun W => law6_lives W)
  have TN := Lib.hid (fun W h1 h2 (h : Below w.heap.size w W) => table_New va vb l m W (ha.below h) (hb.below h) h1 h2)
  have NA := Lib.hid (fun W h1 (h : Below w.heap.size w W) => ref1_NewB va l W (ha.below h) h1)
  have NB := Lib.hid (fun W h1 (h : Below w.heap.size w W) => ref1_NewB vb m W (hb.below h) h1)
  obtain ⟨ao, ac, rfl⟩ := ha.form
  obtain ⟨bo, bc, rfl⟩ := hb.form
  clear ha hb hl hm
  obtain ⟨k, ⟨h1, h2⟩, who, ⟨s1, s2⟩, ⟨s3, s4⟩, via⟩ := s
  obtain ⟨w0, hw0⟩ : ∃ V, V = w.alloc (.cells #[.int .i64 k, .string h1, .string h2, .string who, .string s1, .string s2, .string s3, .string s4, .string via] 26) := ⟨_, rfl⟩
  have HT := Lib.hid (show OneAt w #[.int .i64 k, .string h1, .string h2, .string who, .string s1, .string s2, .string s3, .string s4, .string via] w0 by rw [hw0]; exact ⟨Blk.new w _ _, (Below.refl _ _).alloc (Nat.le_refl _) _⟩)
  go_enter Try.func3, Try.ntmps3
  go_wp2_with fail
  rw [← hw0]
  clear hw0 hs
  refine (LA.out _ HT.out.low).mono ?_
  rintro e wq ⟨⟨x1, rfl, hx1⟩, rfl⟩
  cases x1 with
  | false =>
    clear hx1
    go_wp2_with fail
    refine (LV.out _).mono ?_
    rintro e wq2 ⟨rfl, hb⟩
    have HT := Lib.hid (HT.out.later hb)
    clear hb
    go_wp2
    go_ret
    exact ⟨rfl, HT.out.low⟩
  | true =>
  have hla := hx1 rfl
  clear hx1
  go_wp2_with fail
  refine (LB.out _ HT.out.low).mono ?_
  rintro e wq2 ⟨⟨x1, rfl, hx1⟩, rfl⟩
  cases x1 with
  | false =>
    clear hx1
    go_wp2_with fail
    refine (LV.out _).mono ?_
    rintro e wq2 ⟨rfl, hb⟩
    have HT := Lib.hid (HT.out.later hb)
    clear hb
    go_wp2
    go_ret
    exact ⟨rfl, HT.out.low⟩
  | true =>
  have hmb := hx1 rfl
  clear hx1
  obtain ⟨ca, fa, za⟩ := HT.out.a
  go_wp2_with fail
  refine (LS.out _).mono ?_
  rintro e w1 ⟨x1, rfl, hx1, hb⟩
  have HT := Lib.hid (HT.out.later hb)
  clear hb ca fa za
  cases x1 with
  | false =>
    clear hx1
    go_wp2_with fail
    refine (LV.out _).mono ?_
    rintro e wq2 ⟨rfl, hb⟩
    have HT := Lib.hid (HT.out.later hb)
    clear hb
    go_wp2
    go_ret
    exact ⟨rfl, HT.out.low⟩
  | true =>
  have hle := hx1 rfl
  clear hx1 LS
  go_wp2_with fail
  refine (TN.out _ (by omega) (by omega) HT.out.low).mono ?_
  rintro e w2 ⟨t, ba, bb, rfl, ht, hb⟩
  have HTB := Lib.hid ht
  have HT := Lib.hid (HT.out.later hb)
  clear ht hb TN
  go_wp2_with fail
  refine (NA.out _ (by omega) HT.out.low).mono ?_
  rintro e w3 ⟨va', rfl, hra, hb⟩
  have HTB := Lib.hid (HTB.out.below hb)
  have HT := Lib.hid (HT.out.later hb)
  clear hb NA
  obtain ⟨ao', ac', rfl⟩ := hra.form
  have HRA := Lib.hid hra
  clear hra
  go_wp2_with fail
  refine (NB.out _ (by omega) HT.out.low).mono ?_
  rintro e w4 ⟨vb', rfl, hrb, hb⟩
  have HTB := Lib.hid (HTB.out.below hb)
  have HT := Lib.hid (HT.out.later hb)
  have HRA := Lib.hid (HRA.out.below hb)
  clear hb NB
  obtain ⟨bo', bc', rfl⟩ := hrb.form
  have HRB := Lib.hid hrb
  clear hrb
  have na := HTB.out.na
  have nb := HTB.out.nb
  have RU := Lib.hid (fun W (h : TblAt W t ba bb (newB l) (newB m)) => table_Rule h ⟨k, ⟨h1, h2⟩, who, ⟨s1, s2⟩, ⟨s3, s4⟩, via⟩ (hle.mono (by decide)))
  have RR := Lib.hid (fun va vb W ha hb => ref6_Rule va vb (newB l) (newB m) ⟨k, ⟨h1, h2⟩, who, ⟨s1, s2⟩, ⟨s3, s4⟩, via⟩ W ha hb na nb (hle.mono (by decide)))
  have R1 := Lib.hid (fun W (h : TblAt W t ba bb (newB l) (newB m)) => table_Role h ⟨h1, h2⟩)
  have R2 := Lib.hid (fun va vb W ha hb => ref6_Role va vb (newB l) (newB m) ⟨h1, h2⟩ W ha hb na nb)
  generalize newB l = a at *
  generalize newB m = b at *
  generalize roleN a b ⟨h1, h2⟩ = rn at R1 R2
  generalize ruleN a b ⟨k, ⟨h1, h2⟩, who, ⟨s1, s2⟩, ⟨s3, s4⟩, via⟩ = rr at RU RR
  obtain ⟨⟨k0, k1, k2, k3, k4, k5⟩, ok⟩ := rr
  obtain ⟨ca, fa, za⟩ := HT.out.a
  go_wp2_with fail
  refine (RU.out _ HTB.out).mono ?_
  rintro e w5 ⟨rfl, hb⟩
  have HTB := Lib.hid (HTB.out.below hb)
  have HT := Lib.hid (HT.out.later hb)
  have HRA := Lib.hid (HRA.out.below hb)
  have HRB := Lib.hid (HRB.out.below hb)
  clear hb RU ca fa za
  obtain ⟨ca, fa, za⟩ := HT.out.a
  go_wp2_with fail
  clear ca fa za
  obtain ⟨b10, hb10⟩ : ∃ n, n = w5.heap.size := ⟨_, rfl⟩
  obtain ⟨w6, hw6⟩ : ∃ V, V = w5.alloc (.cells #[.int .i64 k0, .int .i64 k1, .int .i64 k2, .int .i64 k3, .int .i64 k4, .int .i64 k5] 34) := ⟨_, rfl⟩
  rw [← hw6, ← hb10]
  have hb : Below w5.heap.size w5 w6 := by rw [hw6]; exact (Below.refl _ _).alloc (Nat.le_refl _) _
  have HX := Lib.hid (show Blk w6 b10 #[.int .i64 k0, .int .i64 k1, .int .i64 k2, .int .i64 k3, .int .i64 k4, .int .i64 k5] by rw [hw6, hb10]; exact Blk.new _ _ _)
  have HTB := Lib.hid (HTB.out.below hb)
  have HT := Lib.hid (HT.out.later hb)
  have HRA := Lib.hid (HRA.out.below hb)
  have HRB := Lib.hid (HRB.out.below hb)
  clear hb hw6 hb10
  refine (RR.out _ _ _ HRA.out HRB.out).mono ?_
  rintro e w7 ⟨rfl, hb⟩
  have HX := Lib.hid (HX.out.below hb)
  have HTB := Lib.hid (HTB.out.below hb)
  have HT := Lib.hid (HT.out.later hb)
  have HRA := Lib.hid (HRA.out.below hb)
  have HRB := Lib.hid (HRB.out.below hb)
  clear hb RR
  go_upto_region 7 with fail
  obtain ⟨b12, hb12⟩ : ∃ n, n = w7.heap.size := ⟨_, rfl⟩
  obtain ⟨w8, hw8⟩ : ∃ V, V = w7.alloc (.cells #[.int .i64 k0, .int .i64 k1, .int .i64 k2, .int .i64 k3, .int .i64 k4, .int .i64 k5] 34) := ⟨_, rfl⟩
  rw [← hw8, ← hb12]
  have hb : Below w7.heap.size w7 w8 := by rw [hw8]; exact (Below.refl _ _).alloc (Nat.le_refl _) _
  have HN := Lib.hid (show NumAt w #[.int .i64 k, .string h1, .string h2, .string who, .string s1, .string s2, .string s3, .string s4, .string via] #[.int .i64 k0, .int .i64 k1, .int .i64 k2, .int .i64 k3, .int .i64 k4, .int .i64 k5] t ba bb a b (.slice ao' a.length ac') (.slice bo' b.length bc') b10 b12 w8 from ⟨HT.out.later hb, HTB.out.below hb, HRA.out.below hb, HRB.out.below hb, HX.out.below hb, by rw [hw8, hb12]; exact Blk.new _ _ _⟩)
  clear hb hw8 hb12
  clear HX HTB HT HRA HRB
  have HNe : ∀ W, (binOp .neq 34 (.agg #[.int .i64 k0, .int .i64 k1, .int .i64 k2, .int .i64 k3, .int .i64 k4, .int .i64 k5]) (.agg #[.int .i64 k0, .int .i64 k1, .int .i64 k2, .int .i64 k3, .int .i64 k4, .int .i64 k5])).run Try.prog W = .ok (.bool false) W := fun W => (rule_neq k0 k1 k2 k3 k4 k5 k0 k1 k2 k3 k4 k5 W).trans (by rw [eqRu_self]; rfl)
  have hmul : a.length * b.length ≤ 1000 * 1000 := Nat.mul_le_mul na nb
  have wr1 : IntKind.i64.wrap ((a.length : Int) * (b.length : Int)) = (a.length : Int) * (b.length : Int) := Go.IntWalk.i64_in _ (by rw [← Int.natCast_mul]; omega)
  have PR := Lib.hid (fun W (h : TblAt W t ba bb a b) => table_Prins h)
  have LK := Lib.hid (fun W (h : TblAt W t ba bb a b) => table_Links h)
  have RS := Lib.hid (fun W (h : TblAt W t ba bb a b) => table_Roles h)
  have LE := Lib.hid (fun (q : Nat) (c : List ByteArray) W (h : TabAt W q c) => tab_Len q c W h)
  have RA := Lib.hid (fun W i hi (h : TblAt W t ba bb a b) => table_RoleAt h i hi)
  refine wp_region_held_drew (S := (fun W => (∀ o, W.cell? ⟨w.heap.size, o, none⟩ = (#[.int .i64 k, .string h1, .string h2, .string who, .string s1, .string s2, .string s3, .string s4, .string via] : Array Value)[o]?) ∧ (∀ o, W.cell? ⟨b10, o, none⟩ = (#[.int .i64 k0, .int .i64 k1, .int .i64 k2, .int .i64 k3, .int .i64 k4, .int .i64 k5] : Array Value)[o]?) ∧ (∀ o, W.cell? ⟨b12, o, none⟩ = (#[.int .i64 k0, .int .i64 k1, .int .i64 k2, .int .i64 k3, .int .i64 k4, .int .i64 k5] : Array Value)[o]?))) (by kernel_rfl) (by have HN := HN.out.later (below_drew (Below.refl _ _)); exact ⟨HN.o.a.1, HN.x.1, HN.y.1⟩) (fun hHeld => ?_)
  have HN := HN.out.later (below_drew (Below.refl _ _))
  obtain ⟨wk, hwk⟩ : ∃ W, W = w8.drew := ⟨_, rfl⟩
  rw [← hwk] at HN hHeld ⊢
  clear hwk
  (refine held_yes (v := ?_) 0 rfl (by kernel_rfl) (by kernel_rfl) (by kernel_rfl) (fun _ _ _ h => h) (by rfl) (by assumption) ?_ ?_; rotate_left; (focus ((intro w hSw); (try dsimp only at hSw); go_simp; (try with_reducible rfl))); (try simp only [Act.put, List.setIfInBounds_toArray, List.set_cons_zero, List.set_cons_succ])); (refine held_yes (v := ?_) 1 rfl (by kernel_rfl) (by kernel_rfl) (by kernel_rfl) (fun _ _ _ h => h) (by rfl) (by assumption) ?_ ?_; rotate_left; (focus ((intro w hSw); (try dsimp only at hSw); go_simp; (try with_reducible rfl))); (try simp only [Act.put, List.setIfInBounds_toArray, List.set_cons_zero, List.set_cons_succ])); (refine held_yes (v := ?_) 2 rfl (by kernel_rfl) (by kernel_rfl) (by kernel_rfl) (fun _ _ _ h => h) (by rfl) (by assumption) ?_ ?_; rotate_left; (focus ((intro w hSw); (try dsimp only at hSw); go_simp; (try with_reducible rfl))); (try simp only [Act.put, List.setIfInBounds_toArray, List.set_cons_zero, List.set_cons_succ])); (refine held_yes (v := ?_) 3 rfl (by kernel_rfl) (by kernel_rfl) (by kernel_rfl) (fun _ _ _ h => h) (by rfl) (by assumption) ?_ ?_; rotate_left; (focus ((intro w hSw); (try dsimp only at hSw); go_simp; (try with_reducible rfl))); (try simp only [Act.put, List.setIfInBounds_toArray, List.set_cons_zero, List.set_cons_succ])); (refine held_yes (v := ?_) 4 rfl (by kernel_rfl) (by kernel_rfl) (by kernel_rfl) (fun _ _ _ h => h) (by rfl) (by assumption) ?_ ?_; rotate_left; (focus ((intro w hSw); (try dsimp only at hSw); go_simp; (try with_reducible rfl))); (try simp only [Act.put, List.setIfInBounds_toArray, List.set_cons_zero, List.set_cons_succ])); (refine held_yes (v := ?_) 5 rfl (by kernel_rfl) (by kernel_rfl) (by kernel_rfl) (fun _ _ _ h => h) (by rfl) (by assumption) ?_ ?_; rotate_left; (focus ((intro w hSw); (try dsimp only at hSw); go_simp; (try with_reducible rfl))); (try simp only [Act.put, List.setIfInBounds_toArray, List.set_cons_zero, List.set_cons_succ])); (refine held_yes (v := ?_) 6 rfl (by kernel_rfl) (by kernel_rfl) (by kernel_rfl) (fun _ _ _ h => h) (by rfl) (by assumption) ?_ ?_; rotate_left; (focus ((intro w hSw); (try dsimp only at hSw); go_simp; (try with_reducible rfl))); (try simp only [Act.put, List.setIfInBounds_toArray, List.set_cons_zero, List.set_cons_succ])); (refine held_yes (v := ?_) 7 rfl (by kernel_rfl) (by kernel_rfl) (by kernel_rfl) (fun _ _ _ h => h) (by rfl) (by assumption) ?_ ?_; rotate_left; (focus ((intro w hSw); (try dsimp only at hSw); go_simp; (try with_reducible rfl))); (try simp only [Act.put, List.setIfInBounds_toArray, List.set_cons_zero, List.set_cons_succ])); (refine held_yes (v := ?_) 8 rfl (by kernel_rfl) (by kernel_rfl) (by kernel_rfl) (fun _ _ _ h => h) (by rfl) (by assumption) ?_ ?_; rotate_left; (focus ((intro w hSw); (try dsimp only at hSw); go_simp; (try with_reducible rfl))); (try simp only [Act.put, List.setIfInBounds_toArray, List.set_cons_zero, List.set_cons_succ])); (refine held_yes (v := ?_) 9 rfl (by kernel_rfl) (by kernel_rfl) (by kernel_rfl) (fun _ _ _ h => h) (by rfl) (by assumption) ?_ ?_; rotate_left; (focus ((intro w hSw); (try dsimp only at hSw); go_simp; (try with_reducible rfl))); (try simp only [Act.put, List.setIfInBounds_toArray, List.set_cons_zero, List.set_cons_succ])); (refine held_yes (v := ?_) 10 rfl (by kernel_rfl) (by kernel_rfl) (by kernel_rfl) (fun _ _ _ h => h) (by rfl) (by assumption) ?_ ?_; rotate_left; (focus ((intro w hSw); (try dsimp only at hSw); go_simp; (try with_reducible rfl))); (try simp only [Act.put, List.setIfInBounds_toArray, List.set_cons_zero, List.set_cons_succ])); (refine held_yes (v := ?_) 11 rfl (by kernel_rfl) (by kernel_rfl) (by kernel_rfl) (fun _ _ _ h => h) (by rfl) (by assumption) ?_ ?_; rotate_left; (focus ((intro w hSw); (try dsimp only at hSw); go_simp; (try with_reducible rfl))); (try simp only [Act.put, List.setIfInBounds_toArray, List.set_cons_zero, List.set_cons_succ])); (refine held_yes (v := ?_) 13 rfl (by kernel_rfl) (by kernel_rfl) (by kernel_rfl) (fun _ _ _ h => h) (by rfl) (by assumption) ?_ ?_; rotate_left; (focus ((intro w hSw); (try dsimp only at hSw); go_simp; (try with_reducible rfl))); (try simp only [Act.put, List.setIfInBounds_toArray, List.set_cons_zero, List.set_cons_succ])); (refine held_yes (v := ?_) 14 rfl (by kernel_rfl) (by kernel_rfl) (by kernel_rfl) (fun _ _ _ h => h) (by rfl) (by assumption) ?_ ?_; rotate_left; (focus ((intro w hSw); (try dsimp only at hSw); go_simp; (try with_reducible rfl))); (try simp only [Act.put, List.setIfInBounds_toArray, List.set_cons_zero, List.set_cons_succ])); (refine held_yes (v := ?_) 15 rfl (by kernel_rfl) (by kernel_rfl) (by kernel_rfl) (fun _ _ _ h => h) (by rfl) (by assumption) ?_ ?_; rotate_left; (focus ((intro w hSw); (try dsimp only at hSw); go_simp; (try with_reducible rfl))); (try simp only [Act.put, List.setIfInBounds_toArray, List.set_cons_zero, List.set_cons_succ])); (refine held_yes (v := ?_) 16 rfl (by kernel_rfl) (by kernel_rfl) (by kernel_rfl) (fun _ _ _ h => h) (by rfl) (by assumption) ?_ ?_; rotate_left; (focus ((intro w hSw); (try dsimp only at hSw); go_simp; (try with_reducible rfl))); (try simp only [Act.put, List.setIfInBounds_toArray, List.set_cons_zero, List.set_cons_succ]))
  (refine held_call 12 rfl (by kernel_rfl) (fun K hK => ?_); go_simp)
  go_at_call 13; refine (R1.out _ HN.t).mono ?_; rintro e wk1 ⟨rfl, hbq⟩; have HN := HN.later hbq; clear hbq
  (refine hK.out _ _ (⟨HN.o.a.1, HN.x.1, HN.y.1⟩) (fun hHeld => ?_); clear hK K; (try simp only [Act.put, List.setIfInBounds_toArray, List.set_cons_zero, List.set_cons_succ]))
  (refine held_call 17 rfl (by kernel_rfl) (fun K hK => ?_); go_simp)
  go_at_call 14; refine (R2.out _ _ _ HN.ra HN.rb).mono ?_; rintro e wk2 ⟨rfl, hbq⟩; have HN := HN.later hbq; clear hbq
  (refine hK.out _ _ (⟨HN.o.a.1, HN.x.1, HN.y.1⟩) (fun hHeld => ?_); clear hK K; (try simp only [Act.put, List.setIfInBounds_toArray, List.set_cons_zero, List.set_cons_succ]))
  (refine held_yes (v := ?_) 18 rfl (by kernel_rfl) (by kernel_rfl) (by kernel_rfl) (fun _ _ _ h => h) (by rfl) (by assumption) ?_ ?_; rotate_left; (focus ((intro w hSw); (try dsimp only at hSw); go_simp; (try with_reducible rfl))); (try simp only [Act.put, List.setIfInBounds_toArray, List.set_cons_zero, List.set_cons_succ])); (refine held_yes (v := ?_) 19 rfl (by kernel_rfl) (by kernel_rfl) (by kernel_rfl) (fun _ _ _ h => h) (by rfl) (by assumption) ?_ ?_; rotate_left; (focus ((intro w hSw); (try dsimp only at hSw); go_simp; (try with_reducible rfl))); (try simp only [Act.put, List.setIfInBounds_toArray, List.set_cons_zero, List.set_cons_succ])); (refine held_yes (v := ?_) 20 rfl (by kernel_rfl) (by kernel_rfl) (by kernel_rfl) (fun _ _ _ h => h) (by rfl) (by assumption) ?_ ?_; rotate_left; (focus ((intro w hSw); (try dsimp only at hSw); go_simp; (try with_reducible rfl))); (try simp only [Act.put, List.setIfInBounds_toArray, List.set_cons_zero, List.set_cons_succ])); (refine held_yes (v := ?_) 21 rfl (by kernel_rfl) (by kernel_rfl) (by kernel_rfl) (fun _ _ _ h => h) (by rfl) (by assumption) ?_ ?_; rotate_left; (focus ((intro w hSw); (try dsimp only at hSw); go_simp; (try with_reducible rfl))); (try simp only [Act.put, List.setIfInBounds_toArray, List.set_cons_zero, List.set_cons_succ])); (refine held_yes (v := ?_) 23 rfl (by kernel_rfl) (by kernel_rfl) (by kernel_rfl) (fun _ _ _ h => h) (by rfl) (by assumption) ?_ ?_; rotate_left; (focus ((intro w hSw); (try dsimp only at hSw); go_simp; (try with_reducible rfl))); (try simp only [Act.put, List.setIfInBounds_toArray, List.set_cons_zero, List.set_cons_succ])); (refine held_yes (v := ?_) 24 rfl (by kernel_rfl) (by kernel_rfl) (by kernel_rfl) (fun _ _ _ h => h) (by rfl) (by assumption) ?_ ?_; rotate_left; (focus ((intro w hSw); (try dsimp only at hSw); go_simp; (try with_reducible rfl))); (try simp only [Act.put, List.setIfInBounds_toArray, List.set_cons_zero, List.set_cons_succ])); (refine held_yes (v := ?_) 25 rfl (by kernel_rfl) (by kernel_rfl) (by kernel_rfl) (fun _ _ _ h => h) (by rfl) (by assumption) ?_ ?_; rotate_left; (focus ((intro w hSw); (try dsimp only at hSw); go_simp; (try with_reducible rfl))); (try simp only [Act.put, List.setIfInBounds_toArray, List.set_cons_zero, List.set_cons_succ])); (refine held_yes (v := ?_) 26 rfl (by kernel_rfl) (by kernel_rfl) (by kernel_rfl) (fun _ _ _ h => h) (by rfl) (by assumption) ?_ ?_; rotate_left; (focus ((intro w hSw); (try dsimp only at hSw); go_simp; (try with_reducible rfl))); (try simp only [Act.put, List.setIfInBounds_toArray, List.set_cons_zero, List.set_cons_succ])); (refine held_yes (v := ?_) 27 rfl (by kernel_rfl) (by kernel_rfl) (by kernel_rfl) (fun _ _ _ h => h) (by rfl) (by assumption) ?_ ?_; rotate_left; (focus ((intro w hSw); (try dsimp only at hSw); go_simp; (try with_reducible rfl))); (try simp only [Act.put, List.setIfInBounds_toArray, List.set_cons_zero, List.set_cons_succ]))
  (refine held_call 22 rfl (by kernel_rfl) (fun K hK => ?_); go_simp)
  go_at_call 15; refine (RS.out _ HN.t).mono ?_; rintro e wq ⟨rfl, rfl⟩
  (refine hK.out _ _ (⟨HN.o.a.1, HN.x.1, HN.y.1⟩) (fun hHeld => ?_); clear hK K; (try simp only [Act.put, List.setIfInBounds_toArray, List.set_cons_zero, List.set_cons_succ]))
  (refine held_yes (v := ?_) 28 rfl (by kernel_rfl) (by kernel_rfl) (by kernel_rfl) (fun _ _ _ h => h) (by rfl) (by assumption) ?_ ?_; rotate_left; (focus ((intro w hSw); (try dsimp only at hSw); go_simp; (try with_reducible rfl))); (try simp only [Act.put, List.setIfInBounds_toArray, List.set_cons_zero, List.set_cons_succ])); (refine held_yes (v := ?_) 29 rfl (by kernel_rfl) (by kernel_rfl) (by kernel_rfl) (fun _ _ _ h => h) (by rfl) (by assumption) ?_ ?_; rotate_left; (focus ((intro w hSw); (try dsimp only at hSw); go_simp; (try with_reducible rfl))); (try simp only [Act.put, List.setIfInBounds_toArray, List.set_cons_zero, List.set_cons_succ])); (refine held_yes (v := ?_) 30 rfl (by kernel_rfl) (by kernel_rfl) (by kernel_rfl) (fun _ _ _ h => h) (by rfl) (by assumption) ?_ ?_; rotate_left; (focus ((intro w hSw); (try dsimp only at hSw); go_simp; (try with_reducible rfl))); (try simp only [Act.put, List.setIfInBounds_toArray, List.set_cons_zero, List.set_cons_succ])); (refine held_yes (v := ?_) 31 rfl (by kernel_rfl) (by kernel_rfl) (by kernel_rfl) (fun _ _ _ h => h) (by rfl) (by assumption) ?_ ?_; rotate_left; (focus ((intro w hSw); (try dsimp only at hSw); go_simp; (try with_reducible rfl))); (try simp only [Act.put, List.setIfInBounds_toArray, List.set_cons_zero, List.set_cons_succ])); (refine held_yes (v := ?_) 34 rfl (by kernel_rfl) (by kernel_rfl) (by kernel_rfl) (fun _ _ _ h => h) (by rfl) (by assumption) ?_ ?_; rotate_left; (focus ((intro w hSw); (try dsimp only at hSw); go_simp; (try with_reducible rfl))); (try simp only [Act.put, List.setIfInBounds_toArray, List.set_cons_zero, List.set_cons_succ])); (refine held_yes (v := ?_) 35 rfl (by kernel_rfl) (by kernel_rfl) (by kernel_rfl) (fun _ _ _ h => h) (by rfl) (by assumption) ?_ ?_; rotate_left; (focus ((intro w hSw); (try dsimp only at hSw); go_simp; (try with_reducible rfl))); (try simp only [Act.put, List.setIfInBounds_toArray, List.set_cons_zero, List.set_cons_succ]))
  (refine held_call 32 rfl (by kernel_rfl) (fun K hK => ?_); go_simp)
  go_at_call 16; refine (PR.out _ HN.t).mono ?_; rintro e wq ⟨rfl, rfl⟩
  (refine hK.out _ _ (⟨HN.o.a.1, HN.x.1, HN.y.1⟩) (fun hHeld => ?_); clear hK K; (try simp only [Act.put, List.setIfInBounds_toArray, List.set_cons_zero, List.set_cons_succ]))
  (refine held_call 33 rfl (by kernel_rfl) (fun K hK => ?_); go_simp)
  go_at_call 17; refine (LE.out _ _ _ HN.t.ta).mono ?_; rintro e wq ⟨rfl, rfl⟩
  (refine hK.out _ _ (⟨HN.o.a.1, HN.x.1, HN.y.1⟩) (fun hHeld => ?_); clear hK K; (try simp only [Act.put, List.setIfInBounds_toArray, List.set_cons_zero, List.set_cons_succ]))
  (refine held_yes (v := ?_) 36 rfl (by kernel_rfl) (by kernel_rfl) (by kernel_rfl) (fun _ _ _ h => h) (by rfl) (by assumption) ?_ ?_; rotate_left; (focus ((intro w hSw); (try dsimp only at hSw); go_simp; (try with_reducible rfl))); (try simp only [Act.put, List.setIfInBounds_toArray, List.set_cons_zero, List.set_cons_succ])); (refine held_yes (v := ?_) 37 rfl (by kernel_rfl) (by kernel_rfl) (by kernel_rfl) (fun _ _ _ h => h) (by rfl) (by assumption) ?_ ?_; rotate_left; (focus ((intro w hSw); (try dsimp only at hSw); go_simp; (try with_reducible rfl))); (try simp only [Act.put, List.setIfInBounds_toArray, List.set_cons_zero, List.set_cons_succ])); (refine held_yes (v := ?_) 38 rfl (by kernel_rfl) (by kernel_rfl) (by kernel_rfl) (fun _ _ _ h => h) (by rfl) (by assumption) ?_ ?_; rotate_left; (focus ((intro w hSw); (try dsimp only at hSw); go_simp; (try with_reducible rfl))); (try simp only [Act.put, List.setIfInBounds_toArray, List.set_cons_zero, List.set_cons_succ])); (refine held_yes (v := ?_) 39 rfl (by kernel_rfl) (by kernel_rfl) (by kernel_rfl) (fun _ _ _ h => h) (by rfl) (by assumption) ?_ ?_; rotate_left; (focus ((intro w hSw); (try dsimp only at hSw); go_simp; (try with_reducible rfl))); (try simp only [Act.put, List.setIfInBounds_toArray, List.set_cons_zero, List.set_cons_succ])); (refine held_yes (v := ?_) 42 rfl (by kernel_rfl) (by kernel_rfl) (by kernel_rfl) (fun _ _ _ h => h) (by rfl) (by assumption) ?_ ?_; rotate_left; (focus ((intro w hSw); (try dsimp only at hSw); go_simp; (try with_reducible rfl))); (try simp only [Act.put, List.setIfInBounds_toArray, List.set_cons_zero, List.set_cons_succ])); (refine held_yes (v := ?_) 43 rfl (by kernel_rfl) (by kernel_rfl) (by kernel_rfl) (fun _ _ _ h => h) (by rfl) (by assumption) ?_ ?_; rotate_left; (focus ((intro w hSw); (try dsimp only at hSw); go_simp; (try with_reducible rfl))); (try simp only [Act.put, List.setIfInBounds_toArray, List.set_cons_zero, List.set_cons_succ]))
  (refine held_call 40 rfl (by kernel_rfl) (fun K hK => ?_); go_simp)
  go_at_call 18; refine (LK.out _ HN.t).mono ?_; rintro e wq ⟨rfl, rfl⟩
  (refine hK.out _ _ (⟨HN.o.a.1, HN.x.1, HN.y.1⟩) (fun hHeld => ?_); clear hK K; (try simp only [Act.put, List.setIfInBounds_toArray, List.set_cons_zero, List.set_cons_succ]))
  (refine held_call 41 rfl (by kernel_rfl) (fun K hK => ?_); go_simp)
  go_at_call 17; refine (LE.out _ _ _ HN.t.tb).mono ?_; rintro e wq ⟨rfl, rfl⟩
  (refine hK.out _ _ (⟨HN.o.a.1, HN.x.1, HN.y.1⟩) (fun hHeld => ?_); clear hK K; (try simp only [Act.put, List.setIfInBounds_toArray, List.set_cons_zero, List.set_cons_succ]))
  (refine held_yes (v := ?_) 44 rfl (by kernel_rfl) (by kernel_rfl) (by kernel_rfl) (fun _ _ _ h => h) (by rfl) (by assumption) ?_ ?_; rotate_left; (focus ((intro w hSw); (try dsimp only at hSw); go_simp; (try with_reducible rfl))); (try simp only [Act.put, List.setIfInBounds_toArray, List.set_cons_zero, List.set_cons_succ])); (refine held_yes (v := ?_) 45 rfl (by kernel_rfl) (by kernel_rfl) (by kernel_rfl) (fun _ _ _ h => h) (by rfl) (by assumption) ?_ ?_; rotate_left; (focus ((intro w hSw); (try dsimp only at hSw); go_simp; (try with_reducible rfl))); (try simp only [Act.put, List.setIfInBounds_toArray, List.set_cons_zero, List.set_cons_succ]))
  refine wpAnyH_done (by kernel_rfl) ?_ _
  have HN := Lib.hid HN
  clear HNe R1 R2
  go_wp2_with fail
  go_loopw [98] (fun i wr => ∃ n : Nat, n ≤ a.length ∧ i = .int .i64 n ∧ Hid (NumAt w #[.int .i64 k, .string h1, .string h2, .string who, .string s1, .string s2, .string s3, .string s4, .string via] #[.int .i64 k0, .int .i64 k1, .int .i64 k2, .int .i64 k3, .int .i64 k4, .int .i64 k5] t ba bb a b (.slice ao' a.length ac') (.slice bo' b.length bc') b10 b12 wr)) (fun i _ => a.length - (intOf i).toNat)
  case atStart => exact ⟨0, by omega, rfl, HN⟩
  case round =>
    clear HN
    obtain ⟨i, hi, rfl, HN⟩ := hrel
    by_cases hlt : i < a.length
    · go_wp2_with fail
      obtain ⟨wo, rfl⟩ : ∃ wo : World, wo = wr := ⟨_, rfl⟩
      go_loopw [103] (fun j wr => ∃ n : Nat, n ≤ b.length ∧ j = .int .i64 n ∧ Hid (NumAt w #[.int .i64 k, .string h1, .string h2, .string who, .string s1, .string s2, .string s3, .string s4, .string via] #[.int .i64 k0, .int .i64 k1, .int .i64 k2, .int .i64 k3, .int .i64 k4, .int .i64 k5] t ba bb a b (.slice ao' a.length ac') (.slice bo' b.length bc') b10 b12 wr)) (fun j _ => b.length - (intOf j).toNat)
      case atStart => exact ⟨0, by omega, rfl, HN⟩
      case round =>
        clear HN
        obtain ⟨j, hj, rfl, HN⟩ := hrel
        by_cases hjl : j < b.length
        · have HE := Lib.hid (roleAt_ij hlt hjl)
          have hij : i * b.length + j < a.length * b.length := by
            have : i * b.length + b.length ≤ a.length * b.length := by rw [← Nat.succ_mul]; exact Nat.mul_le_mul_right _ hlt
            omega
          have wr2 : IntKind.i64.wrap ((i : Int) * (b.length : Int)) = (i : Int) * (b.length : Int) := Go.IntWalk.i64_in _ (by rw [← Int.natCast_mul]; omega)
          have wr3 : IntKind.i64.wrap ((i : Int) * (b.length : Int) + (j : Int)) = (i : Int) * (b.length : Int) + (j : Int) := Go.IntWalk.i64_in _ (by rw [← Int.natCast_mul]; omega)
          have RA2 := Lib.hid (fun W (h : TblAt W t ba bb a b) => RA.out W ((i : Int) * (b.length : Int) + (j : Int)) (by rw [← Int.natCast_mul]; omega) h)
          rw [HE.out] at RA2
          have HNe : ∀ W, (binOp .neq 24 (.agg #[.string a[i], .string b[j]]) (.agg #[.string a[i], .string b[j]])).run Try.prog W = .ok (.bool false) W := fun W => (role_neq a[i] b[j] a[i] b[j] W).trans (by rw [eqRl_self]; rfl)
          clear HE hij
          obtain ⟨p1, o1, c1, he1, hc1, hm1, hb1, hx1⟩ := HN.out.ra.pos (by omega)
          simp only [Value.slice.injEq, true_and] at he1
          obtain ⟨rfl, rfl⟩ := he1
          obtain ⟨p2, o2, c2, he2, hc2, hm2, hb2, hx2⟩ := HN.out.rb.pos (by omega)
          simp only [Value.slice.injEq, true_and] at he2
          obtain ⟨rfl, rfl⟩ := he2
          have q1 := hx1 i _ (strs_get hlt)
          have q2 := hx2 j _ (strs_get hjl)
          clear hx1 hx2
          generalize a[i] = x1 at *
          generalize b[j] = x2 at *
          go_wp2_with fail
          refine wp_region_held_drew (S := (fun W => W.cell? ⟨p1, o1 + i, none⟩ = some (.string x1) ∧ W.cell? ⟨p2, o2 + j, none⟩ = some (.string x2))) (by kernel_rfl) (by rw [World.cell?_drew, World.cell?_drew]; exact ⟨q1, q2⟩) (fun hHeld => ?_)
          have HN := HN.out.later (below_drew (Below.refl _ _))
          have Q1 : (wr.drew).cell? ⟨p1, o1 + i, none⟩ = some (.string x1) := by rw [World.cell?_drew]; exact q1
          have Q2 : (wr.drew).cell? ⟨p2, o2 + j, none⟩ = some (.string x2) := by rw [World.cell?_drew]; exact q2
          have B1 : p1 < (wr.drew).heap.size := hb1
          have B2 : p2 < (wr.drew).heap.size := hb2
          obtain ⟨wk, hwk⟩ : ∃ W, W = wr.drew := ⟨_, rfl⟩
          rw [← hwk] at HN hHeld Q1 Q2 B1 B2 ⊢
          clear hwk q1 q2
          (refine held_yes (v := ?_) 0 rfl (by kernel_rfl) (by kernel_rfl) (by kernel_rfl) (fun _ _ _ h => h) (by rfl) (by assumption) ?_ ?_; rotate_left; (focus ((intro w hSw); (try dsimp only at hSw); go_simp; (try with_reducible rfl))); (try simp only [Act.put, List.setIfInBounds_toArray, List.set_cons_zero, List.set_cons_succ])); (refine held_yes (v := ?_) 1 rfl (by kernel_rfl) (by kernel_rfl) (by kernel_rfl) (fun _ _ _ h => h) (by rfl) (by assumption) ?_ ?_; rotate_left; (focus ((intro w hSw); (try dsimp only at hSw); go_simp; (try with_reducible rfl))); (try simp only [Act.put, List.setIfInBounds_toArray, List.set_cons_zero, List.set_cons_succ])); (refine held_yes (v := ?_) 2 rfl (by kernel_rfl) (by kernel_rfl) (by kernel_rfl) (fun _ _ _ h => h) (by rfl) (by assumption) ?_ ?_; rotate_left; (focus ((intro w hSw); (try dsimp only at hSw); go_simp; (try with_reducible rfl))); (try simp only [Act.put, List.setIfInBounds_toArray, List.set_cons_zero, List.set_cons_succ])); (refine held_yes (v := ?_) 3 rfl (by kernel_rfl) (by kernel_rfl) (by kernel_rfl) (fun _ _ _ h => h) (by rfl) (by assumption) ?_ ?_; rotate_left; (focus ((intro w hSw); (try dsimp only at hSw); go_simp; (try with_reducible rfl))); (try simp only [Act.put, List.setIfInBounds_toArray, List.set_cons_zero, List.set_cons_succ])); (refine held_yes (v := ?_) 4 rfl (by kernel_rfl) (by kernel_rfl) (by kernel_rfl) (fun _ _ _ h => h) (by rfl) (by assumption) ?_ ?_; rotate_left; (focus ((intro w hSw); (try dsimp only at hSw); go_simp; (try with_reducible rfl))); (try simp only [Act.put, List.setIfInBounds_toArray, List.set_cons_zero, List.set_cons_succ])); (refine held_yes (v := ?_) 5 rfl (by kernel_rfl) (by kernel_rfl) (by kernel_rfl) (fun _ _ _ h => h) (by rfl) (by assumption) ?_ ?_; rotate_left; (focus ((intro w hSw); (try dsimp only at hSw); go_simp; (try with_reducible rfl))); (try simp only [Act.put, List.setIfInBounds_toArray, List.set_cons_zero, List.set_cons_succ])); (refine held_yes (v := ?_) 6 rfl (by kernel_rfl) (by kernel_rfl) (by kernel_rfl) (fun _ _ _ h => h) (by rfl) (by assumption) ?_ ?_; rotate_left; (focus ((intro w hSw); (try dsimp only at hSw); go_simp; (try with_reducible rfl))); (try simp only [Act.put, List.setIfInBounds_toArray, List.set_cons_zero, List.set_cons_succ])); (refine held_yes (v := ?_) 8 rfl (by kernel_rfl) (by kernel_rfl) (by kernel_rfl) (fun _ _ _ h => h) (by rfl) (by assumption) ?_ ?_; rotate_left; (focus ((intro w hSw); (try dsimp only at hSw); go_simp; (try with_reducible rfl))); (try simp only [Act.put, List.setIfInBounds_toArray, List.set_cons_zero, List.set_cons_succ])); (refine held_yes (v := ?_) 9 rfl (by kernel_rfl) (by kernel_rfl) (by kernel_rfl) (fun _ _ _ h => h) (by rfl) (by assumption) ?_ ?_; rotate_left; (focus ((intro w hSw); (try dsimp only at hSw); go_simp; (try with_reducible rfl))); (try simp only [Act.put, List.setIfInBounds_toArray, List.set_cons_zero, List.set_cons_succ])); (refine held_yes (v := ?_) 10 rfl (by kernel_rfl) (by kernel_rfl) (by kernel_rfl) (fun _ _ _ h => h) (by rfl) (by assumption) ?_ ?_; rotate_left; (focus ((intro w hSw); (try dsimp only at hSw); go_simp; (try with_reducible rfl))); (try simp only [Act.put, List.setIfInBounds_toArray, List.set_cons_zero, List.set_cons_succ])); (refine held_yes (v := ?_) 11 rfl (by kernel_rfl) (by kernel_rfl) (by kernel_rfl) (fun _ _ _ h => h) (by rfl) (by assumption) ?_ ?_; rotate_left; (focus ((intro w hSw); (try dsimp only at hSw); go_simp; (try with_reducible rfl))); (try simp only [Act.put, List.setIfInBounds_toArray, List.set_cons_zero, List.set_cons_succ])); (refine held_yes (v := ?_) 12 rfl (by kernel_rfl) (by kernel_rfl) (by kernel_rfl) (fun _ _ _ h => h) (by rfl) (by assumption) ?_ ?_; rotate_left; (focus ((intro w hSw); (try dsimp only at hSw); go_simp; (try with_reducible rfl))); (try simp only [Act.put, List.setIfInBounds_toArray, List.set_cons_zero, List.set_cons_succ])); (refine held_yes (v := ?_) 13 rfl (by kernel_rfl) (by kernel_rfl) (by kernel_rfl) (fun _ _ _ h => h) (by rfl) (by assumption) ?_ ?_; rotate_left; (focus ((intro w hSw); (try dsimp only at hSw); go_simp; (try with_reducible rfl))); (try simp only [Act.put, List.setIfInBounds_toArray, List.set_cons_zero, List.set_cons_succ])); (refine held_yes (v := ?_) 14 rfl (by kernel_rfl) (by kernel_rfl) (by kernel_rfl) (fun _ _ _ h => h) (by rfl) (by assumption) ?_ ?_; rotate_left; (focus ((intro w hSw); (try dsimp only at hSw); go_simp; (try with_reducible rfl))); (try simp only [Act.put, List.setIfInBounds_toArray, List.set_cons_zero, List.set_cons_succ])); (refine held_yes (v := ?_) 15 rfl (by kernel_rfl) (by kernel_rfl) (by kernel_rfl) (fun _ _ _ h => h) (by rfl) (by assumption) ?_ ?_; rotate_left; (focus ((intro w hSw); (try dsimp only at hSw); go_simp; (try with_reducible rfl))); (try simp only [Act.put, List.setIfInBounds_toArray, List.set_cons_zero, List.set_cons_succ])); (refine held_yes (v := ?_) 16 rfl (by kernel_rfl) (by kernel_rfl) (by kernel_rfl) (fun _ _ _ h => h) (by rfl) (by assumption) ?_ ?_; rotate_left; (focus ((intro w hSw); (try dsimp only at hSw); go_simp; (try with_reducible rfl))); (try simp only [Act.put, List.setIfInBounds_toArray, List.set_cons_zero, List.set_cons_succ]))
          (refine held_call 7 rfl (by kernel_rfl) (fun K hK => ?_); go_simp)
          go_at_call 19; refine (RA2.out _ HN.t).mono ?_; rintro e wk1 ⟨rfl, hbq⟩; have HN := HN.later hbq; have Q1 := (hbq.cell (p := ⟨p1, o1 + i, none⟩) B1).trans Q1; have Q2 := (hbq.cell (p := ⟨p2, o2 + j, none⟩) B2).trans Q2; clear hbq
          (refine hK.out _ _ (⟨Q1, Q2⟩) (fun hHeld => ?_); clear hK K; (try simp only [Act.put, List.setIfInBounds_toArray, List.set_cons_zero, List.set_cons_succ]))
          (refine held_yes (v := ?_) 17 rfl (by kernel_rfl) (by kernel_rfl) (by kernel_rfl) (fun _ _ _ h => h) (by rfl) (by assumption) ?_ ?_; rotate_left; (focus ((intro w hSw); (try dsimp only at hSw); go_simp; (try with_reducible rfl))); (try simp only [Act.put, List.setIfInBounds_toArray, List.set_cons_zero, List.set_cons_succ]))
          refine wpAnyH_done (by kernel_rfl) ?_ _
          have HN := Lib.hid HN
          clear HNe RA2 Q1 Q2 B1 B2
          go_wp2_with fail
          exact ⟨⟨j + 1, by omega, by simp, HN⟩, by simp only [intOf]; omega⟩
        · go_wp2_with fail
          exact ⟨⟨i + 1, by omega, by simp, HN⟩, by simp only [intOf]; omega⟩
    · have HF := Lib.hid (fun W (h : TblAt W t ba bb a b) => RA.out W (-1) (by omega) h)
      have HG := Lib.hid (fun W (h : TblAt W t ba bb a b) => RA.out W ((a.length : Int) * (b.length : Int)) (by rw [← Int.natCast_mul]; omega) h)
      rw [roleAt_no (by omega), show noR = ⟨emp, emp⟩ from rfl] at HF
      rw [roleAt_no (by rw [← Int.natCast_mul]; omega), show noR = ⟨emp, emp⟩ from rfl] at HG
      have HE : ∀ W, (binOp .eql 24 (.agg #[.string emp, .string emp]) (.agg #[.string emp, .string emp])).run Try.prog W = .ok (.bool true) W := fun W => (role_eql emp emp emp emp W).trans (by rw [eqRl_self])
      go_wp2_with fail
      refine (HF.out _ HN.out.t).mono ?_
      rintro e wx ⟨rfl, hb⟩
      have HN := Lib.hid (HN.out.later hb)
      clear hb HF
      go_wp2_with fail
      refine (HG.out _ HN.out.t).mono ?_
      rintro e wx2 ⟨rfl, hb⟩
      have HN := Lib.hid (HN.out.later hb)
      clear hb HG
      go_wp2_with fail
      refine (LV.out _).mono ?_
      rintro e wx3 ⟨rfl, hb⟩
      have HN := Lib.hid (HN.out.later hb)
      clear hb LV
      go_wp2
      go_ret
      exact ⟨rfl, HN.out.o.low⟩
end Go.Proofs.Ythickpocfplcoaa
namespace Go.Proofs.Ythickpocfplcoaa
open Go.ChangeShapes Go.WideShapes Go.ChangeAt Go.RowKit

section
variable {H : Type} {enc : TypeId × Value → H} {w : World} {base fuel n : Nat} {sp : Nat → Bool} {held : Bool} {cs : List Value} {x : DataW H × List MemPlace} {v : Value} {d : DataW H} {ps : List MemPlace}
def dStr (H : Type) (s : ByteArray) : DataW H := .lit (.string s.data.toList)
def dRl (H : Type) (r : Rl) : DataW H := .agg [dStr H r.o, dStr H r.n]
def dSt (H : Type) (s : St) : DataW H := .agg [.lit (.int .i64 s.k), dRl H s.h, dStr H s.who, dRl H s.a, dRl H s.b, dStr H s.via]
/-- A statement whose parts are such as a world may hold. -/
def St.fits (s : St) : Prop := s.le maxLen ∧ (Lit.int IntKind.i64 s.k).wf = true

theorem two_of (h : cs.length = 2) : ∃ a b, cs = [a, b] := by
  match cs, h with
  | [a, b], _ => exact ⟨a, b, rfl⟩
theorem trod_role (h : DataW.trod enc Try.prog w base sp held fuel 24 cs = some x) : ∃ r : Rl, cs = r.cells ∧ x = (dRl H r, []) ∧ r.le maxLen := by
  obtain ⟨xs, n, _, rfl, hl, hlen, hf⟩ := DataW.trod_struct Try.underlying24 h
  have hc : Try.prog.cellsOf 24 = 2 := by kernel_rfl
  have hs : Try.prog.cellsOf 9 = 1 := by kernel_rfl
  rw [hc] at hl
  obtain ⟨a, b, rfl⟩ := two_of hl
  have f0 : DataW.trod enc Try.prog w base sp held n 9 [a] = xs[0]? := by simpa [hs] using hf 0 _ rfl
  have f1 : DataW.trod enc Try.prog w base sp held n 9 [b] = xs[1]? := by simpa [hs] using hf 1 _ rfl
  match xs, hlen with
  | [y0, y1], _ =>
    simp only [List.getElem?_cons_zero, List.getElem?_cons_succ] at f0 f1
    obtain ⟨s0, e0, g0, l0⟩ := DataW.trod_string Try.underlying9 f0
    obtain ⟨s1, e1, g1, l1⟩ := DataW.trod_string Try.underlying9 f1
    simp only [List.cons.injEq, and_true] at e0 e1
    subst e0 e1 g0 g1
    exact ⟨⟨s0, s1⟩, rfl, rfl, l0, l1⟩
theorem trod_role_mk (m : Nat) (r : Rl) (h : r.le maxLen) : DataW.trod enc Try.prog w base sp held (m + 2) 24 r.cells = some (dRl H r, []) := by
  have hs : Try.prog.cellsOf 9 = 1 := by kernel_rfl
  have hu : ∀ s : ByteArray, s.size ≤ maxLen → DataW.trod enc Try.prog w base sp held (m + 1) 9 [.string s] = some (dStr H s, []) := fun s hs => by
    simp [DataW.trod, Try.underlying9, hs, dStr]
  refine trod_struct2_mk (n := m + 1) (y0 := (dStr H r.o, [])) (y1 := (dStr H r.n, [])) Try.underlying24 (by kernel_rfl) ?_ ?_
  · rw [hs]; exact hu _ h.1
  · rw [hs]; exact hu _ h.2

theorem nine_of (h : cs.length = 9) : ∃ a b c d e f g i j, cs = [a, b, c, d, e, f, g, i, j] := by
  match cs, h with
  | [a, b, c, d, e, f, g, i, j], _ => exact ⟨a, b, c, d, e, f, g, i, j, rfl⟩
theorem trod_stmt (h : DataW.trod enc Try.prog w base sp held fuel 26 cs = some x) : ∃ s : St, cs = s.cells ∧ x = (dSt H s, []) ∧ s.fits := by
  obtain ⟨xs, n, _, rfl, hl, hlen, hf⟩ := DataW.trod_struct Try.underlying26 h
  have hc : Try.prog.cellsOf 26 = 9 := by kernel_rfl
  have hr : Try.prog.cellsOf 24 = 2 := by kernel_rfl
  have hi : Try.prog.cellsOf 3 = 1 := by kernel_rfl
  have hs : Try.prog.cellsOf 9 = 1 := by kernel_rfl
  rw [hc] at hl
  obtain ⟨c0, c1, c2, c3, c4, c5, c6, c7, c8, rfl⟩ := nine_of hl
  have f0 : DataW.trod enc Try.prog w base sp held n 3 [c0] = xs[0]? := by simpa [hi] using hf 0 _ rfl
  have f1 : DataW.trod enc Try.prog w base sp held n 24 [c1, c2] = xs[1]? := by simpa [hr] using hf 1 _ rfl
  have f2 : DataW.trod enc Try.prog w base sp held n 9 [c3] = xs[2]? := by simpa [hs] using hf 2 _ rfl
  have f3 : DataW.trod enc Try.prog w base sp held n 24 [c4, c5] = xs[3]? := by simpa [hr] using hf 3 _ rfl
  have f4 : DataW.trod enc Try.prog w base sp held n 24 [c6, c7] = xs[4]? := by simpa [hr] using hf 4 _ rfl
  have f5 : DataW.trod enc Try.prog w base sp held n 9 [c8] = xs[5]? := by simpa [hs] using hf 5 _ rfl
  match xs, hlen with
  | [y0, y1, y2, y3, y4, y5], _ =>
    simp only [List.getElem?_cons_zero, List.getElem?_cons_succ] at f0 f1 f2 f3 f4 f5
    obtain ⟨k, e0, g0, l0⟩ := DataW.trod_int Try.underlying3 f0
    obtain ⟨r1, e1, g1, l1⟩ := trod_role f1
    obtain ⟨s2, e2, g2, l2⟩ := DataW.trod_string Try.underlying9 f2
    obtain ⟨r3, e3, g3, l3⟩ := trod_role f3
    obtain ⟨r4, e4, g4, l4⟩ := trod_role f4
    obtain ⟨s5, e5, g5, l5⟩ := DataW.trod_string Try.underlying9 f5
    simp only [Rl.cells, List.cons.injEq, and_true] at e0 e1 e2 e3 e4 e5
    obtain ⟨rfl, rfl⟩ := e1
    obtain ⟨rfl, rfl⟩ := e3
    obtain ⟨rfl, rfl⟩ := e4
    subst e0 e2 e5 g0 g1 g2 g3 g4 g5
    exact ⟨⟨k, r1, s2, r3, r4, s5⟩, rfl, rfl, ⟨l1, l2, l3, l4, l5⟩, l0⟩
set_option maxRecDepth 100000 in
theorem open_stmt {r : Reach} {b0 : Nat} (hval : Value.okWide Try.prog w r b0 26 v) (hd : DataW.Trod enc Try.prog w base sp held 26 v d ps) :
    ∃ s : St, v = sv s ∧ d = dSt H s ∧ ps = [] ∧ s.fits := by
  obtain ⟨cs, rfl, _⟩ := okWide_struct Try.underlying26 hval
  obtain ⟨fuel, hf⟩ := hd
  obtain ⟨s, h, hx, hs⟩ := trod_stmt hf
  refine ⟨s, ?_, congrArg Prod.fst hx, congrArg Prod.snd hx, hs⟩
  obtain ⟨l⟩ := cs
  simp [Value.cells] at h
  rw [h]; rfl
theorem shut_stmt (s : St) (h : s.fits) : DataW.Trod enc Try.prog w base sp held 26 (sv s) (dSt H s) [] := by
  obtain ⟨⟨h1, h2, h3, h4, h5⟩, hk⟩ := h
  have hr : Try.prog.cellsOf 24 = 2 := by kernel_rfl
  have hi : Try.prog.cellsOf 3 = 1 := by kernel_rfl
  have hs : Try.prog.cellsOf 9 = 1 := by kernel_rfl
  have hu : ∀ s : ByteArray, s.size ≤ maxLen → DataW.trod enc Try.prog w base sp held 2 9 [.string s] = some (dStr H s, []) := fun s hs => by
    simp [DataW.trod, Try.underlying9, hs, dStr]
  have hn : DataW.trod enc Try.prog w base sp held 2 3 [.int .i64 s.k] = some (.lit (.int .i64 s.k), []) := trod_int_mk 1 Try.underlying3 hk
  refine ⟨3, ?_⟩
  have := trod_struct_mk (enc := enc) (w := w) (base := base) (spare := sp) (held := held) (n := 2) (cs := s.cells)
    (xs := [(.lit (.int .i64 s.k), []), (dRl H s.h, []), (dStr H s.who, []), (dRl H s.a, []), (dRl H s.b, []), (dStr H s.via, [])]) Try.underlying26 (by kernel_rfl) (by
      simp only [List.mapM_cons, List.mapM_nil, hr, hi, hs]
      have e1 := trod_role_mk (enc := enc) (w := w) (base := base) (sp := sp) (held := held) 0 s.h h1
      have e3 := trod_role_mk (enc := enc) (w := w) (base := base) (sp := sp) (held := held) 0 s.a h3
      have e4 := trod_role_mk (enc := enc) (w := w) (base := base) (sp := sp) (held := held) 0 s.b h4
      simp only [Rl.cells] at e1 e3 e4
      simp [St.cells, hn, hu _ h2, hu _ h5, e1, e3, e4])
  show DataW.trod enc Try.prog w base sp held 3 26 s.cells = some (dSt H s, [])
  simpa [dSt] using this
end
end Go.Proofs.Ythickpocfplcoaa
namespace Go.Proofs.Ythickpocfplcoaa
open Go.ChangeShapes Go.WideShapes Go.ChangeAt Go.RowKit Go.Deep

theorem laid_out : laidOutB Try.prog = true := by kernel_rfl
set_option maxRecDepth 100000 in
theorem open_sts {H : Type} {enc : TypeId × Value → H} {w : World} {base b0 : Nat} {held : Bool} {r : Reach} {v : Value} {d : DataW H} {ps : List MemPlace} (hval : Value.okWide Try.prog w r b0 51 v)
    (hd : DataW.Trod enc Try.prog w base (fun _ => true) held 51 v d ps) : ∃ l : List St, SlA w 9 v l.length (l.flatMap St.cells) ∧ ∀ s ∈ l, s.fits := by
  obtain ⟨a0, len, cap, rfl⟩ := okWide_slice Try.underlying51 hval
  obtain ⟨fuel, hf⟩ := hd
  have hc : Try.prog.cellsOf 26 = 9 := by kernel_rfl
  rcases open_slice Try.underlying51 hf with ⟨hcs, _⟩ | ⟨a, len', cap', m, n, D, Pl, hcs, _, hl, hm, hmm, _, hx⟩
  · simp [Value.cells] at hcs
    obtain ⟨rfl, rfl, rfl⟩ := hcs
    exact ⟨[], (Sl.nil _ _).a, fun s hs => by cases hs⟩
  · simp [Value.cells] at hcs
    obtain ⟨rfl, rfl, rfl⟩ := hcs
    simp only [if_true] at hmm
    subst hmm
    rw [hc] at hx
    have hex : ∀ i, i < m → ∃ s : St, w.cells? base (a.add (i * 9)) 9 = some s.cells ∧ s.fits := by
      intro i hi
      obtain ⟨cs', h1, h2⟩ := hx i hi
      obtain ⟨s, rfl, _, hs⟩ := trod_stmt h2
      exact ⟨s, h1, hs⟩
    obtain ⟨S, hS⟩ := choose_lt hex
    obtain ⟨b, off, spot⟩ := a
    by_cases h0 : 0 < len
    · have c0 := (World.cells?_some (hS 0 (by omega)).1).2.2 0 (by omega)
      have hspot : spot = none := by simpa [Addr.add] using World.cell?_spot (c0.trans rfl)
      subst hspot
      have hlen : ((List.range len).map S).length = len := by simp
      have hcell : ∀ j u, (((List.range len).map S).flatMap St.cells)[j]? = some u → w.cell? ⟨b, off + j, none⟩ = some u := by
        intro j u hu
        have hj : j < len * 9 := by
          have := (List.getElem?_eq_some_iff.1 hu).1
          rwa [flat_len St.cells 9 St.cells_len, hlen] at this
        have hf9 : j % 9 < 9 := Nat.mod_lt _ (by decide)
        have hi : j / 9 < len := by omega
        have e : j = j / 9 * 9 + j % 9 := by omega
        rw [e, flat_get St.cells 9 St.cells_len _ (j / 9) (j % 9) hf9 (S (j / 9)) (by simp [hi])] at hu
        have h1 := (World.cells?_some (hS (j / 9) (by omega)).1).2.2 (j % 9) hf9
        rw [add_add, add_plain, ← e] at h1
        exact h1.trans hu
      refine ⟨(List.range len).map S, .inl ?_, fun s hs => ?_⟩
      · rw [hlen]
        refine ⟨by rw [flat_len St.cells 9 St.cells_len, hlen], by omega, .inr ⟨b, off, m, rfl, hl, hm, ?_, hcell⟩⟩
        have h2 := hcell 0 (.int .i64 (S 0).k) (by
          have := flat_get St.cells 9 St.cells_len ((List.range len).map S) 0 0 (by omega) (S 0) (by simp [h0])
          have e : (0 : Nat) * 9 + 0 = 0 := rfl
          rw [e] at this
          exact this.trans rfl)
        exact World.block_lt_of_cell? _ _ h2
      · obtain ⟨i, hi, rfl⟩ := List.mem_map.1 hs
        exact (hS i (by have := List.mem_range.1 hi; omega)).2
    · have hl0 : len = 0 := by omega
      subst hl0
      exact ⟨[], .inr ⟨⟨_, _, rfl⟩, rfl, rfl⟩, fun s hs => by cases hs⟩
end Go.Proofs.Ythickpocfplcoaa
