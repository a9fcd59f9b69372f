/- crupperlaw41.lives. Package state's Reaches, and the reference's MayCome and Reaches. The reference's Reaches. The statement HighHolds: the walk of the law (printed by gen_law12h.py). What holds in the least, or the greatest, state is so in every state that is reached; what may not be in none. The rows of a policy that may be are short. matrix.Facts: what of rows holds (printed by gen_matfacts.py). crupperref13.Satisfies, In: as walks (printed by gen_ref13.py). The statement MatrixHolds: the walk of the law. crupperref04.SameAll: rows of facts of the same (printed by gen_refqs.py). Roles and statements among a law's arguments: opened to data, and read again in a later world. Rows of statements among a law's arguments: opened. Policies among a law's arguments: opened. Rows of the matrix among a law's arguments: opened, with their weights. -/
import Derived.Test.YtcmdhfccdkjenaaGreatDoorPart16
import Derived.Test.YtcmdhfccdkjenaaGreatDoorPart13
import Derived.Test.YtcmdhfccdkjenaaGreatDoorPart14
import Derived.Test.YtcmdhfccdkjenaaGreatDoorPart8
import Derived.Test.YtcmdhfccdkjenaaGreatDoorPart9
import Derived.Test.YtcmdhfccdkjenaaGreatDoorPart5
import Derived.ProofKit
import Derived.OpenShut
import Derived.ChangeMaps5
import Derived.Deep.Strs
import Derived.Test.YtcmdhfccdkjenaaGreatDoorPart3
import Derived.Deep.Slices
import Derived.SizedLaws
namespace Go.Proofs.YtcmdhfccdkjenaaGreatDoor
open Go.RowKit Go.Shelf

theorem ex41_fits {x : MV} (h : x.s = ⟨r12, [b13], [b13], false, 1⟩) : x.fits := by
  have hb : ∀ s ∈ [b13], s.size ≤ 40 := fun s hs => by rw [List.mem_singleton.1 hs]; decide
  refine ⟨?_, ?_, ?_, ?_, ?_⟩ <;> rw [h]
  · exact ⟨by decide, by decide⟩
  · exact hb
  · exact hb
  · decide
  · decide
structure Ex41R (w : World) (v : Value) (R : List MV) : Prop where
  sl : Sl w 6 v R.length (R.flatMap MV.cells)
  rows : RowsIn w R
  two : R.length = 2
  one : ∀ x ∈ R, x.s.r = r12 → x.s = ⟨r12, [b13], [b13], false, 1⟩
  ex : ∃ x ∈ R, x.s.r = r12
theorem Ex41R.below {w w' : World} {v : Value} {R : List MV} (h : Ex41R w v R) (hb : Below w.heap.size w w') : Ex41R w' v R := ⟨h.sl.below hb, h.rows.below hb, h.two, h.one, h.ex⟩
theorem ex41_Of {w : World} {a0 a1 a2 : Nat} (hT : TB w) (h1 : Sl w 9 (.slice (some ⟨a0, 0, none⟩) 1 1) 1 ([s12].flatMap St.cells)) (h2 : Sl w 2 (.slice (some ⟨a1, 0, none⟩) 1 1) 1 ([r12].flatMap Rl.cells)) (h3 : Sl w 2 (.slice (some ⟨a2, 0, none⟩) 1 1) 1 ([r12].flatMap Rl.cells)) :
    Calls Tryz.prog 49 #[pv (.slice (some ⟨a0, 0, none⟩) 1 1) (.slice (some ⟨a1, 0, none⟩) 1 1) (.slice (some ⟨a2, 0, none⟩) 1 1) (.slice none 0 0)] w fun e w' => ∃ v R, e = .returned (.tuple #[v, .int .i64 0]) ∧ Ex41R w' v R ∧ Below w.heap.size w w' := by
  obtain ⟨ps, hps⟩ := least_ex (minS [s12] [r12])
  obtain ⟨es, hes⟩ := least_ex (maxS [s12] [r12] P12 N12)
  have e1 : newB (allPrins [s12] [r12] [r12] [] F12) = P12 := by kernel_rfl
  have e2 : newB (allNames [s12] [r12] [r12] []) = N12 := by kernel_rfl
  have hr := ex41_row hps hes
  have := matq_Of (ex41_in hT h1 h2 h3) ex41_right ps es hps (by rw [e1, e2]; exact hes)
  rw [e1, e2] at this
  refine this.mono ?_
  rintro e w' ⟨v, R, rfl, hs, hrow, hmap, hb⟩
  refine ⟨v, R, rfl, ⟨hs, hrow, ?_, ?_, ?_⟩, hb⟩
  · have := congrArg List.length hmap
    rw [List.length_map, List.length_map] at this
    rw [this]; rfl
  · intro x hx hxr
    have hm : x.s ∈ (allR P12 N12).map (rowM ps es (freshB P12)) := by rw [← hmap]; exact List.mem_map.2 ⟨x, hx, rfl⟩
    obtain ⟨r, _, hrx⟩ := List.mem_map.1 hm
    have hrr : r = r12 := by rw [← hxr, ← hrx]; rfl
    rw [← hrx, hrr]
    exact hr
  · have hm : rowM ps es (freshB P12) r12 ∈ R.map MV.s := by
      rw [hmap]
      exact List.mem_map.2 ⟨r12, by unfold allR P12 N12 r12; simp, rfl⟩
    obtain ⟨x, hx, hxe⟩ := List.mem_map.1 hm
    exact ⟨x, hx, by rw [hxe]; rfl⟩
set_option maxRecDepth 100000 in
set_option maxHeartbeats 8000000 in
theorem law41_lives (w : World) (hT : TB w) : Calls Tryz.prog 48 #[] w fun e w' => e = .returned (.bool true) ∧ Below w.heap.size w w' := by
  have HTB := Lib.hid hT
  clear hT
  go_enter Tryz.func48, Tryz.ntmps48
  go_wp2_with fail
  obtain ⟨wb, hwb⟩ : ∃ V, V = ((((w.alloc (.cells #[.string ⟨#[65]⟩, .string ⟨#[114]⟩] 28)).alloc (.cells #[.int .i64 1, .string ⟨#[65]⟩, .string ⟨#[114]⟩, .string ⟨#[66]⟩, .string emp, .string emp, .string emp, .string emp, .string emp] 35)).alloc (.cells #[.string ⟨#[65]⟩, .string ⟨#[114]⟩] 28)).alloc (.cells #[.string ⟨#[65]⟩, .string ⟨#[114]⟩] 28)) := ⟨_, rfl⟩
  have FV := five_at w (.cells #[.string ⟨#[65]⟩, .string ⟨#[114]⟩] 28) (.cells #[.int .i64 1, .string ⟨#[65]⟩, .string ⟨#[114]⟩, .string ⟨#[66]⟩, .string emp, .string emp, .string emp, .string emp, .string emp] 35) (.cells #[.string ⟨#[65]⟩, .string ⟨#[114]⟩] 28) (.cells #[.string ⟨#[65]⟩, .string ⟨#[114]⟩] 28) (.cells #[] 28)
  rw [← hwb] at FV
  have hlow : Below w.heap.size w wb := by rw [hwb]; exact ((((Below.refl _ _).alloc (Nat.le_refl _) _).alloc (by simp) _).alloc (by simp; omega) _).alloc (by simp; omega) _
  have hbx : Below wb.heap.size wb (wb.alloc (.cells #[] 28)) := (Below.refl _ _).alloc (Nat.le_refl _) _
  have HR := Lib.hid (show Blk wb w.heap.size #[.string ⟨#[65]⟩, .string ⟨#[114]⟩] by rw [hwb]; exact (((Blk.new w _ _).alloc _).alloc _).alloc _)
  have HS1 := Lib.hid (show Sl wb 9 (.slice (some ⟨w.heap.size + 1, 0, none⟩) 1 1) 1 ([s12].flatMap St.cells) by
    rw [hwb]
    exact ((Sl.new (w.alloc (.cells #[.string ⟨#[65]⟩, .string ⟨#[114]⟩] 28)) ([s12].flatMap St.cells) 35 9 1 (w.heap.size + 1) (by simp) rfl (by decide)).below ((Below.refl _ _).alloc (Nat.le_refl _) _)).below ((Below.refl _ _).alloc (Nat.le_refl _) _))
  have HS2 := Lib.hid (show Sl wb 2 (.slice (some ⟨w.heap.size + 1 + 1, 0, none⟩) 1 1) 1 ([r12].flatMap Rl.cells) by
    rw [hwb]
    exact (Sl.new ((w.alloc (.cells #[.string ⟨#[65]⟩, .string ⟨#[114]⟩] 28)).alloc (.cells #[.int .i64 1, .string ⟨#[65]⟩, .string ⟨#[114]⟩, .string ⟨#[66]⟩, .string emp, .string emp, .string emp, .string emp, .string emp] 35)) ([r12].flatMap Rl.cells) 28 2 1 (w.heap.size + 1 + 1) (by simp) rfl (by decide)).below ((Below.refl _ _).alloc (Nat.le_refl _) _))
  have HS3 := Lib.hid (show Sl wb 2 (.slice (some ⟨w.heap.size + 1 + 1 + 1, 0, none⟩) 1 1) 1 ([r12].flatMap Rl.cells) by
    rw [hwb]
    exact Sl.new (((w.alloc (.cells #[.string ⟨#[65]⟩, .string ⟨#[114]⟩] 28)).alloc (.cells #[.int .i64 1, .string ⟨#[65]⟩, .string ⟨#[114]⟩, .string ⟨#[66]⟩, .string emp, .string emp, .string emp, .string emp, .string emp] 35)).alloc (.cells #[.string ⟨#[65]⟩, .string ⟨#[114]⟩] 28)) ([r12].flatMap Rl.cells) 28 2 1 (w.heap.size + 1 + 1 + 1) (by simp) rfl (by decide))
  have OF := Lib.hid (ex41_Of (HTB.out.below hlow) HS1.out HS2.out HS3.out)
  have HB := Lib.hid hlow
  rw [← hwb]
  clear hwb FV hlow hbx HS1 HS2 HS3
  refine OF.out.mono ?_
  rintro e w1 ⟨v, R, rfl, hx, hb1⟩
  have HX := Lib.hid hx
  have HR := Lib.hid (HR.out.below hb1)
  have HB := Lib.hid (HB.out.trans (hb1.mono HB.out.size))
  obtain ⟨va, vc, rfl⟩ := hx.sl.form
  clear hx hb1 OF
  obtain ⟨cr, fr, zr⟩ := HR.out
  go_wp2_with fail
  refine (mat_Find (.slice va R.length vc) R r12 w1 HX.out.sl.a HX.out.rows.form).mono ?_
  rintro e w2 ⟨hf, hb2⟩
  have HX := Lib.hid (HX.out.below hb2)
  have HB := Lib.hid (HB.out.trans (hb2.mono HB.out.size))
  clear hb2 cr fr zr
  rcases hf with ⟨_, hn⟩ | ⟨x, hx, hxr, rfl⟩
  · obtain ⟨x, hx, hxr⟩ := HX.out.ex
    exact absurd hxr (hn x hx)
  have hxs := HX.out.one x hx hxr
  have hok := HX.out.rows.ok x hx
  have hfm := HX.out.rows.form x hx
  have hba : Below w2.heap.size w2 (w2.alloc (.cells #[.string x.s.r.o, .string x.s.r.n, x.lv, x.hv, .bool x.s.op, .int .i64 x.s.k] 77)) := (Below.refl _ _).alloc (Nat.le_refl _) _
  have LN := Lib.hid (mat_Line x _ (hok.below hba) (ex41_fits hxs))
  have hle : lineM x.s = ⟨#[65, 46, 114, 32, 99, 108, 111, 115, 101, 100, 32, 66]⟩ := by rw [hxs]; exact ex41_line
  rw [hle] at LN
  clear hle
  have HB3 := Lib.hid (HB.out.trans (hba.mono HB.out.size))
  obtain ⟨⟨⟨x1, x2⟩, x3, x4, x5, x6⟩, x7, x8⟩ := x
  obtain ⟨⟨f1, f2, f3, e1⟩, ⟨f4, f5, f6, e2⟩⟩ := hfm
  dsimp only at e1 e2
  subst e1 e2
  have HW := Lib.hid (show Blk (w2.alloc (.cells #[.string x1, .string x2, .slice f1 f2 f3, .slice f4 f5 f6, .bool x5, .int .i64 x6] 77)) w2.heap.size #[.string x1, .string x2, .slice f1 f2 f3, .slice f4 f5 f6, .bool x5, .int .i64 x6] from Blk.new _ _ _)
  clear hx hxr hxs hok hba
  have h2i : ((R.length : Int) == 2) = true := by rw [HX.out.two]; rfl
  go_wp2_with fail
  refine LN.out.mono ?_
  rintro e w3 ⟨rfl, hb3⟩
  have HB := Lib.hid (HB3.out.trans (hb3.mono HB3.out.size))
  clear hb3 LN HB3
  go_wp2
  go_ret
  exact ⟨by first | rfl | simp, HB.out⟩
end Go.Proofs.YtcmdhfccdkjenaaGreatDoor
namespace Go.Proofs.YtcmdhfccdkjenaaGreatDoor
open Go.RowKit Go.Shelf

end Go.Proofs.YtcmdhfccdkjenaaGreatDoor
namespace Go.Proofs.YtcmdhfccdkjenaaGreatDoor
open Go.RowKit Go.Shelf

end Go.Proofs.YtcmdhfccdkjenaaGreatDoor
namespace Go.Proofs.YtcmdhfccdkjenaaGreatDoor
open Go.RowKit Go.Shelf

end Go.Proofs.YtcmdhfccdkjenaaGreatDoor
namespace Go.Proofs.YtcmdhfccdkjenaaGreatDoor
open Go.RowKit Go.Shelf

section
variable {M : Rl → List ByteArray} {q : Qv} {us : List ByteArray}
end
section
variable {w : World} {v0 v1 v2 v3 : Value} {l c : List St} {g h : List Rl} {qs : List Qv} {q : Qv} {us PS NS : List ByteArray}
end
end Go.Proofs.YtcmdhfccdkjenaaGreatDoor
namespace Go.Proofs.YtcmdhfccdkjenaaGreatDoor
open Go.RowKit Go.Shelf

section
variable {w : World} {v0 v1 v2 v3 : Value} {l : List St} {g h : List Rl} {qs : List Qv} {F : Qv → List ByteArray} {PS NS : List ByteArray}
end
end Go.Proofs.YtcmdhfccdkjenaaGreatDoor
namespace Go.Proofs.YtcmdhfccdkjenaaGreatDoor
open Go.RowKit Go.Shelf

structure FQ where
  k : Int
  r : Rl
  us : List ByteArray
structure FV where
  s : FQ
  wv : Value
def FV.cells (x : FV) : List Value := [.int .i64 x.s.k, .string x.s.r.o, .string x.s.r.n, .string emp, .string emp, x.wv]
theorem FV.cells_len (x : FV) : x.cells.length = 6 := rfl
def factsOf (x : MR) : List FQ := (if x.lo.length = 0 then [] else [⟨1, x.r, x.lo.take (min x.lo.length 12)⟩]) ++ (if x.k ≠ 3 ∧ x.hi.length ≤ 12 then [⟨3, x.r, x.hi⟩] else [])
def factsM (R : List MR) : List FQ := R.flatMap factsOf
theorem facts_snoc {R : List MR} {j : Nat} (hj : j < R.length) : factsM (R.take (j + 1)) = factsM (R.take j) ++ factsOf R[j] := by
  unfold factsM
  rw [List.take_succ_eq_append_getElem hj, List.flatMap_append]
  simp
theorem factsOf_len (x : MR) : (factsOf x).length ≤ 2 := by
  unfold factsOf
  rw [List.length_append]
  have h1 : (if x.lo.length = 0 then ([] : List FQ) else [⟨1, x.r, x.lo.take (min x.lo.length 12)⟩]).length ≤ 1 := by split <;> simp
  have h2 : (if x.k ≠ 3 ∧ x.hi.length ≤ 12 then [(⟨3, x.r, x.hi⟩ : FQ)] else []).length ≤ 1 := by split <;> simp
  omega
theorem factsM_len : ∀ R : List MR, (factsM R).length ≤ R.length * 2
  | [] => by simp [factsM]
  | x :: R => by
    have h1 := factsM_len R
    have h2 := factsOf_len x
    unfold factsM at h1 ⊢
    rw [List.flatMap_cons, List.length_append, List.length_cons]
    omega
def FactsIn (w : World) (T : List FV) : Prop := ∀ x ∈ T, w.ownsRow 0 9 1 x.wv x.s.us.length (strs x.s.us)
theorem FactsIn.below {w w' : World} {T : List FV} (h : FactsIn w T) (hb : Below w.heap.size w w') : FactsIn w' T := fun x hx => own_below (h x hx) hb
theorem FactsIn.far {w w' : World} {T : List FV} {B n size : Nat} {v : Value} {xs : List Value} (h : FactsIn w T) (ho : w.ownsRow B 45 size v n xs) (hg : w.grownBy w' v.ownBlock) : FactsIn w' T := fun x hx => own_far (h x hx) ho hg (by decide)
theorem FactsIn.snoc {w : World} {T : List FV} {x : FV} (h : FactsIn w T) (h1 : w.ownsRow 0 9 1 x.wv x.s.us.length (strs x.s.us)) : FactsIn w (T ++ [x]) := fun y hy => by
  rcases List.mem_append.1 hy with hy | hy
  · exact h y hy
  · rw [List.mem_singleton.1 hy]; exact h1
theorem qy_info : (Tryz.prog.info? 45).map (fun i => (i.zero, i.size, i.bytes)) = some (some (.agg #[.int .i64 0, .string emp, .string emp, .string emp, .string emp, .slice none 0 0]), 6, 96) := by kernel_rfl
theorem SlA.front {w : World} {a : Option Addr} {c : Nat} {xs : List ByteArray} {n : Nat} (h : SlA w 1 (.slice a xs.length c) xs.length (strs xs)) (hn : n ≤ xs.length) : SlA w 1 (.slice a n c) n (strs (xs.take n)) := by
  by_cases h0 : 0 < xs.length
  · obtain ⟨b, o, c', e, h1, h2, h3, h4⟩ := h.pos h0
    simp only [Value.slice.injEq, true_and] at e
    obtain ⟨rfl, rfl⟩ := e
    refine .inl ⟨by rw [strs_len, List.length_take]; omega, by simp only [maxLen]; omega, .inr ⟨b, o, c, rfl, by omega, by simpa [maxLen] using h2, h3, fun j u hu => ?_⟩⟩
    have hj : j < (strs (xs.take n)).length := (List.getElem?_eq_some_iff.1 hu).1
    rw [strs_len, List.length_take] at hj
    refine h4 j u ?_
    unfold strs at hu ⊢
    rw [List.getElem?_map, List.getElem?_take] at hu
    rw [List.getElem?_map]
    split at hu
    · exact hu
    · cases hu
  · have hx : xs = [] := List.eq_nil_of_length_eq_zero (by omega)
    subst hx
    have hn0 : n = 0 := by simpa using hn
    subst hn0
    exact h
theorem fv_take : ∀ (k : Nat) (T : List FV), (T.take k).flatMap FV.cells = (T.flatMap FV.cells).take (k * 6)
  | 0, T => by simp
  | k + 1, [] => by simp
  | k + 1, x :: T => by
    have h := fv_take k T
    rw [List.take_succ_cons, List.flatMap_cons, List.flatMap_cons, h, show (k + 1) * 6 = x.cells.length + k * 6 by rw [FV.cells_len]; omega, List.take_length_add_append]
theorem Sl.front {w : World} {size n k c : Nat} {a : Option Addr} {xs : List Value} (h : Sl w size (.slice a n c) n xs) (hk : k ≤ n) : Sl w size (.slice a k c) k (xs.take (k * size)) := by
  have hm : k * size ≤ n * size := Nat.mul_le_mul_right _ hk
  refine ⟨by rw [List.length_take, h.1]; omega, Nat.le_trans hk h.2.1, ?_⟩
  rcases h.2.2 with ⟨e, e0⟩ | ⟨b, o, c', e, h1, h2, h3, h4⟩
  · simp only [Value.slice.injEq] at e
    obtain ⟨rfl, _, rfl⟩ := e
    have : k = 0 := by omega
    subst this
    exact .inl ⟨rfl, rfl⟩
  · simp only [Value.slice.injEq, true_and] at e
    obtain ⟨rfl, rfl⟩ := e
    refine .inr ⟨b, o, c, rfl, by omega, h2, h3, fun j u hu => h4 j u ?_⟩
    rw [List.getElem?_take] at hu
    split at hu
    · exact hu
    · cases hu
theorem take_min {α : Type} {l : List α} {n m : Nat} (h : n = min l.length m) : l.take n = l.take m := by
  subst h
  by_cases hm : m ≤ l.length
  · rw [Nat.min_eq_right hm]
  · rw [Nat.min_eq_left (by omega), List.take_of_length_le (Nat.le_refl _), List.take_of_length_le (by omega)]
def FactsP (w : World) (R : List MV) (most : Int) (e : Ending) (w' : World) : Prop := ∃ (v' : Value) (T : List FV), e = .returned v' ∧ Sl w' 6 v' T.length (T.flatMap FV.cells) ∧ FactsIn w' T ∧ T.map FV.s = (factsM (R.map MV.s)).take (max 0 (min most 1000)).toNat ∧ Below w.heap.size w w'
set_option maxRecDepth 100000 in
set_option maxHeartbeats 16000000 in
theorem mat_Facts (v : Value) (R : List MV) (most : Int) (w : World) (hm : -9223372036854775808 ≤ most ∧ most ≤ 9223372036854775807) (hR : SlA w 6 v R.length (R.flatMap MV.cells)) (hok : ∀ x ∈ R, x.ok w) (hf : ∀ x ∈ R, x.s.lo.length ≤ 10000 ∧ x.s.hi.length ≤ 10000) (hn : R.length ≤ 1000) :
    Calls Tryz.prog 58 #[v, .int .i64 most] w (FactsP w R most) := by
  have HR := Lib.hid hR
  have HK := Lib.hid hok
  have HFL := Lib.hid hf
  obtain ⟨va, vc, rfl⟩ := hR.form
  obtain ⟨qinf, hqi, qs0, qs1, qs2⟩ := info_parts qy_info
  have HQI := Lib.hid hqi
  clear hR hok hf hqi
  go_enter Tryz.func58, Tryz.ntmps58
  go_wp2_with fail
  go_loopw [4, 10] (fun vo i wr => ∃ (j : Nat) (T : List FV), j ≤ R.length ∧ i = .int .i64 j ∧ Hid (T.map FV.s = factsM ((R.map MV.s).take j)) ∧ Hid (Below w.heap.size w wr) ∧ Hid (wr.ownsRow w.heap.size 45 6 vo T.length (T.flatMap FV.cells)) ∧ Hid (FactsIn wr T)) (fun _ i _ => R.length - (intOf i).toNat)
  case atStart => exact ⟨0, [], by omega, rfl, Lib.hid rfl, Lib.hid (Below.refl _ _), Lib.hid (World.ownsRow_nil _ _ _ _), Lib.hid (fun _ hx => by cases hx)⟩
  case round =>
    obtain ⟨j, T0, hj, rfl, HTE, HB, HO, HF⟩ := hrel
    obtain ⟨oo, oc, rfl⟩ := own_form HO.out
    have hT0 : T0.length ≤ 2000 := by
      have h1 := congrArg List.length HTE.out
      have h2 := factsM_len ((R.map MV.s).take j)
      have h3 : ((R.map MV.s).take j).length ≤ (R.map MV.s).length := by rw [List.length_take]; omega
      rw [List.length_map] at h1 h3
      omega
    by_cases hlt : j < R.length
    · obtain ⟨b1, o1, c1', he1, hc1, hm1, hb1', hx1⟩ := (HR.out.below HB.out).pos (by omega)
      simp only [Value.slice.injEq, true_and] at he1
      obtain ⟨rfl, rfl⟩ := he1
      obtain ⟨p0, p1, p2, p3, p4, p5⟩ := mv_cell hx1 j hlt
      have hxk := HK.out R[j] (List.getElem_mem hlt)
      have hfl := HFL.out R[j] (List.getElem_mem hlt)
      have FS := Lib.hid (show factsM ((R.map MV.s).take (j + 1)) = factsM ((R.map MV.s).take j) ++ factsOf R[j].s by have := facts_snoc (R := R.map MV.s) (j := j) (by rw [List.length_map]; exact hlt); rw [List.getElem_map] at this; exact this)
      clear hx1
      generalize R[j] = x at *
      obtain ⟨⟨⟨y1, y2⟩, lo, hi, op, k⟩, lv, hv⟩ := x
      obtain ⟨g1, g3, e1⟩ := hxk.1.form
      obtain ⟨g4, g6, e2⟩ := hxk.2.form
      dsimp only at e1 e2 p0 p1 p2 p3 p4 p5 FS hfl
      subst e1 e2
      have HLO := Lib.hid hxk.1
      have HHI := Lib.hid hxk.2
      dsimp only at HLO HHI
      clear hxk
      obtain ⟨wa, hwa⟩ : ∃ V, V = wr.alloc (.cells #[.string y1, .string y2, .slice g1 lo.length g3, .slice g4 hi.length g6, .bool op, .int .i64 k] 77) := ⟨_, rfl⟩
      obtain ⟨G, hG⟩ : ∃ G, G = wr.heap.size := ⟨_, rfl⟩
      have hba : Below wr.heap.size wr wa := by rw [hwa]; exact (Below.refl _ _).alloc (Nat.le_refl _) _
      have HG := Lib.hid (show CAt wa G #[.string y1, .string y2, .slice g1 lo.length g3, .slice g4 hi.length g6, .bool op, .int .i64 k] 77 by rw [hwa, hG]; exact heap_new1 _ _)
      have HB := Lib.hid (HB.out.trans (hba.mono HB.out.size))
      have HO := Lib.hid (own_below HO.out hba)
      have HF := Lib.hid (HF.out.below hba)
      go_upto_region 4 with fail
      rw [← hwa, ← hG]
      clear hwa hG hba p0 p1 p2 p3 p4 p5 hb1'
      obtain ⟨wr, hwr⟩ : ∃ W, W = wa := ⟨_, rfl⟩
      rw [← hwr] at HG HB HO HF ⊢
      clear hwr
      obtain ⟨n, hn12⟩ : ∃ n, n = min lo.length 12 := ⟨_, rfl⟩
      have hmin : min (lo.length : Int) 12 = (n : Int) := by omega
      have hnl : n ≤ lo.length ∧ n ≤ 12 := by omega
      have HN12 := Lib.hid hn12
      have hlz : ¬ 0 < n → lo.length = 0 := by omega
      clear hn12
      obtain ⟨cg, fg, zg⟩ := HG.out.blk
      by_cases h0 : 0 < n
      · have hlo : ¬ lo.length = 0 := by omega
        have hcap : n ≤ g3 := by
          obtain ⟨_, _, c9, e9, h9, _⟩ := HLO.out.pos (by omega)
          simp only [Value.slice.injEq, true_and] at e9
          omega
        go_upto_region 6 with fail
        clear cg fg zg
        go_wp2_with fail
        have hd := below_drew (Below.refl wr.heap.size wr)
        refine wp_region_held_drew (S := (fun W => ∀ o, W.cell? ⟨G, o, none⟩ = (#[.string y1, .string y2, .slice g1 lo.length g3, .slice g4 hi.length g6, .bool op, .int .i64 k] : Array Value)[o]?)) (by kernel_rfl) (HG.out.below hd).blk.1 (fun hHeld => ?_)
        have HG := Lib.hid (HG.out.below hd)
        have HB := Lib.hid (HB.out.trans (hd.mono HB.out.size))
        have HO := Lib.hid (own_below HO.out hd)
        have HF := Lib.hid (HF.out.below hd)
        obtain ⟨wk, hwk⟩ : ∃ W, W = wr.drew := ⟨_, rfl⟩
        rw [← hwk] at HG HB HO HF hHeld ⊢
        clear hwk hd
        (refine hyes 0 ?_); (refine hyes 1 ?_); (refine hyes 2 ?_); (refine hyes 3 ?_); (refine hyes 4 ?_); (refine hyes 5 ?_); (refine hyes 6 ?_); (try simp only [Act.put, List.setIfInBounds_toArray, List.set])
        (refine held_call 7 rfl (by kernel_rfl) (fun K hK => ?_); go_simp)
        refine (str_CloneO (.slice g1 n g3) (lo.take n) _ (by rw [show (lo.take n).length = n by rw [List.length_take]; omega]; exact (HLO.out.below HB.out).front (by omega)) (by rw [List.length_take]; omega)).mono ?_; rintro e wz1 ⟨vx, rfl, hox, hbq⟩
        rw [show (lo.take n).length = n by rw [List.length_take]; omega] at hox
        obtain ⟨xa, xc, rfl⟩ := own_form hox
        have HG := Lib.hid (HG.out.below hbq)
        have HB := Lib.hid (HB.out.trans (hbq.mono HB.out.size))
        have HO := Lib.hid (own_below HO.out hbq)
        have HF := Lib.hid (HF.out.below hbq)
        have HX := Lib.hid (own_mono hox (Nat.zero_le _))
        clear hbq hox
        (refine hK.out _ _ (HG.out.blk.1) (fun hHeld => ?_); clear hK K; (try simp only [Act.put, List.setIfInBounds_toArray, List.set]))
        (refine hyes 8 ?_); (try simp only [Act.put, List.setIfInBounds_toArray, List.set])
        (refine held_call 9 rfl (by kernel_rfl) (fun K hK => ?_); go_simp)
        obtain ⟨wn, hwn⟩ : ∃ V, V = wz1.alloc (.cells #[.int .i64 1, .string y1, .string y2, .string emp, .string emp, .slice xa n xc] 45) := ⟨_, rfl⟩
        obtain ⟨bn, hbn⟩ : ∃ b, b = wz1.heap.size := ⟨_, rfl⟩
        rw [← hwn, ← hbn]
        have hbq : Below wz1.heap.size wz1 wn := by rw [hwn]; exact (Below.refl _ _).alloc (Nat.le_refl _) _
        have HN := Lib.hid (show Sl wn 6 (.slice (some ⟨bn, 0, none⟩) 1 1) 1 [.int .i64 1, .string y1, .string y2, .string emp, .string emp, .slice xa n xc] by rw [hwn]; exact Sl.new wz1 [.int .i64 1, .string y1, .string y2, .string emp, .string emp, .slice xa n xc] 45 6 1 bn hbn rfl (by decide))
        have HG := Lib.hid (HG.out.below hbq)
        have HB := Lib.hid (HB.out.trans (hbq.mono HB.out.size))
        have HO := Lib.hid (own_below HO.out hbq)
        have HF := Lib.hid (HF.out.below hbq)
        have HX := Lib.hid (own_below HX.out hbq)
        clear hbq hwn hbn
        (refine hK.out _ _ (HG.out.blk.1) (fun hHeld => ?_); clear hK K; (try simp only [Act.put, List.setIfInBounds_toArray, List.set]))
        refine held_call 10 rfl (by kernel_rfl) (fun K hK => ?_)
        refine step_row rfl _ _ 24 rfl w.heap.size 45 qinf _ 6 96 Tryz.underlying24 HQI.out qs0 qs1 qs2 (by decide) rfl (by decide) _ T0.length _ rfl HO.out _ 1 _ rfl HN.out.a (by intro u hu; simp only [List.mem_cons, List.not_mem_nil, or_false] at hu; rcases hu with rfl | rfl | rfl | rfl | rfl | rfl <;> rfl) (by omega) HB.out.size ?_
        intro a5 c5 wc hown5 hg5
        have HG := Lib.hid (HG.out.grown HO.out hg5 (by decide))
        have HF := Lib.hid (HF.out.far HO.out hg5)
        have HX := Lib.hid (own_far HX.out HO.out hg5 (by decide))
        have HB := Lib.hid (below_own HB.out HO.out hg5 HB.out.size (Nat.le_refl _))
        have HF := Lib.hid (HF.out.snoc (x := ⟨⟨1, ⟨y1, y2⟩, lo.take n⟩, .slice xa n xc⟩) (by rw [show (lo.take n).length = n by rw [List.length_take]; omega]; exact HX.out))
        have HO := Lib.hid (show wc.ownsRow w.heap.size 45 6 (.slice a5 (T0.length + 1) c5) (T0 ++ [(⟨⟨1, ⟨y1, y2⟩, lo.take n⟩, .slice xa n xc⟩ : FV)]).length ((T0 ++ [(⟨⟨1, ⟨y1, y2⟩, lo.take n⟩, .slice xa n xc⟩ : FV)]).flatMap FV.cells) by rw [List.length_append, List.flatMap_append]; exact hown5)
        clear hg5 hown5 HN HX
        (refine hK.out _ _ (HG.out.blk.1) (fun hHeld => ?_); clear hK K; (try simp only [Act.put, List.setIfInBounds_toArray, List.set]))
        (refine hyes 11 ?_); (try simp only [Act.put, List.setIfInBounds_toArray, List.set])
        refine wpAnyH_done (by kernel_rfl) ?_ _
        clear hHeld
        obtain ⟨T1, hT2⟩ : ∃ t, t = T0 ++ [(⟨⟨1, ⟨y1, y2⟩, lo.take n⟩, .slice xa n xc⟩ : FV)] := ⟨_, rfl⟩
        have hTl : T1.length = T0.length + 1 := by rw [hT2, List.length_append]; rfl
        have HM := Lib.hid (show T1.map FV.s = T0.map FV.s ++ [⟨1, ⟨y1, y2⟩, lo.take n⟩] by rw [hT2, List.map_append]; rfl)
        rw [← hT2] at HF HO
        rw [← hTl] at HO ⊢
        have hTb : T1.length ≤ T0.length + 1 := by omega
        clear hT2 hTl
        obtain ⟨wr, hwr⟩ : ∃ W, W = wc := ⟨_, rfl⟩
        rw [← hwr] at HG HB HO HF ⊢
        clear hwr
        have HM1 := HM
        have hT1 : T1.length ≤ 2001 := by omega
        by_cases hk3 : k = 3
        · subst hk3
          have HFE := Lib.hid (show T0.map FV.s ++ factsOf ⟨⟨y1, y2⟩, lo, hi, op, 3⟩ = T1.map FV.s by unfold factsOf; rw [if_neg hlo, HM1.out, ← HN12.out]; rw [if_neg (show ¬ ((3 : Int) ≠ 3 ∧ hi.length ≤ 12) from fun h => h.1 rfl)]; simp)
          obtain ⟨cg, fg, zg⟩ := HG.out.blk
          go_wp2_with fail
          exact ⟨⟨j + 1, T1, by omega, by go_num, Lib.hid (by rw [FS.out, ← HFE.out, ← HTE.out]), HB, HO, HF⟩, by simp [intOf]; omega⟩
        · have d3 : (k != 3) = true := by simp [hk3]
          have d3b : (k == 3) = false := by simp [hk3]
          by_cases h12 : hi.length ≤ 12
          · have d12 : decide ((hi.length : Int) ≤ 12) = true := by rw [decide_eq_true_iff]; omega
            have HFE := Lib.hid (show ∀ q, q = (⟨3, ⟨y1, y2⟩, hi⟩ : FQ) → T0.map FV.s ++ factsOf ⟨⟨y1, y2⟩, lo, hi, op, k⟩ = T1.map FV.s ++ [q] from fun q hq => by subst hq; unfold factsOf; rw [if_neg hlo, HM1.out, ← HN12.out]; rw [if_pos ⟨hk3, h12⟩]; simp)
            clear hk3
            obtain ⟨cg, fg, zg⟩ := HG.out.blk
            go_wp2_with fail
            have hd := below_drew (Below.refl wr.heap.size wr)
            refine wp_region_held_drew (S := (fun W => ∀ o, W.cell? ⟨G, o, none⟩ = (#[.string y1, .string y2, .slice g1 lo.length g3, .slice g4 hi.length g6, .bool op, .int .i64 k] : Array Value)[o]?)) (by kernel_rfl) (HG.out.below hd).blk.1 (fun hHeld => ?_)
            have HG := Lib.hid (HG.out.below hd)
            have HB := Lib.hid (HB.out.trans (hd.mono HB.out.size))
            have HO := Lib.hid (own_below HO.out hd)
            have HF := Lib.hid (HF.out.below hd)
            obtain ⟨wk, hwk⟩ : ∃ W, W = wr.drew := ⟨_, rfl⟩
            rw [← hwk] at HG HB HO HF hHeld ⊢
            clear hwk hd
            (refine hyes 0 ?_); (refine hyes 1 ?_); (refine hyes 2 ?_); (refine hyes 3 ?_); (refine hyes 4 ?_); (try simp only [Act.put, List.setIfInBounds_toArray, List.set])
            (refine held_call 5 rfl (by kernel_rfl) (fun K hK => ?_); go_simp)
            refine (str_CloneO (.slice g4 hi.length g6) (hi) _ ((HHI.out.below HB.out)) (by omega)).mono ?_; rintro e wz1 ⟨vx, rfl, hox, hbq⟩
            skip
            obtain ⟨xa, xc, rfl⟩ := own_form hox
            have HG := Lib.hid (HG.out.below hbq)
            have HB := Lib.hid (HB.out.trans (hbq.mono HB.out.size))
            have HO := Lib.hid (own_below HO.out hbq)
            have HF := Lib.hid (HF.out.below hbq)
            have HX := Lib.hid (own_mono hox (Nat.zero_le _))
            clear hbq hox
            (refine hK.out _ _ (HG.out.blk.1) (fun hHeld => ?_); clear hK K; (try simp only [Act.put, List.setIfInBounds_toArray, List.set]))
            (refine hyes 6 ?_); (try simp only [Act.put, List.setIfInBounds_toArray, List.set])
            (refine held_call 7 rfl (by kernel_rfl) (fun K hK => ?_); go_simp)
            obtain ⟨wn, hwn⟩ : ∃ V, V = wz1.alloc (.cells #[.int .i64 3, .string y1, .string y2, .string emp, .string emp, .slice xa hi.length xc] 45) := ⟨_, rfl⟩
            obtain ⟨bn, hbn⟩ : ∃ b, b = wz1.heap.size := ⟨_, rfl⟩
            rw [← hwn, ← hbn]
            have hbq : Below wz1.heap.size wz1 wn := by rw [hwn]; exact (Below.refl _ _).alloc (Nat.le_refl _) _
            have HN := Lib.hid (show Sl wn 6 (.slice (some ⟨bn, 0, none⟩) 1 1) 1 [.int .i64 3, .string y1, .string y2, .string emp, .string emp, .slice xa hi.length xc] by rw [hwn]; exact Sl.new wz1 [.int .i64 3, .string y1, .string y2, .string emp, .string emp, .slice xa hi.length xc] 45 6 1 bn hbn rfl (by decide))
            have HG := Lib.hid (HG.out.below hbq)
            have HB := Lib.hid (HB.out.trans (hbq.mono HB.out.size))
            have HO := Lib.hid (own_below HO.out hbq)
            have HF := Lib.hid (HF.out.below hbq)
            have HX := Lib.hid (own_below HX.out hbq)
            clear hbq hwn hbn
            (refine hK.out _ _ (HG.out.blk.1) (fun hHeld => ?_); clear hK K; (try simp only [Act.put, List.setIfInBounds_toArray, List.set]))
            refine held_call 8 rfl (by kernel_rfl) (fun K hK => ?_)
            refine step_row rfl _ _ 24 rfl w.heap.size 45 qinf _ 6 96 Tryz.underlying24 HQI.out qs0 qs1 qs2 (by decide) rfl (by decide) _ T1.length _ rfl HO.out _ 1 _ rfl HN.out.a (by intro u hu; simp only [List.mem_cons, List.not_mem_nil, or_false] at hu; rcases hu with rfl | rfl | rfl | rfl | rfl | rfl <;> rfl) (by omega) HB.out.size ?_
            intro a5 c5 wc hown5 hg5
            have HG := Lib.hid (HG.out.grown HO.out hg5 (by decide))
            have HF := Lib.hid (HF.out.far HO.out hg5)
            have HX := Lib.hid (own_far HX.out HO.out hg5 (by decide))
            have HB := Lib.hid (below_own HB.out HO.out hg5 HB.out.size (Nat.le_refl _))
            have HF := Lib.hid (HF.out.snoc (x := ⟨⟨3, ⟨y1, y2⟩, hi⟩, .slice xa hi.length xc⟩) (HX.out))
            have HO := Lib.hid (show wc.ownsRow w.heap.size 45 6 (.slice a5 (T1.length + 1) c5) (T1 ++ [(⟨⟨3, ⟨y1, y2⟩, hi⟩, .slice xa hi.length xc⟩ : FV)]).length ((T1 ++ [(⟨⟨3, ⟨y1, y2⟩, hi⟩, .slice xa hi.length xc⟩ : FV)]).flatMap FV.cells) by rw [List.length_append, List.flatMap_append]; exact hown5)
            clear hg5 hown5 HN HX
            (refine hK.out _ _ (HG.out.blk.1) (fun hHeld => ?_); clear hK K; (try simp only [Act.put, List.setIfInBounds_toArray, List.set]))
            (refine hyes 9 ?_); (try simp only [Act.put, List.setIfInBounds_toArray, List.set])
            refine wpAnyH_done (by kernel_rfl) ?_ _
            clear hHeld
            obtain ⟨T9, hT2⟩ : ∃ t, t = T1 ++ [(⟨⟨3, ⟨y1, y2⟩, hi⟩, .slice xa hi.length xc⟩ : FV)] := ⟨_, rfl⟩
            have hTl : T9.length = T1.length + 1 := by rw [hT2, List.length_append]; rfl
            have HM := Lib.hid (show T9.map FV.s = T1.map FV.s ++ [⟨3, ⟨y1, y2⟩, hi⟩] by rw [hT2, List.map_append]; rfl)
            rw [← hT2] at HF HO
            rw [← hTl] at HO ⊢
            have hTb : T9.length ≤ T1.length + 1 := by omega
            clear hT2 hTl
            obtain ⟨wr, hwr⟩ : ∃ W, W = wc := ⟨_, rfl⟩
            rw [← hwr] at HG HB HO HF ⊢
            clear hwr
            have HFE := Lib.hid ((HFE.out _ rfl).trans HM.out.symm)
            clear cg fg zg
            go_wp2_with fail
            exact ⟨⟨j + 1, T9, by omega, by go_num, Lib.hid (by rw [FS.out, ← HFE.out, ← HTE.out]), HB, HO, HF⟩, by simp [intOf]; omega⟩
          · have d12 : decide ((hi.length : Int) ≤ 12) = false := by rw [decide_eq_false_iff_not]; omega
            have HFE := Lib.hid (show T0.map FV.s ++ factsOf ⟨⟨y1, y2⟩, lo, hi, op, k⟩ = T1.map FV.s by unfold factsOf; rw [if_neg hlo, HM1.out, ← HN12.out]; rw [if_neg (show ¬ (k ≠ 3 ∧ hi.length ≤ 12) from fun h => h12 h.2)]; simp)
            obtain ⟨cg, fg, zg⟩ := HG.out.blk
            go_wp2_with fail
            exact ⟨⟨j + 1, T1, by omega, by go_num, Lib.hid (by rw [FS.out, ← HFE.out, ← HTE.out]), HB, HO, HF⟩, by simp [intOf]; omega⟩
      · have hlo : lo.length = 0 := hlz h0
        go_upto_region 7 with fail
        clear cg fg zg
        by_cases hk3 : k = 3
        · subst hk3
          have HFE := Lib.hid (show T0.map FV.s ++ factsOf ⟨⟨y1, y2⟩, lo, hi, op, 3⟩ = T0.map FV.s by unfold factsOf; rw [if_pos hlo]; rw [if_neg (show ¬ ((3 : Int) ≠ 3 ∧ hi.length ≤ 12) from fun h => h.1 rfl)]; simp)
          obtain ⟨cg, fg, zg⟩ := HG.out.blk
          go_wp2_with fail
          exact ⟨⟨j + 1, T0, by omega, by go_num, Lib.hid (by rw [FS.out, ← HFE.out, ← HTE.out]), HB, HO, HF⟩, by simp [intOf]; omega⟩
        · have d3 : (k != 3) = true := by simp [hk3]
          have d3b : (k == 3) = false := by simp [hk3]
          by_cases h12 : hi.length ≤ 12
          · have d12 : decide ((hi.length : Int) ≤ 12) = true := by rw [decide_eq_true_iff]; omega
            have HFE := Lib.hid (show ∀ q, q = (⟨3, ⟨y1, y2⟩, hi⟩ : FQ) → T0.map FV.s ++ factsOf ⟨⟨y1, y2⟩, lo, hi, op, k⟩ = T0.map FV.s ++ [q] from fun q hq => by subst hq; unfold factsOf; rw [if_pos hlo]; rw [if_pos ⟨hk3, h12⟩]; simp)
            clear hk3
            obtain ⟨cg, fg, zg⟩ := HG.out.blk
            go_wp2_with fail
            have hd := below_drew (Below.refl wr.heap.size wr)
            refine wp_region_held_drew (S := (fun W => ∀ o, W.cell? ⟨G, o, none⟩ = (#[.string y1, .string y2, .slice g1 lo.length g3, .slice g4 hi.length g6, .bool op, .int .i64 k] : Array Value)[o]?)) (by kernel_rfl) (HG.out.below hd).blk.1 (fun hHeld => ?_)
            have HG := Lib.hid (HG.out.below hd)
            have HB := Lib.hid (HB.out.trans (hd.mono HB.out.size))
            have HO := Lib.hid (own_below HO.out hd)
            have HF := Lib.hid (HF.out.below hd)
            obtain ⟨wk, hwk⟩ : ∃ W, W = wr.drew := ⟨_, rfl⟩
            rw [← hwk] at HG HB HO HF hHeld ⊢
            clear hwk hd
            (refine hyes 0 ?_); (refine hyes 1 ?_); (refine hyes 2 ?_); (refine hyes 3 ?_); (refine hyes 4 ?_); (try simp only [Act.put, List.setIfInBounds_toArray, List.set])
            (refine held_call 5 rfl (by kernel_rfl) (fun K hK => ?_); go_simp)
            refine (str_CloneO (.slice g4 hi.length g6) (hi) _ ((HHI.out.below HB.out)) (by omega)).mono ?_; rintro e wz1 ⟨vx, rfl, hox, hbq⟩
            skip
            obtain ⟨xa, xc, rfl⟩ := own_form hox
            have HG := Lib.hid (HG.out.below hbq)
            have HB := Lib.hid (HB.out.trans (hbq.mono HB.out.size))
            have HO := Lib.hid (own_below HO.out hbq)
            have HF := Lib.hid (HF.out.below hbq)
            have HX := Lib.hid (own_mono hox (Nat.zero_le _))
            clear hbq hox
            (refine hK.out _ _ (HG.out.blk.1) (fun hHeld => ?_); clear hK K; (try simp only [Act.put, List.setIfInBounds_toArray, List.set]))
            (refine hyes 6 ?_); (try simp only [Act.put, List.setIfInBounds_toArray, List.set])
            (refine held_call 7 rfl (by kernel_rfl) (fun K hK => ?_); go_simp)
            obtain ⟨wn, hwn⟩ : ∃ V, V = wz1.alloc (.cells #[.int .i64 3, .string y1, .string y2, .string emp, .string emp, .slice xa hi.length xc] 45) := ⟨_, rfl⟩
            obtain ⟨bn, hbn⟩ : ∃ b, b = wz1.heap.size := ⟨_, rfl⟩
            rw [← hwn, ← hbn]
            have hbq : Below wz1.heap.size wz1 wn := by rw [hwn]; exact (Below.refl _ _).alloc (Nat.le_refl _) _
            have HN := Lib.hid (show Sl wn 6 (.slice (some ⟨bn, 0, none⟩) 1 1) 1 [.int .i64 3, .string y1, .string y2, .string emp, .string emp, .slice xa hi.length xc] by rw [hwn]; exact Sl.new wz1 [.int .i64 3, .string y1, .string y2, .string emp, .string emp, .slice xa hi.length xc] 45 6 1 bn hbn rfl (by decide))
            have HG := Lib.hid (HG.out.below hbq)
            have HB := Lib.hid (HB.out.trans (hbq.mono HB.out.size))
            have HO := Lib.hid (own_below HO.out hbq)
            have HF := Lib.hid (HF.out.below hbq)
            have HX := Lib.hid (own_below HX.out hbq)
            clear hbq hwn hbn
            (refine hK.out _ _ (HG.out.blk.1) (fun hHeld => ?_); clear hK K; (try simp only [Act.put, List.setIfInBounds_toArray, List.set]))
            refine held_call 8 rfl (by kernel_rfl) (fun K hK => ?_)
            refine step_row rfl _ _ 24 rfl w.heap.size 45 qinf _ 6 96 Tryz.underlying24 HQI.out qs0 qs1 qs2 (by decide) rfl (by decide) _ T0.length _ rfl HO.out _ 1 _ rfl HN.out.a (by intro u hu; simp only [List.mem_cons, List.not_mem_nil, or_false] at hu; rcases hu with rfl | rfl | rfl | rfl | rfl | rfl <;> rfl) (by omega) HB.out.size ?_
            intro a5 c5 wc hown5 hg5
            have HG := Lib.hid (HG.out.grown HO.out hg5 (by decide))
            have HF := Lib.hid (HF.out.far HO.out hg5)
            have HX := Lib.hid (own_far HX.out HO.out hg5 (by decide))
            have HB := Lib.hid (below_own HB.out HO.out hg5 HB.out.size (Nat.le_refl _))
            have HF := Lib.hid (HF.out.snoc (x := ⟨⟨3, ⟨y1, y2⟩, hi⟩, .slice xa hi.length xc⟩) (HX.out))
            have HO := Lib.hid (show wc.ownsRow w.heap.size 45 6 (.slice a5 (T0.length + 1) c5) (T0 ++ [(⟨⟨3, ⟨y1, y2⟩, hi⟩, .slice xa hi.length xc⟩ : FV)]).length ((T0 ++ [(⟨⟨3, ⟨y1, y2⟩, hi⟩, .slice xa hi.length xc⟩ : FV)]).flatMap FV.cells) by rw [List.length_append, List.flatMap_append]; exact hown5)
            clear hg5 hown5 HN HX
            (refine hK.out _ _ (HG.out.blk.1) (fun hHeld => ?_); clear hK K; (try simp only [Act.put, List.setIfInBounds_toArray, List.set]))
            (refine hyes 9 ?_); (try simp only [Act.put, List.setIfInBounds_toArray, List.set])
            refine wpAnyH_done (by kernel_rfl) ?_ _
            clear hHeld
            obtain ⟨T9, hT2⟩ : ∃ t, t = T0 ++ [(⟨⟨3, ⟨y1, y2⟩, hi⟩, .slice xa hi.length xc⟩ : FV)] := ⟨_, rfl⟩
            have hTl : T9.length = T0.length + 1 := by rw [hT2, List.length_append]; rfl
            have HM := Lib.hid (show T9.map FV.s = T0.map FV.s ++ [⟨3, ⟨y1, y2⟩, hi⟩] by rw [hT2, List.map_append]; rfl)
            rw [← hT2] at HF HO
            rw [← hTl] at HO ⊢
            have hTb : T9.length ≤ T0.length + 1 := by omega
            clear hT2 hTl
            obtain ⟨wr, hwr⟩ : ∃ W, W = wc := ⟨_, rfl⟩
            rw [← hwr] at HG HB HO HF ⊢
            clear hwr
            have HFE := Lib.hid ((HFE.out _ rfl).trans HM.out.symm)
            clear cg fg zg
            go_wp2_with fail
            exact ⟨⟨j + 1, T9, by omega, by go_num, Lib.hid (by rw [FS.out, ← HFE.out, ← HTE.out]), HB, HO, HF⟩, by simp [intOf]; omega⟩
          · have d12 : decide ((hi.length : Int) ≤ 12) = false := by rw [decide_eq_false_iff_not]; omega
            have HFE := Lib.hid (show T0.map FV.s ++ factsOf ⟨⟨y1, y2⟩, lo, hi, op, k⟩ = T0.map FV.s by unfold factsOf; rw [if_pos hlo]; rw [if_neg (show ¬ (k ≠ 3 ∧ hi.length ≤ 12) from fun h => h12 h.2)]; simp)
            obtain ⟨cg, fg, zg⟩ := HG.out.blk
            go_wp2_with fail
            exact ⟨⟨j + 1, T0, by omega, by go_num, Lib.hid (by rw [FS.out, ← HFE.out, ← HTE.out]), HB, HO, HF⟩, by simp [intOf]; omega⟩
    · have HES := Lib.hid (show T0.map FV.s = factsM (R.map MV.s) by rw [HTE.out, List.take_of_length_le (by rw [List.length_map]; omega)])
      have HRT := Lib.hid (show ∀ N : Nat, N = min T0.length (max 0 (min most 1000)).toNat → Sl wr 6 (.slice oo N oc) N ((T0.take N).flatMap FV.cells) ∧ FactsIn wr (T0.take N) ∧ (T0.take N).map FV.s = (factsM (R.map MV.s)).take (max 0 (min most 1000)).toNat ∧ (T0.take N).length = N from fun N hN => ⟨by rw [fv_take]; exact (Sl.of_own HO.out).front (by omega), fun x hx => HF.out x (List.mem_of_mem_take hx), by rw [List.map_take, HES.out]; exact take_min (by rw [← HES.out, List.length_map]; exact hN), by rw [List.length_take]; omega⟩)
      obtain ⟨_, _, he9, ho9⟩ := own_form2 HO.out
      simp only [Value.slice.injEq, true_and] at he9
      obtain ⟨rfl, rfl⟩ := he9
      have HSL := Lib.hid (Sl.of_own HO.out)
      clear HES HTE hT0
      have HAD := Lib.hid (show ∀ x : Addr, x.add 0 = x from fun x => by cases x; simp [Addr.add])
      have hz : oc = 0 ∨ ∃ b o, oo = some ⟨b, o, none⟩ := by
        rcases HSL.out.2.2 with ⟨e, _⟩ | ⟨b, o, c, e, _⟩
        · simp only [Value.slice.injEq] at e; exact .inl e.2.2
        · simp only [Value.slice.injEq] at e; exact .inr ⟨b, o, e.1⟩
      rcases hz with rfl | ⟨b0, o0, rfl⟩
      · have hT : T0.length = 0 := by omega
        obtain rfl := List.eq_nil_of_length_eq_zero hT
        clear hT
        by_cases c0 : most ≤ 0
        · have c1 : most ≤ 1000 := by omega
          have c3 : max 0 most = 0 := by omega
          go_wp2_with fail
          obtain ⟨h1, h2, h3, h4⟩ := HRT.out (0) (by omega)
          refine bodyPost_ret (v := .slice oo (0) 0) (by simp [results, Tryz.results58, go_sem]) rfl ⟨_, ([] : List FV).take (0), rfl, by rw [h4]; exact h1, h2, h3, HB.out⟩
        · by_cases c1 : most ≤ 1000
          · have c2 : ¬ most ≤ (([] : List FV).length : Int) := by simpa using c0
            go_wp2_with fail
            obtain ⟨h1, h2, h3, h4⟩ := HRT.out (0) (by omega)
            refine bodyPost_ret (v := .slice oo (0) 0) (by simp [results, Tryz.results58, go_sem]) rfl ⟨_, ([] : List FV).take (0), rfl, by rw [h4]; exact h1, h2, h3, HB.out⟩
          · have c2 : ¬ (1000 ≤ ([] : List FV).length) := by decide
            go_wp2_with fail
            obtain ⟨h1, h2, h3, h4⟩ := HRT.out (0) (by omega)
            refine bodyPost_ret (v := .slice oo (0) 0) (by simp [results, Tryz.results58, go_sem]) rfl ⟨_, ([] : List FV).take (0), rfl, by rw [h4]; exact h1, h2, h3, HB.out⟩
      · by_cases c0 : most ≤ 0
        · have c1 : most ≤ 1000 := by omega
          have c2 : most ≤ (T0.length : Int) := by omega
          have c3 : max 0 most = 0 := by omega
          go_wp2_with fail
          obtain ⟨h1, h2, h3, h4⟩ := HRT.out (0) (by omega)
          refine bodyPost_ret (v := .slice (some ⟨b0, o0, none⟩) (0) oc) (by simp [results, Tryz.results58, go_sem]) rfl ⟨_, T0.take (0), rfl, by rw [h4]; exact h1, h2, h3, HB.out⟩
        · by_cases c1 : most ≤ 1000
          · by_cases c2 : most ≤ (T0.length : Int)
            · obtain ⟨q, rfl⟩ : ∃ q : Nat, most = q := ⟨most.toNat, by omega⟩
              have c3 : max 0 (q : Int) = q := by omega
              have c4 : q ≤ oc := by omega
              clear c0
              go_wp2_with fail
              obtain ⟨h1, h2, h3, h4⟩ := HRT.out (q) (by omega)
              refine bodyPost_ret (v := .slice (some ⟨b0, o0, none⟩) (q) oc) (by simp [results, Tryz.results58, go_sem]) rfl ⟨_, T0.take (q), rfl, by rw [h4]; exact h1, h2, h3, HB.out⟩
            · have c3 : max 0 (T0.length : Int) = T0.length := by omega
              clear c0
              go_wp2_with fail
              obtain ⟨h1, h2, h3, h4⟩ := HRT.out (T0.length) (by omega)
              refine bodyPost_ret (v := .slice (some ⟨b0, o0, none⟩) (T0.length) oc) (by simp [results, Tryz.results58, go_sem]) rfl ⟨_, T0.take (T0.length), rfl, by rw [h4]; exact h1, h2, h3, HB.out⟩
          · by_cases c2 : 1000 ≤ T0.length
            · have c3 : max 0 (1000 : Int) = 1000 := by decide
              have c4 : 1000 ≤ oc := by omega
              clear c0
              go_wp2_with fail
              obtain ⟨h1, h2, h3, h4⟩ := HRT.out (1000) (by omega)
              refine bodyPost_ret (v := .slice (some ⟨b0, o0, none⟩) (1000) oc) (by simp [results, Tryz.results58, go_sem]) rfl ⟨_, T0.take (1000), rfl, by rw [h4]; exact h1, h2, h3, HB.out⟩
            · have c3 : max 0 (T0.length : Int) = T0.length := by omega
              clear c0
              go_wp2_with fail
              obtain ⟨h1, h2, h3, h4⟩ := HRT.out (T0.length) (by omega)
              refine bodyPost_ret (v := .slice (some ⟨b0, o0, none⟩) (T0.length) oc) (by simp [results, Tryz.results58, go_sem]) rfl ⟨_, T0.take (T0.length), rfl, by rw [h4]; exact h1, h2, h3, HB.out⟩
end Go.Proofs.YtcmdhfccdkjenaaGreatDoor
namespace Go.Proofs.YtcmdhfccdkjenaaGreatDoor
open Go.RowKit Go.Shelf

end Go.Proofs.YtcmdhfccdkjenaaGreatDoor
namespace Go.Proofs.YtcmdhfccdkjenaaGreatDoor
open Go.RowKit Go.Shelf

theorem fv_cell {w : World} {b off : Nat} {l : List FV} (h : ∀ j u, (l.flatMap FV.cells)[j]? = some u → w.cell? ⟨b, off + j, none⟩ = some u) (k : Nat) (hk : k < l.length) :
    w.cell? ⟨b, off + k * 6, none⟩ = some (.int .i64 l[k].s.k) ∧ w.cell? ⟨b, off + k * 6 + 1, none⟩ = some (.string l[k].s.r.o) ∧ w.cell? ⟨b, off + k * 6 + 2, none⟩ = some (.string l[k].s.r.n) ∧ w.cell? ⟨b, off + k * 6 + 3, none⟩ = some (.string emp) ∧ w.cell? ⟨b, off + k * 6 + 4, none⟩ = some (.string emp) ∧ w.cell? ⟨b, off + k * 6 + 5, none⟩ = some l[k].wv := by
  have hg : ∀ f (hf : f < 6), w.cell? ⟨b, off + k * 6 + f, none⟩ = l[k].cells[f]? := fun f hf => by
    have e := flat_get FV.cells 6 FV.cells_len l k f hf l[k] (List.getElem?_eq_getElem hk)
    have hs : (l[k].cells)[f]? = some ((l[k].cells)[f]'(by rw [FV.cells_len]; exact hf)) := List.getElem?_eq_getElem _
    rw [hs] at e ⊢
    rw [Nat.add_assoc]
    exact h _ _ e
  exact ⟨hg 0 (by decide), hg 1 (by decide), hg 2 (by decide), hg 3 (by decide), hg 4 (by decide), hg 5 (by decide)⟩
end Go.Proofs.YtcmdhfccdkjenaaGreatDoor
namespace Go.Proofs.YtcmdhfccdkjenaaGreatDoor
open Go.RowKit Go.Shelf

theorem ref4_SameX (xk : Int) (x1 x2 : ByteArray) (us : List ByteArray) (va vb : Value) (w : World) (hu : SlA w 1 va us.length (strs us)) (hv : SlA w 1 vb us.length (strs us)) :
    Calls Tryz.prog 30 #[.agg #[.int .i64 xk, .string x1, .string x2, .string emp, .string emp, va], .agg #[.int .i64 xk, .string x1, .string x2, .string emp, .string emp, vb]] w fun e w' => e = .returned (.bool true) ∧ Below w.heap.size w w' := by
  have HU := Lib.hid hu
  have HV := Lib.hid hv
  obtain ⟨wo, wc, rfl⟩ := hu.form
  obtain ⟨uo, uc, rfl⟩ := hv.form
  have HB := Lib.hid (show Below w.heap.size w ((w.alloc (.cells #[.int .i64 xk, .string x1, .string x2, .string emp, .string emp, .slice wo us.length wc] 45)).alloc (.cells #[.int .i64 xk, .string x1, .string x2, .string emp, .string emp, .slice uo us.length uc] 45)) from ((Below.refl _ _).alloc (Nat.le_refl _) _).alloc (by simp) _)
  have hEq := role_eql
  have s1 : eqRl (⟨x1, x2⟩ : Rl) ⟨x1, x2⟩ = true := by simp [eqRl]
  have s2 : eqRl (⟨emp, emp⟩ : Rl) ⟨emp, emp⟩ = true := by simp [eqRl]
  clear hu hv
  go_enter Tryz.func30, Tryz.ntmps30
  go_wp2_with fail
  refine (ref1_SameB _ _ us _ (HU.out.below HB.out) (HV.out.below HB.out)).mono ?_
  rintro e w1 ⟨rfl, hb⟩
  have HB1 := Lib.hid (HB.out.trans (hb.mono HB.out.size))
  clear hb
  go_wp2_with fail
  go_ret
  exact ⟨rfl, HB1.out⟩
set_option maxRecDepth 100000 in
set_option maxHeartbeats 4000000 in
theorem ref4_SameAllX (va vb : Value) (T U : List FV) (w : World) (ha : SlA w 6 va T.length (T.flatMap FV.cells)) (hb : SlA w 6 vb U.length (U.flatMap FV.cells)) (hs : T.map FV.s = U.map FV.s)
    (ht : ∀ x ∈ T, SlA w 1 x.wv x.s.us.length (strs x.s.us)) (hu : ∀ x ∈ U, SlA w 1 x.wv x.s.us.length (strs x.s.us)) :
    Calls Tryz.prog 60 #[va, vb] w fun e w' => e = .returned (.bool true) ∧ Below w.heap.size w w' := by
  have hmax := ha.max
  have hl : T.length = U.length := by have := congrArg List.length hs; rwa [List.length_map, List.length_map] at this
  have hne : ((T.length : Int) != (U.length : Int)) = false := by rw [hl]; simp
  have HL := Lib.hid hl
  have HA := Lib.hid ha
  have HC := Lib.hid hb
  have HTW := Lib.hid ht
  have HUW := Lib.hid hu
  have HE := Lib.hid (show ∀ k (h1 : k < T.length) (h2 : k < U.length), T[k].s = U[k].s from fun k h1 h2 => by
    have e : (T.map FV.s)[k]'(by rw [List.length_map]; exact h1) = (U.map FV.s)[k]'(by rw [List.length_map]; exact h2) := by congr 1
    rwa [List.getElem_map, List.getElem_map] at e)
  obtain ⟨ao, cap, rfl⟩ := ha.form
  obtain ⟨bo, bcap, rfl⟩ := hb.form
  clear ha hb hs ht hu hl
  go_enter Tryz.func60, Tryz.ntmps60
  go_wp2
  go_loopw [13] (fun i wr => ∃ k : Nat, k ≤ T.length ∧ i = .int .i64 k ∧ Hid (Below w.heap.size w wr)) (fun i _ => T.length - (intOf i).toNat)
  case atStart => exact ⟨0, by omega, rfl, Lib.hid (Below.refl _ _)⟩
  case round =>
    obtain ⟨k, hk, rfl, HB⟩ := hrel
    by_cases hlt : k < T.length
    · have hlu : k < U.length := by have := HL.out; omega
      obtain ⟨b1, o1, c1, he1, hc1, hm1, hb1, hx1⟩ := HA.out.pos (by omega)
      simp only [Value.slice.injEq, true_and] at he1
      obtain ⟨rfl, rfl⟩ := he1
      obtain ⟨b2, o2, c2, he2, hc2, hm2, hb2, hx2⟩ := HC.out.pos (by omega)
      simp only [Value.slice.injEq, true_and] at he2
      obtain ⟨rfl, rfl⟩ := he2
      obtain ⟨p0, p1, p2, p3, p4, p5⟩ := fv_cell (w := wr) (fun j u hu => (HB.out.cell (p := ⟨b1, o1 + j, none⟩) hb1).trans (hx1 j u hu)) k hlt
      obtain ⟨q0, q1, q2, q3, q4, q5⟩ := fv_cell (w := wr) (fun j u hu => (HB.out.cell (p := ⟨b2, o2 + j, none⟩) hb2).trans (hx2 j u hu)) k hlu
      have hbr : b1 < wr.heap.size := Nat.lt_of_lt_of_le hb1 HB.out.size
      have hbr2 : b2 < wr.heap.size := Nat.lt_of_lt_of_le hb2 HB.out.size
      have h1 := HTW.out T[k] (List.getElem_mem hlt)
      have h2 := HUW.out U[k] (List.getElem_mem hlu)
      have he := HE.out k hlt hlu
      clear hx1 hx2
      generalize T[k] = x at *
      generalize U[k] = y at *
      obtain ⟨⟨xk, ⟨x1, x2⟩, us⟩, xw⟩ := x
      obtain ⟨ys, yw⟩ := y
      dsimp only at he
      subst he
      dsimp only at h1 h2 p0 p1 p2 p3 p4 p5 q0 q1 q2 q3 q4 q5
      have SK := Lib.hid (fun W (hb : Below w.heap.size w W) => ref4_SameX xk x1 x2 us xw yw W (h1.below hb) (h2.below hb))
      obtain ⟨wo, wc, rfl⟩ := h1.form
      obtain ⟨uo, uc, rfl⟩ := h2.form
      clear h1 h2
      have HP := Lib.hid (⟨p0, p1, p2, p3, p4, p5, q0, q1, q2, q3, q4, q5⟩ : wr.cell? ⟨b1, o1 + k * 6, none⟩ = some (.int .i64 xk) ∧ wr.cell? ⟨b1, o1 + k * 6 + 1, none⟩ = some (.string x1) ∧ wr.cell? ⟨b1, o1 + k * 6 + 2, none⟩ = some (.string x2) ∧ wr.cell? ⟨b1, o1 + k * 6 + 3, none⟩ = some (.string emp) ∧ wr.cell? ⟨b1, o1 + k * 6 + 4, none⟩ = some (.string emp) ∧ wr.cell? ⟨b1, o1 + k * 6 + 5, none⟩ = some (.slice wo us.length wc) ∧ wr.cell? ⟨b2, o2 + k * 6, none⟩ = some (.int .i64 xk) ∧ wr.cell? ⟨b2, o2 + k * 6 + 1, none⟩ = some (.string x1) ∧ wr.cell? ⟨b2, o2 + k * 6 + 2, none⟩ = some (.string x2) ∧ wr.cell? ⟨b2, o2 + k * 6 + 3, none⟩ = some (.string emp) ∧ wr.cell? ⟨b2, o2 + k * 6 + 4, none⟩ = some (.string emp) ∧ wr.cell? ⟨b2, o2 + k * 6 + 5, none⟩ = some (.slice uo us.length uc))
      clear p0 p1 p2 p3 p4 p5 q0 q1 q2 q3 q4 q5
      have HS : ∀ W, Below wr.heap.size wr W → W.cell? ⟨b1, o1 + k * 6, none⟩ = some (.int .i64 xk) ∧ W.cell? ⟨b1, o1 + k * 6 + 1, none⟩ = some (.string x1) ∧ W.cell? ⟨b1, o1 + k * 6 + 2, none⟩ = some (.string x2) ∧ W.cell? ⟨b1, o1 + k * 6 + 3, none⟩ = some (.string emp) ∧ W.cell? ⟨b1, o1 + k * 6 + 4, none⟩ = some (.string emp) ∧ W.cell? ⟨b1, o1 + k * 6 + 5, none⟩ = some (.slice wo us.length wc) ∧ W.cell? ⟨b2, o2 + k * 6, none⟩ = some (.int .i64 xk) ∧ W.cell? ⟨b2, o2 + k * 6 + 1, none⟩ = some (.string x1) ∧ W.cell? ⟨b2, o2 + k * 6 + 2, none⟩ = some (.string x2) ∧ W.cell? ⟨b2, o2 + k * 6 + 3, none⟩ = some (.string emp) ∧ W.cell? ⟨b2, o2 + k * 6 + 4, none⟩ = some (.string emp) ∧ W.cell? ⟨b2, o2 + k * 6 + 5, none⟩ = some (.slice uo us.length uc) := fun W hb =>
        ⟨(hb.cell (p := ⟨b1, _, none⟩) hbr).trans HP.out.1, (hb.cell (p := ⟨b1, _, none⟩) hbr).trans HP.out.2.1, (hb.cell (p := ⟨b1, _, none⟩) hbr).trans HP.out.2.2.1, (hb.cell (p := ⟨b1, _, none⟩) hbr).trans HP.out.2.2.2.1, (hb.cell (p := ⟨b1, _, none⟩) hbr).trans HP.out.2.2.2.2.1, (hb.cell (p := ⟨b1, _, none⟩) hbr).trans HP.out.2.2.2.2.2.1, (hb.cell (p := ⟨b2, _, none⟩) hbr2).trans HP.out.2.2.2.2.2.2.1, (hb.cell (p := ⟨b2, _, none⟩) hbr2).trans HP.out.2.2.2.2.2.2.2.1, (hb.cell (p := ⟨b2, _, none⟩) hbr2).trans HP.out.2.2.2.2.2.2.2.2.1, (hb.cell (p := ⟨b2, _, none⟩) hbr2).trans HP.out.2.2.2.2.2.2.2.2.2.1, (hb.cell (p := ⟨b2, _, none⟩) hbr2).trans HP.out.2.2.2.2.2.2.2.2.2.2.1, (hb.cell (p := ⟨b2, _, none⟩) hbr2).trans HP.out.2.2.2.2.2.2.2.2.2.2.2⟩
      have HS := Lib.hid HS
      have hcap2 : T.length ≤ cap := by omega
      have hlub : (k : Int) < (U.length : Int) := by omega
      go_wp2_with fail
      refine wp_region_held_drew (S := (fun W => W.cell? ⟨b1, o1 + k * 6, none⟩ = some (.int .i64 xk) ∧ W.cell? ⟨b1, o1 + k * 6 + 1, none⟩ = some (.string x1) ∧ W.cell? ⟨b1, o1 + k * 6 + 2, none⟩ = some (.string x2) ∧ W.cell? ⟨b1, o1 + k * 6 + 3, none⟩ = some (.string emp) ∧ W.cell? ⟨b1, o1 + k * 6 + 4, none⟩ = some (.string emp) ∧ W.cell? ⟨b1, o1 + k * 6 + 5, none⟩ = some (.slice wo us.length wc) ∧ W.cell? ⟨b2, o2 + k * 6, none⟩ = some (.int .i64 xk) ∧ W.cell? ⟨b2, o2 + k * 6 + 1, none⟩ = some (.string x1) ∧ W.cell? ⟨b2, o2 + k * 6 + 2, none⟩ = some (.string x2) ∧ W.cell? ⟨b2, o2 + k * 6 + 3, none⟩ = some (.string emp) ∧ W.cell? ⟨b2, o2 + k * 6 + 4, none⟩ = some (.string emp) ∧ W.cell? ⟨b2, o2 + k * 6 + 5, none⟩ = some (.slice uo us.length uc))) (by kernel_rfl) (HS.out _ (below_drew (Below.refl _ _))) (fun hHeld => ?_)
      (refine hyes 0 ?_); (refine hyes 1 ?_); (refine hyes 2 ?_); (refine hyes 3 ?_); (refine hyes 4 ?_); (refine hyes 5 ?_); (refine hyes 6 ?_); (refine hyes 7 ?_); (try simp only [Act.put, List.setIfInBounds_toArray, List.set])
      (refine held_call 8 rfl (by kernel_rfl) (fun K hK => ?_); go_simp)
      go_at_call 30; refine (SK.out _ (below_drew HB.out)).mono ?_; rintro e w2 ⟨rfl, hb2⟩
      have hb3 := (below_drew (Below.refl wr.heap.size wr)).trans (hb2.mono (below_drew (Below.refl wr.heap.size wr)).size)
      have HB2 := Lib.hid (HB.out.trans (hb3.mono HB.out.size))
      have HS2 := HS.out _ hb3
      clear hb2 hb3
      (refine hK.out _ _ (HS2) (fun hHeld => ?_); clear hK K; (try simp only [Act.put, List.setIfInBounds_toArray, List.set]))
      clear HS2
      (refine hyes 9 ?_); (try simp only [Act.put, List.setIfInBounds_toArray, List.set])
      refine wpAnyH_done (by kernel_rfl) ?_ _
      go_wp2
      exact ⟨⟨k + 1, by omega, by go_num, HB2⟩, by simp [intOf]; omega⟩
    · go_wp2
      go_ret
      exact ⟨rfl, HB.out⟩
end Go.Proofs.YtcmdhfccdkjenaaGreatDoor
namespace Go.Proofs.YtcmdhfccdkjenaaGreatDoor
open Go.ChangeShapes Go.WideShapes Go.ChangeAt Go.RowKit

section
variable {H : Type} {enc : TypeId × Value → H} {w : World} {base fuel n : Nat} {sp : Nat → Bool} {held : Bool} {cs : List Value} {x : DataW H × List MemPlace} {v : Value} {d : DataW H} {ps : List MemPlace}
def dStr (H : Type) (s : ByteArray) : DataW H := .lit (.string s.data.toList)
def dRl (H : Type) (r : Rl) : DataW H := .agg [dStr H r.o, dStr H r.n]
theorem two_of (h : cs.length = 2) : ∃ a b, cs = [a, b] := by
  match cs, h with
  | [a, b], _ => exact ⟨a, b, rfl⟩
theorem trod_role (h : DataW.trod enc Tryz.prog w base sp held fuel 28 cs = some x) : ∃ r : Rl, cs = r.cells ∧ x = (dRl H r, []) ∧ r.le maxLen := by
  obtain ⟨xs, n, _, rfl, hl, hlen, hf⟩ := DataW.trod_struct Tryz.underlying28 h
  have hc : Tryz.prog.cellsOf 28 = 2 := by kernel_rfl
  have hs : Tryz.prog.cellsOf 9 = 1 := by kernel_rfl
  rw [hc] at hl
  obtain ⟨a, b, rfl⟩ := two_of hl
  have f0 : DataW.trod enc Tryz.prog w base sp held n 9 [a] = xs[0]? := by simpa [hs] using hf 0 _ rfl
  have f1 : DataW.trod enc Tryz.prog w base sp held n 9 [b] = xs[1]? := by simpa [hs] using hf 1 _ rfl
  match xs, hlen with
  | [y0, y1], _ =>
    simp only [List.getElem?_cons_zero, List.getElem?_cons_succ] at f0 f1
    obtain ⟨s0, e0, g0, l0⟩ := DataW.trod_string Tryz.underlying9 f0
    obtain ⟨s1, e1, g1, l1⟩ := DataW.trod_string Tryz.underlying9 f1
    simp only [List.cons.injEq, and_true] at e0 e1
    subst e0 e1 g0 g1
    exact ⟨⟨s0, s1⟩, rfl, rfl, l0, l1⟩
end
end Go.Proofs.YtcmdhfccdkjenaaGreatDoor
namespace Go.Proofs.YtcmdhfccdkjenaaGreatDoor
open Go.ChangeShapes Go.WideShapes Go.ChangeAt Go.RowKit Go.Deep

theorem laid_out : laidOutB Tryz.prog = true := by kernel_rfl
end Go.Proofs.YtcmdhfccdkjenaaGreatDoor
namespace Go.Proofs.YtcmdhfccdkjenaaGreatDoor
open Go.ChangeShapes Go.WideShapes Go.ChangeAt Go.RowKit Go.Deep

section
variable {H : Type} {enc : TypeId × Value → H} {w : World} {base : Nat} {held : Bool}
theorem open_rowOf {α : Type} [Inhabited α] (cells : α → List Value) (k : Nat) (hk : 0 < k) (hlen : ∀ x, (cells x).length = k) {t e : TypeId} (ht : Tryz.prog.underlying t = some (.slice e)) (hc : Tryz.prog.cellsOf e = k) (p : α → Prop)
    (each : ∀ n cs y, DataW.trod enc Tryz.prog w base (fun _ => true) held n e cs = some y → ∃ x : α, cs = cells x ∧ p x) {fuel : Nat} {c : Value} {y : DataW H × List MemPlace}
    (hf : DataW.trod enc Tryz.prog w base (fun _ => true) held fuel t [c] = some y) : ∃ l : List α, SlA w k c l.length (l.flatMap cells) ∧ ∀ x ∈ l, p x := by
  rcases open_slice ht hf with ⟨hcs, _⟩ | ⟨a, len, cap, m, n, D, Pl, hcs, _, hl, hm, hmm, _, hx⟩
  · simp only [List.cons.injEq, and_true] at hcs
    subst hcs
    exact ⟨[], (Sl.nil _ _).a, fun s hs => by cases hs⟩
  · simp only [List.cons.injEq, and_true] at hcs
    subst hcs
    simp only [if_true] at hmm
    subst hmm
    rw [hc] at hx
    have hex : ∀ i, i < m → ∃ s : α, w.cells? base (a.add (i * k)) k = some (cells s) ∧ p s := by
      intro i hi
      obtain ⟨cs', h1, h2⟩ := hx i hi
      obtain ⟨s, rfl, hs⟩ := each _ _ _ h2
      exact ⟨s, h1, hs⟩
    obtain ⟨S, hS⟩ := choose_lt hex
    obtain ⟨b, off, spot⟩ := a
    by_cases h0 : 0 < len
    · have hk0 : 0 < (cells (S 0)).length := by rw [hlen]; exact hk
      have c0 := (World.cells?_some (hS 0 (by omega)).1).2.2 0 hk
      rw [List.getElem?_eq_getElem hk0] at c0
      have hspot : spot = none := by simpa [Addr.add] using World.cell?_spot c0
      subst hspot
      have hlenl : ((List.range len).map S).length = len := by simp
      have hcell : ∀ j u, (((List.range len).map S).flatMap cells)[j]? = some u → w.cell? ⟨b, off + j, none⟩ = some u := by
        intro j u hu
        have hj : j < len * k := by
          have := (List.getElem?_eq_some_iff.1 hu).1
          rwa [flat_len cells k hlen, hlenl] at this
        have hf9 : j % k < k := Nat.mod_lt _ hk
        have hi : j / k < len := Nat.div_lt_of_lt_mul (by rwa [Nat.mul_comm])
        have e : j = j / k * k + j % k := by rw [Nat.mul_comm]; exact (Nat.div_add_mod j k).symm
        rw [e, flat_get cells k hlen _ (j / k) (j % k) hf9 (S (j / k)) (by simp [hi])] at hu
        have h1 := (World.cells?_some (hS (j / k) (by omega)).1).2.2 (j % k) hf9
        rw [add_add, add_plain, ← e] at h1
        exact h1.trans hu
      refine ⟨(List.range len).map S, .inl ?_, fun s hs => ?_⟩
      · rw [hlenl]
        refine ⟨by rw [flat_len cells k hlen, hlenl], by omega, .inr ⟨b, off, m, rfl, hl, hm, ?_, hcell⟩⟩
        rw [add_add, add_plain] at c0
        exact World.block_lt_of_cell? _ _ c0
      · obtain ⟨i, hi, rfl⟩ := List.mem_map.1 hs
        exact (hS i (by have := List.mem_range.1 hi; omega)).2
    · have hl0 : len = 0 := by omega
      subst hl0
      exact ⟨[], .inr ⟨⟨_, _, rfl⟩, rfl, rfl⟩, fun s hs => by cases hs⟩

theorem maxLen_eq : maxLen = 9223372036854775807 := by decide
instance : Inhabited Rl := ⟨noR⟩
theorem strs_flat (l : List ByteArray) : (l.flatMap fun s => [Value.string s]) = strs l := by
  induction l with
  | nil => rfl
  | cons a r ih => rw [List.flatMap_cons, ih]; rfl
theorem open_strsC {fuel : Nat} {c : Value} {y : DataW H × List MemPlace} (hf : DataW.trod enc Tryz.prog w base (fun _ => true) held fuel 38 [c] = some y) :
    ∃ l : List ByteArray, SlA w 1 c l.length (strs l) ∧ ∀ x ∈ l, x.size ≤ 9223372036854775807 := by
  obtain ⟨l, h1, h2⟩ := open_rowOf (fun s : ByteArray => [Value.string s]) 1 (by decide) (fun _ => rfl) Tryz.underlying38 (by kernel_rfl) (fun s => s.size ≤ 9223372036854775807)
    (fun _ cs _ h => by obtain ⟨s, e, _, hs⟩ := DataW.trod_string Tryz.underlying9 h; exact ⟨s, e, by rwa [maxLen_eq] at hs⟩) hf
  exact ⟨l, by rwa [strs_flat] at h1, h2⟩

theorem six_of {cs : List Value} (h : cs.length = 6) : ∃ a b c d e f, cs = [a, b, c, d, e, f] := by
  match cs, h with
  | [a, b, c, d, e, f], _ => exact ⟨a, b, c, d, e, f, rfl⟩
end
end Go.Proofs.YtcmdhfccdkjenaaGreatDoor
namespace Go.Proofs.YtcmdhfccdkjenaaGreatDoor
open Go.ChangeShapes Go.WideShapes Go.ChangeAt Go.RowKit Go.Deep

theorem wts_all {H : Type} {e : TypeId} {d : DataW H} {l : List (DataW H)} (h : d ∈ l) : ∀ n ∈ DataW.weights Tryz.prog e d, n ∈ DataW.weightsAll Tryz.prog e l := by
  induction l with
  | nil => cases h
  | cons x r ih =>
    intro n hn
    simp only [DataW.weightsAll, List.mem_append]
    cases List.mem_cons.1 h with
    | inl e => subst e; exact .inl hn
    | inr e => exact .inr (ih e n hn)
theorem wts_rl {H : Type} (r : Rl) : r.o.size ∈ DataW.weights Tryz.prog 28 (dRl H r) ∧ r.n.size ∈ DataW.weights Tryz.prog 28 (dRl H r) := by
  have e1 : r.o.size = r.o.data.toList.length := by rw [Array.length_toList]; rfl
  have e2 : r.n.size = r.n.data.toList.length := by rw [Array.length_toList]; rfl
  unfold dRl dStr
  simp only [DataW.weights, Tryz.underlying28, DataW.weightsEach]
  rw [e1, e2]
  exact ⟨by simp [DataW.weightsEach, DataW.weights], by simp [DataW.weightsEach, DataW.weights]⟩
section
variable {H : Type} {enc : TypeId × Value → H} {w : World} {base : Nat} {held : Bool}
theorem open_rowB {α : Type} [Inhabited α] (cells : α → List Value) (k : Nat) (hk : 0 < k) (hlen : ∀ x, (cells x).length = k) {t e : TypeId} (ht : Tryz.prog.underlying t = some (.slice e)) (hc : Tryz.prog.cellsOf e = k) (p : α → DataW H → Prop)
    (each : ∀ n cs y, DataW.trod enc Tryz.prog w base (fun _ => true) held n e cs = some y → ∃ x : α, cs = cells x ∧ p x y.1) {fuel : Nat} {c : Value} {y : DataW H × List MemPlace}
    (hf : DataW.trod enc Tryz.prog w base (fun _ => true) held fuel t [c] = some y) : ∃ l : List α, SlA w k c l.length (l.flatMap cells) ∧ ∀ x ∈ l, ∃ d, (∀ n ∈ DataW.weights Tryz.prog e d, n ∈ DataW.weights Tryz.prog t y.1) ∧ p x d := by
  rcases open_slice ht hf with ⟨hcs, _⟩ | ⟨a, len, cap, m, n, D, Pl, hcs, _, hl, hm, hmm, hyy, hx⟩
  · simp only [List.cons.injEq, and_true] at hcs
    subst hcs
    exact ⟨[], (Sl.nil _ _).a, fun s hs => by cases hs⟩
  · simp only [List.cons.injEq, and_true] at hcs
    subst hcs
    simp only [if_true] at hmm
    subst hmm
    rw [hc] at hx
    have hex : ∀ i, i < m → ∃ s : α, w.cells? base (a.add (i * k)) k = some (cells s) ∧ p s (D i) := by
      intro i hi
      obtain ⟨cs', h1, h2⟩ := hx i hi
      obtain ⟨s, rfl, hs⟩ := each _ _ _ h2
      exact ⟨s, h1, hs⟩
    obtain ⟨S, hS⟩ := choose_lt hex
    obtain ⟨b, off, spot⟩ := a
    by_cases h0 : 0 < len
    · have hk0 : 0 < (cells (S 0)).length := by rw [hlen]; exact hk
      have c0 := (World.cells?_some (hS 0 (by omega)).1).2.2 0 hk
      rw [List.getElem?_eq_getElem hk0] at c0
      have hspot : spot = none := by simpa [Addr.add] using World.cell?_spot c0
      subst hspot
      have hlenl : ((List.range len).map S).length = len := by simp
      have hcell : ∀ j u, (((List.range len).map S).flatMap cells)[j]? = some u → w.cell? ⟨b, off + j, none⟩ = some u := by
        intro j u hu
        have hj : j < len * k := by
          have := (List.getElem?_eq_some_iff.1 hu).1
          rwa [flat_len cells k hlen, hlenl] at this
        have hf9 : j % k < k := Nat.mod_lt _ hk
        have hi : j / k < len := Nat.div_lt_of_lt_mul (by rwa [Nat.mul_comm])
        have e : j = j / k * k + j % k := by rw [Nat.mul_comm]; exact (Nat.div_add_mod j k).symm
        rw [e, flat_get cells k hlen _ (j / k) (j % k) hf9 (S (j / k)) (by simp [hi])] at hu
        have h1 := (World.cells?_some (hS (j / k) (by omega)).1).2.2 (j % k) hf9
        rw [add_add, add_plain, ← e] at h1
        exact h1.trans hu
      refine ⟨(List.range len).map S, .inl ?_, fun s hs => ?_⟩
      · rw [hlenl]
        refine ⟨by rw [flat_len cells k hlen, hlenl], by omega, .inr ⟨b, off, m, rfl, hl, hm, ?_, hcell⟩⟩
        rw [add_add, add_plain] at c0
        exact World.block_lt_of_cell? _ _ c0
      · obtain ⟨i, hi, rfl⟩ := List.mem_map.1 hs
        have hi' : i < m := by have := List.mem_range.1 hi; omega
        refine ⟨D i, ?_, (hS i hi').2⟩
        rw [hyy]
        intro n hn
        have h1 := wts_all (show D i ∈ (List.range len).map D from List.mem_map.2 ⟨i, hi, rfl⟩) n hn
        simp only [DataW.weights, ht, List.mem_cons, List.mem_append]
        exact .inr (.inl h1)
    · have hl0 : len = 0 := by omega
      subst hl0
      exact ⟨[], .inr ⟨⟨_, _, rfl⟩, rfl, rfl⟩, fun s hs => by cases hs⟩

instance : Inhabited MV := ⟨⟨⟨noR, [], [], false, 0⟩, .slice none 0 0, .slice none 0 0⟩⟩
def MV.wide (w : World) (x : MV) : Prop := x.ok w ∧ (∀ s ∈ x.s.lo, s.size ≤ 9223372036854775807) ∧ ∀ s ∈ x.s.hi, s.size ≤ 9223372036854775807
theorem trod_mr {fuel : Nat} {cs : List Value} {x : DataW H × List MemPlace} (h : DataW.trod enc Tryz.prog w base (fun _ => true) held fuel 81 cs = some x) : ∃ q : MV, cs = q.cells ∧ q.wide w ∧ ∀ N, (∀ n ∈ DataW.weights Tryz.prog 81 x.1, n ≤ N) → q.s.r.le N := by
  obtain ⟨xs, n, _, rfl, hl, hlen, hf⟩ := DataW.trod_struct Tryz.underlying81 h
  have hc : Tryz.prog.cellsOf 81 = 6 := by kernel_rfl
  have hr : Tryz.prog.cellsOf 28 = 2 := by kernel_rfl
  have hi : Tryz.prog.cellsOf 3 = 1 := by kernel_rfl
  have hb : Tryz.prog.cellsOf 4 = 1 := by kernel_rfl
  have hs : Tryz.prog.cellsOf 38 = 1 := by kernel_rfl
  rw [hc] at hl
  obtain ⟨c0, c1, c2, c3, c4, c5, rfl⟩ := six_of hl
  have f0 : DataW.trod enc Tryz.prog w base (fun _ => true) held n 28 [c0, c1] = xs[0]? := by simpa [hr] using hf 0 _ rfl
  have f1 : DataW.trod enc Tryz.prog w base (fun _ => true) held n 38 [c2] = xs[1]? := by simpa [hs] using hf 1 _ rfl
  have f2 : DataW.trod enc Tryz.prog w base (fun _ => true) held n 38 [c3] = xs[2]? := by simpa [hs] using hf 2 _ rfl
  have f3 : DataW.trod enc Tryz.prog w base (fun _ => true) held n 4 [c4] = xs[3]? := by simpa [hb] using hf 3 _ rfl
  have f4 : DataW.trod enc Tryz.prog w base (fun _ => true) held n 3 [c5] = xs[4]? := by simpa [hi] using hf 4 _ rfl
  match xs, hlen with
  | [y0, y1, y2, y3, y4], _ =>
    simp only [List.getElem?_cons_zero, List.getElem?_cons_succ] at f0 f1 f2 f3 f4
    obtain ⟨r, e0, g0, _⟩ := trod_role f0
    obtain ⟨lo, s1, l1⟩ := open_strsC f1
    obtain ⟨hi', s2, l2⟩ := open_strsC f2
    obtain ⟨b, e3, _⟩ := DataW.trod_bool Tryz.underlying4 f3
    obtain ⟨k, e4, _, _⟩ := DataW.trod_int Tryz.underlying3 f4
    simp only [Rl.cells, List.cons.injEq, and_true] at e0 e3 e4
    obtain ⟨rfl, rfl⟩ := e0
    subst e3 e4 g0
    refine ⟨⟨⟨r, lo, hi', b, k⟩, c2, c3⟩, rfl, ⟨⟨s1, s2⟩, l1, l2⟩, ?_⟩
    intro N hN
    have hw := wts_rl (H := H) r
    have hin : ∀ n ∈ DataW.weights Tryz.prog 28 (dRl H r), n ∈ DataW.weights Tryz.prog 81 (DataW.agg ([(dRl H r, ([] : List MemPlace)), y1, y2, y3, y4].map (fun x => x.1))) := fun n hn => by
      simp only [DataW.weights, Tryz.underlying81]
      exact DataW.weights_mem_each (j := 0) (t := 28) rfl rfl n hn
    exact ⟨hN _ (hin _ hw.1), hN _ (hin _ hw.2)⟩
theorem open_mrs {r : Reach} {b0 : Nat} {v : Value} {d : DataW H} {ps : List MemPlace} (hd : DataW.Trod enc Tryz.prog w base (fun _ => true) held 73 v d ps) (hv : ∃ a n c, v = .slice a n c) :
    ∃ l : List MV, SlA w 6 v l.length (l.flatMap MV.cells) ∧ ∀ x ∈ l, x.wide w ∧ ∀ N, (∀ n ∈ DataW.weights Tryz.prog 73 d, n ≤ N) → x.s.r.le N := by
  obtain ⟨a, n, c, rfl⟩ := hv
  obtain ⟨fuel, hf⟩ := hd
  obtain ⟨l, h1, h2⟩ := open_rowB MV.cells 6 (by decide) MV.cells_len Tryz.underlying73 (by kernel_rfl) (fun q d => q.wide w ∧ ∀ N, (∀ n ∈ DataW.weights Tryz.prog 81 d, n ≤ N) → q.s.r.le N)
    (fun _ _ _ h => by obtain ⟨q, e, hq, hl⟩ := trod_mr h; exact ⟨q, e, hq, hl⟩) hf
  refine ⟨l, h1, fun x hx => ?_⟩
  obtain ⟨d', h3, h4, h5⟩ := h2 x hx
  exact ⟨h4, fun N hN => h5 N (fun n hn => hN n (h3 n hn))⟩
end
end Go.Proofs.YtcmdhfccdkjenaaGreatDoor
