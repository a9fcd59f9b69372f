/- crupperref04.Print: the same line. crupperref04.Words and query.Words at any kind; query.Roles. Light of texts, told whole. Light of queries and policies, with the lengths of the queries' roles (turned by gen_lights.py). slices.Grow and Concat at rows of roles, the row being the call's own (rl_GrowO, rl_Concat of RlConc, turned); slices.Clone of texts. query.Roles, policy.roles, to the letter. names.All, query.Prins, policy.Prins, policy.Names, to the letter (printed by gen_polprins.py). The statement QueryRight: the walk of the law (printed by gen_law04r.py). Roles and statements among a law's arguments: opened to data, and read again in a later world. Rows of statements among a law's arguments: opened. Policies among a law's arguments: opened. A query among a law's arguments, opened (seats without math/bits' table). -/
import Derived.Test.YtedkkegjiikcmaaDoorPart8
import Derived.Test.YtedkkegjiikcmaaDoorPart5
import Derived.Test.YtedkkegjiikcmaaDoorShelf
import Derived.Test.YtedkkegjiikcmaaDoorPart3
import Derived.ProofKit
import Derived.OpenShut
import Derived.ChangeMaps5
import Derived.Deep.Strs
import Derived.Deep.Slices
namespace Go.Proofs.YtedkkegjiikcmaaDoor
open Go.RowKit Go.Shelf

theorem ref3_RoleQ (r : Rl) (w : World) (hs : r.le 1000000000000000) : Calls Tryd.prog 64 #[rv r] w fun e w' => e = .returned (.string (roleT r)) ∧ Below w.heap.size w w' := by
  obtain ⟨o, n⟩ := r
  obtain ⟨h1, h2⟩ := hs
  dsimp only at h1 h2
  go_enter Tryd.func64, Tryd.ntmps64
  go_wp2
  go_ret
  exact ⟨rfl, (Below.refl _ _).alloc (Nat.le_refl _) _⟩
theorem ref4_WordsA (k : Int) (w : World) : Calls Tryd.prog 27 #[.int .i64 k] w fun e w' => e = .returned (.string (wordsQ k)) ∧ w' = w := by
  by_cases h : 1 ≤ k ∧ k ≤ 6
  · exact ref4_Words k h.1 h.2 w
  have R := Lib.hid (show wordsQ k = emp by unfold wordsQ; rw [if_neg (by omega), if_neg (by omega), if_neg (by omega), if_neg (by omega), if_neg (by omega), if_neg (by omega)])
  generalize wordsQ k = r at *
  have d1 : (k == 1) = false := by simp; omega
  have d2 : (k == 2) = false := by simp; omega
  have d3 : (k == 3) = false := by simp; omega
  have d4 : (k == 4) = false := by simp; omega
  have d5 : (k == 5) = false := by simp; omega
  have d6 : (k == 6) = false := by simp; omega
  clear h
  go_enter Tryd.func27, Tryd.ntmps27
  go_wp2
  go_ret
  exact ⟨ret_s R.out.symm, rfl⟩
theorem query_WordsA (q : Qv) (w : World) : Calls Tryd.prog 23 #[qv q] w fun e w' => ∃ v, e = .returned v ∧ SlA w' 1 v (wordsL q.k).length (strs (wordsL q.k)) ∧ Below w.heap.size w w' := by
  by_cases h : 1 ≤ q.k ∧ q.k ≤ 6
  · refine (query_Words q h.1 h.2 w).mono ?_
    rintro e w' ⟨b2, _, rfl, hcell2, hb⟩
    have hl : (wordsL q.k).length ≤ 2 := by unfold wordsL; (repeat' split) <;> simp
    exact ⟨_, rfl, .inl ⟨by simp [strs], by simp only [maxLen]; omega, .inr ⟨b2, 0, (wordsL q.k).length, rfl, Nat.le_refl _, by simp only [maxLen]; omega, (Array.getElem?_eq_some_iff.1 hcell2).1, fun j u hu => by rw [Nat.zero_add, cell_of_row _ b2 j _ _ _ hcell2]; simpa using hu⟩⟩, hb⟩
  have R := Lib.hid (show wordsL q.k = [] by unfold wordsL; rw [if_neg (by omega), if_neg (by omega), if_neg (by omega), if_neg (by omega), if_neg (by omega), if_neg (by omega)])
  obtain ⟨k, ⟨a1, a2⟩, ⟨b1, b2⟩, v⟩ := q
  dsimp only at h R ⊢
  generalize wordsL k = r at *
  have d1 : (k == 1) = false := by simp; omega
  have d2 : (k == 2) = false := by simp; omega
  have d3 : (k == 3) = false := by simp; omega
  have d4 : (k == 4) = false := by simp; omega
  have d5 : (k == 5) = false := by simp; omega
  have d6 : (k == 6) = false := by simp; omega
  have HB := Lib.hid (show Below w.heap.size w (w.alloc (.cells #[.int .i64 k, .string a1, .string a2, .string b1, .string b2, v] 31)) from (Below.refl _ _).alloc (Nat.le_refl _) _)
  clear h
  go_enter Tryd.func23, Tryd.ntmps23
  go_wp2
  go_ret
  exact ⟨_, rfl, by rw [R.out]; exact (Sl.nil _ _).a, HB.out⟩
theorem tail_snocQ (sep : List UInt8) (xs : List (List UInt8)) (x : List UInt8) : Lib.joinTail sep (xs ++ [x]) = Lib.joinTail sep xs ++ (sep ++ x) := by
  unfold Lib.joinTail
  rw [List.map_append, List.flatten_append]
  simp
theorem tail_consQ (sep : List UInt8) (xs : List (List UInt8)) (x : List UInt8) : Lib.joinTail sep (x :: xs) = sep ++ x ++ Lib.joinTail sep xs := by
  unfold Lib.joinTail
  rw [List.map_cons, List.flatten_cons]
theorem tail_appQ (sep : List UInt8) (xs ys : List (List UInt8)) : Lib.joinTail sep (xs ++ ys) = Lib.joinTail sep xs ++ Lib.joinTail sep ys := by
  unfold Lib.joinTail
  rw [List.map_append, List.flatten_append]
theorem joinB_consQ (x : ByteArray) (r : List ByteArray) (sep : ByteArray) : bl (joinB (x :: r) sep) = bl x ++ Lib.joinTail (bl sep) (r.map bl) := by
  unfold joinB
  rw [List.map_cons, Lib.join_cons]
def headS (k : Int) : ByteArray := if univB k = true then ⟨#[97, 108, 119, 97, 121, 115, 32]⟩ else ⟨#[99, 97, 110, 32]⟩
theorem headS_bl (k : Int) : bl (headS k) = bl (headW k) ++ [32] := by
  unfold headS headW
  split <;> rfl
theorem words_tail {k : Int} (h1 : 1 ≤ k) (h6 : k ≤ 6) : Lib.joinTail [32] ((wordsL k).map bl) = [32] ++ bl (wordsQ k) := by
  rcases (show k = 1 ∨ k = 2 ∨ k = 3 ∨ k = 4 ∨ k = 5 ∨ k = 6 by omega) with rfl | rfl | rfl | rfl | rfl | rfl <;> rfl
theorem wordsQ_len (k : Int) : (wordsQ k).size ≤ 8 := by
  unfold wordsQ
  (repeat' split) <;> decide
def frontS (k : Int) (a b : Rl) : ByteArray := if 5 ≤ k then headS k ++ (roleT a ++ ⟨#[32]⟩ ++ wordsQ k) ++ (⟨#[32]⟩ ++ roleT b) else headS k ++ (roleT a ++ ⟨#[32]⟩ ++ wordsQ k)
theorem text_front {q : Qd} (h1 : 1 ≤ q.k) (h6 : q.k ≤ 6) : bl (textQ q) = bl (frontS q.k q.a q.b) ++ Lib.joinTail [32] (q.us.map bl) := by
  unfold textQ partsQ frontS
  have e : bl (⟨#[32]⟩ : ByteArray) = [32] := rfl
  rw [joinB_consQ, List.map_cons, tail_consQ, List.map_append, tail_appQ, List.map_append, tail_appQ, e, words_tail h1 h6]
  by_cases h5 : 5 ≤ q.k
  · have hs : secB q.k = true := by unfold secB; simp; omega
    rw [if_pos h5, if_pos hs]
    simp only [bl_append, headS_bl, e, List.map_cons, List.map_nil, tail_consQ]
    simp [Lib.joinTail]
  · have hs : ¬ secB q.k = true := by unfold secB; simp; omega
    rw [if_neg h5, if_neg hs]
    simp only [bl_append, headS_bl, e]
    simp [Lib.joinTail]
set_option maxRecDepth 100000 in
set_option maxHeartbeats 8000000 in
theorem ref4_PrintQ (q : Qv) (us : List ByteArray) (w : World) (hla : q.a.le 4294967) (hlb : q.b.le 4294967) (hu : SlA w 1 q.w us.length (strs us)) (hz : ∀ s ∈ us, s.size ≤ 9223372036854775807) :
    Calls Tryd.prog 28 #[qv q] w fun e w' => e = .returned (.string (printQ q us)) ∧ Below w.heap.size w w' := by
  have RT := Lib.hid (fun W (hb : Below w.heap.size w W) => ref4_RightL q us W (hla.mono (by decide)) (hlb.mono (by decide)) (hu.below hb) hz)
  have PQ := Lib.hid (show printQ q us = if rightQ q us = true then textQ ⟨q.k, q.a, q.b, us⟩ else emp from rfl)
  have GD := Lib.hid (fun h => good_of (q := q) (us := us) h)
  have PA := Lib.hid (fun W => ref3_RoleQ q.a W (hla.mono (by decide)))
  have PB := Lib.hid (fun W => ref3_RoleQ q.b W (hlb.mono (by decide)))
  have hra : (roleT q.a).size ≤ 8589935 := by unfold roleT; rw [ByteArray.size_append, ByteArray.size_append]; have := hla.1; have := hla.2; show q.a.o.size + 1 + q.a.n.size ≤ _; omega
  have hrb : (roleT q.b).size ≤ 8589935 := by unfold roleT; rw [ByteArray.size_append, ByteArray.size_append]; have := hlb.1; have := hlb.2; show q.b.o.size + 1 + q.b.n.size ≤ _; omega
  have HU := Lib.hid hu
  generalize printQ q us = res at *
  obtain ⟨k, ⟨x1, x2⟩, ⟨x3, x4⟩, wv⟩ := q
  dsimp only at HU PQ GD PA PB hu hra hrb
  obtain ⟨wo, uc, rfl⟩ := hu.form
  clear hu hla hlb hz
  generalize rightQ ⟨k, ⟨x1, x2⟩, ⟨x3, x4⟩, .slice wo us.length uc⟩ us = r at *
  obtain ⟨W0, hW0⟩ : ∃ W, W = w.alloc (.cells #[.int .i64 k, .string x1, .string x2, .string x3, .string x4, .slice wo us.length uc] 31) := ⟨_, rfl⟩
  have HT := Lib.hid (show OneAt w #[.int .i64 k, .string x1, .string x2, .string x3, .string x4, .slice wo us.length uc] W0 by rw [hW0]; exact ⟨Blk.new w _ _, (Below.refl _ _).alloc (Nat.le_refl _) _⟩)
  have RT0 := Lib.hid (RT.out W0 HT.out.low)
  clear RT
  cases r with
  | false =>
    have R := Lib.hid (show res = emp by rw [PQ.out]; rfl)
    obtain ⟨ca, fa, za⟩ := HT.out.a
    subst hW0
    go_enter Tryd.func28, Tryd.ntmps28
    go_wp2_with fail
    refine RT0.out.mono ?_
    rintro e w1 ⟨rfl, hb1⟩
    have HB := Lib.hid (HT.out.low.trans (hb1.mono HT.out.low.size))
    clear hb1
    go_wp2
    go_ret
    exact ⟨ret_s R.out.symm, HB.out⟩
  | true =>
    have G := GD.out rfl
    have hul : us.length ≤ 12 := G.few
    have hus := Lib.hid (show ∀ x ∈ us, x.size ≤ 8 from fun x hx => isP_size' (G.p x hx))
    have RES := Lib.hid (show bl res = bl (frontS k ⟨x1, x2⟩ ⟨x3, x4⟩) ++ Lib.joinTail [32] (us.map bl) by rw [PQ.out]; exact text_front (q := ⟨k, ⟨x1, x2⟩, ⟨x3, x4⟩, us⟩) G.lo G.hi)
    have UN := Lib.hid (fun W => ref4_UniversalQ k W)
    have WD := Lib.hid (fun W => ref4_WordsA k W)
    have FS := Lib.hid (show frontS k ⟨x1, x2⟩ ⟨x3, x4⟩ = if 5 ≤ k then headS k ++ (roleT ⟨x1, x2⟩ ++ ⟨#[32]⟩ ++ wordsQ k) ++ (⟨#[32]⟩ ++ roleT ⟨x3, x4⟩) else headS k ++ (roleT ⟨x1, x2⟩ ++ ⟨#[32]⟩ ++ wordsQ k) from rfl)
    have HS := Lib.hid (show headS k = if univB k = true then ⟨#[97, 108, 119, 97, 121, 115, 32]⟩ else ⟨#[99, 97, 110, 32]⟩ from rfl)
    have hwl := wordsQ_len k
    generalize frontS k ⟨x1, x2⟩ ⟨x3, x4⟩ = fs at *
    generalize headS k = hs at *
    generalize wordsQ k = wq at *
    generalize univB k = ub at *
    generalize roleT ⟨x1, x2⟩ = ra at *
    generalize roleT ⟨x3, x4⟩ = rb at *
    have hhs : hs.size ≤ 7 := by rw [HS.out]; split <;> decide
    clear G GD PQ
    obtain ⟨ca, fa, za⟩ := HT.out.a
    subst hW0
    go_enter Tryd.func28, Tryd.ntmps28
    go_wp2_with fail
    refine RT0.out.mono ?_
    rintro e w1 ⟨rfl, hb1⟩
    have HT := Lib.hid (HT.out.later hb1)
    clear hb1 RT0 ca fa za
    obtain ⟨ca, fa, za⟩ := HT.out.a
    go_wp2_with fail
    refine (UN.out _).mono ?_
    rintro e w2 ⟨rfl, hw2⟩
    subst hw2
    go_upto_if 11 with fail
    go_cut [3] (fun s3 wx => ∃ V : World, V = wx ∧ s3 = .string hs ∧ Hid (OneAt w #[.int .i64 k, .string x1, .string x2, .string x3, .string x4, .slice wo us.length uc] V))
    case first =>
      cases ub with
      | true =>
        replace HS := Lib.hid (show hs = ⟨#[97, 108, 119, 97, 121, 115, 32]⟩ by rw [HS.out]; rfl)
        go_wp2
        go_meet
        exact ⟨_, rfl, by rw [HS.out], HT⟩
      | false =>
        replace HS := Lib.hid (show hs = ⟨#[99, 97, 110, 32]⟩ by rw [HS.out]; rfl)
        go_wp2
        go_meet
        exact ⟨_, rfl, by rw [HS.out], HT⟩
    case rest =>
    clear HT
    obtain ⟨V, rfl, rfl, HT⟩ := hcut
    clear HS UN ca fa za
    have hs1 : (ra ++ ⟨#[32]⟩ : ByteArray).size = ra.size + 1 := by rw [ByteArray.size_append]; rfl
    have hs2 : (ra ++ ⟨#[32]⟩ ++ wq : ByteArray).size = ra.size + 1 + wq.size := by rw [ByteArray.size_append, hs1]
    have hs3 : (hs ++ (ra ++ ⟨#[32]⟩ ++ wq) : ByteArray).size = hs.size + (ra.size + 1 + wq.size) := by rw [ByteArray.size_append, hs2]
    have l1 : ¬ 9223372036854775807 < ra.size + 1 := by omega
    have l2 : ¬ 9223372036854775807 < ra.size + 1 + wq.size := by omega
    have l3 : ¬ 9223372036854775807 < hs.size + (ra.size + 1 + wq.size) := by omega
    go_upto_region 6 with fail
    go_cut [3] (fun s3 wx => ∃ V : World, V = wx ∧ s3 = .string (hs ++ (ra ++ ⟨#[32]⟩ ++ wq)) ∧ Hid (OneAt w #[.int .i64 k, .string x1, .string x2, .string x3, .string x4, .slice wo us.length uc] V))
    case first =>
      refine wp_region_held_drew (S := (fun W => ∀ o, W.cell? ⟨w.heap.size, o, none⟩ = (#[.int .i64 k, .string x1, .string x2, .string x3, .string x4, .slice wo us.length uc] : Array Value)[o]?)) (by kernel_rfl) HT.out.drew.a.1 (fun hHeld => ?_)
      have HT := Lib.hid HT.out.drew
      obtain ⟨wk, hwk⟩ : ∃ W, W = V.drew := ⟨_, rfl⟩
      rw [← hwk] at HT hHeld ⊢
      clear hwk
      (refine hyes 0 ?_); (refine hyes 1 ?_); (refine hyes 2 ?_); (refine hyes 5 ?_); (refine hyes 6 ?_); (try simp only [Act.put, List.setIfInBounds_toArray, List.set])
      (refine held_call 3 rfl (by kernel_rfl) (fun K hK => ?_); go_simp)
      go_at_call 64; refine (PA.out _).mono ?_; rintro e wz3 ⟨rfl, hbq⟩
      have HT := Lib.hid (HT.out.later hbq)
      clear hbq
      (refine hK.out _ _ (HT.out.a.1) (fun hHeld => ?_); clear hK K; (try simp only [Act.put, List.setIfInBounds_toArray, List.set]))
      (refine hyes 4 ?_); (try simp only [Act.put, List.setIfInBounds_toArray, List.set])
      (refine held_call 7 rfl (by kernel_rfl) (fun K hK => ?_); go_simp)
      go_at_call 27; refine (WD.out _).mono ?_; rintro e wz7 ⟨rfl, rfl⟩
      (refine hK.out _ _ (HT.out.a.1) (fun hHeld => ?_); clear hK K; (try simp only [Act.put, List.setIfInBounds_toArray, List.set]))
      (refine hyes 8 ?_); (refine hyes 9 ?_); (refine hyes 10 ?_); (try simp only [Act.put, List.setIfInBounds_toArray, List.set])
      refine wpAnyH_done (by kernel_rfl) ?_ _
      clear hHeld
      go_wp2_with fail
      go_meet
      exact ⟨_, rfl, rfl, HT⟩
    case rest =>
    clear HT
    obtain ⟨V, rfl, rfl, HT⟩ := hcut
    obtain ⟨ca, fa, za⟩ := HT.out.a
    go_upto_if 24 with fail
    clear ca fa za
    go_cut [3] (fun s3 wx => ∃ V : World, V = wx ∧ s3 = .string fs ∧ Hid (OneAt w #[.int .i64 k, .string x1, .string x2, .string x3, .string x4, .slice wo us.length uc] V) ∧ fs.size ≤ 20000000)
    case first =>
      obtain ⟨ca, fa, za⟩ := HT.out.a
      by_cases h5 : 5 ≤ k
      · have d5 : decide (5 ≤ k) = true := decide_eq_true h5
        have FS := Lib.hid (FS.out.trans (if_pos h5))
        have hs4 : (⟨#[32]⟩ ++ rb : ByteArray).size = 1 + rb.size := by rw [ByteArray.size_append]; rfl
        have hs5 : fs.size = hs.size + (ra.size + 1 + wq.size) + (1 + rb.size) := by rw [FS.out, ByteArray.size_append, hs3, hs4]
        have hs6 : (hs ++ (ra ++ ⟨#[32]⟩ ++ wq) ++ (⟨#[32]⟩ ++ rb) : ByteArray).size = hs.size + (ra.size + 1 + wq.size) + (1 + rb.size) := by rw [ByteArray.size_append, hs3, hs4]
        clear h5
        rw [d5]
        go_wp2_with fail
        refine (PB.out _).mono ?_
        rintro e w3 ⟨rfl, hbq⟩
        have HT := Lib.hid (HT.out.later hbq)
        clear hbq
        go_wp2
        go_meet
        exact ⟨_, rfl, by rw [FS.out], HT, by omega⟩
      · have d5 : decide (5 ≤ k) = false := decide_eq_false h5
        have FS := Lib.hid (FS.out.trans (if_neg h5))
        have hs5 : fs.size = hs.size + (ra.size + 1 + wq.size) := by rw [FS.out, hs3]
        clear h5
        rw [d5]
        go_wp2_with fail
        go_meet
        exact ⟨_, rfl, by rw [FS.out], HT, by omega⟩
    case rest =>
    clear HT hs1 hs2 hs3 l1 l2 l3
    obtain ⟨V, rfl, rfl, HT, hfs⟩ := hcut
    obtain ⟨ca, fa, za⟩ := HT.out.a
    clear FS PA PB WD hra hrb hwl hhs
    go_wp2_with fail
    go_loopw [3, 34] (fun o i wr => ∃ (j : Nat) (s : ByteArray), j ≤ us.length ∧ i = .int .i64 j ∧ o = .string s ∧ wr = V ∧ Hid (bl s = bl fs ++ Lib.joinTail [32] ((us.take j).map bl)) ∧ s.size ≤ 20000000 + j * 9) (fun _ i _ => us.length - (intOf i).toNat)
    case atStart => exact ⟨0, fs, by omega, rfl, rfl, rfl, Lib.hid (by simp [Lib.joinTail]), by omega⟩
    case round =>
      obtain ⟨j, s, hj, rfl, rfl, rfl, HS, hsl⟩ := hrel
      by_cases hlt : j < us.length
      · obtain ⟨b3, o3, c3, he3, hc3, hm3, hb3, hx3⟩ := (HU.out.below HT.out.low).pos (by omega)
        simp only [Value.slice.injEq, true_and] at he3
        obtain ⟨rfl, rfl⟩ := he3
        have p3 := hx3 j _ (strs_get hlt)
        have hym : us[j].size ≤ 8 := hus.out _ (List.getElem_mem hlt)
        have HN := Lib.hid (show (us.take (j + 1)).map bl = (us.take j).map bl ++ [bl us[j]] by rw [List.take_succ_eq_append_getElem hlt, List.map_append]; rfl)
        clear hx3
        generalize us[j] = y at *
        have h1 : (⟨#[32]⟩ ++ y : ByteArray).size = 1 + y.size := by rw [ByteArray.size_append]; rfl
        have h2 : (s ++ (⟨#[32]⟩ ++ y) : ByteArray).size = s.size + (1 + y.size) := by rw [ByteArray.size_append, h1]
        have HS2 := Lib.hid (show bl (s ++ (⟨#[32]⟩ ++ y)) = bl fs ++ Lib.joinTail [32] ((us.take (j + 1)).map bl) by
          rw [HN.out, tail_snocQ, bl_append, HS.out, bl_append, List.append_assoc])
        have H3 := Lib.hid (show (s ++ (⟨#[32]⟩ ++ y) : ByteArray).size ≤ 20000000 + (j + 1) * 9 by rw [h2]; omega)
        go_wp2_with fail
        exact ⟨⟨j + 1, s ++ (⟨#[32]⟩ ++ y), by omega, by go_num, rfl, trivial, HS2, H3.out⟩, by simp [intOf]; omega⟩
      · have HE := Lib.hid (show s = res from bl_inj.1 (by rw [RES.out, HS.out, List.take_of_length_le (show us.length ≤ j by omega)]))
        go_wp2_with fail
        go_ret
        exact ⟨by rw [HE.out]; rfl, HT.out.low⟩
end Go.Proofs.YtedkkegjiikcmaaDoor
namespace Go.Proofs.YtedkkegjiikcmaaDoor
open Go.RowKit Go.Shelf

def LightT (l : List ByteArray) (e : Ending) : Prop := ∃ b, e = .returned (.bool b) ∧ (b = true → l.length ≤ 40 ∧ ∀ x ∈ l, x.size ≤ 40)
set_option maxHeartbeats 1000000 in
theorem law1_LightT (va : Value) (l : List ByteArray) (w : World) (ha : SlA w 1 va l.length (strs l)) (hl : ∀ s ∈ l, s.size ≤ 9223372036854775807) :
    Calls Tryd.prog 57 #[va] w fun e w' => LightT l e ∧ w' = w := by
  have HA := Lib.hid ha
  have HL := Lib.hid hl
  have hmax := ha.max
  obtain ⟨ao, cap, hva⟩ := ha.form
  subst hva
  clear ha hl
  go_enter Tryd.func57, Tryd.ntmps57
  by_cases h40 : 40 < l.length
  · have d : decide ((40 : Int) < (l.length : Int)) = true := by (rw [decide_eq_true_iff]; omega)
    go_wp2
    go_ret
    exact ⟨⟨false, rfl, fun h => by cases h⟩, rfl⟩
  have d : decide ((40 : Int) < (l.length : Int)) = false := by (rw [decide_eq_false_iff_not]; omega)
  go_wp2
  go_loop [10] (fun i => ∃ k : Nat, k ≤ l.length ∧ i = .int .i64 k ∧ Hid (∀ j (hj : j < l.length), j < k → l[j].size ≤ 40)) (fun i => l.length - (intOf i).toNat)
  case atStart => exact ⟨0, by omega, rfl, Lib.hid (fun j hj h => absurd h (by omega))⟩
  case round =>
    obtain ⟨k, hk, rfl, HS⟩ := hrel
    by_cases hlt : k < l.length
    · obtain ⟨b1, o1, c1, he1, hc1, hm1, hb1, hx1⟩ := HA.out.pos (by omega)
      simp only [Value.slice.injEq, true_and] at he1
      obtain ⟨rfl, rfl⟩ := he1
      have p0 := hx1 k _ (strs_get hlt)
      have hsz := HL.out l[k] (List.getElem_mem hlt)
      clear hx1
      by_cases h : 40 < l[k].size
      · have d1 : decide ((40 : Int) < (l[k].size : Int)) = true := by (rw [decide_eq_true_iff]; omega)
        clear h
        go_wp2
        go_ret
        exact ⟨⟨false, rfl, fun h => by cases h⟩, rfl⟩
      · have d1 : decide ((40 : Int) < (l[k].size : Int)) = false := by (rw [decide_eq_false_iff_not]; omega)
        have HS2 := Lib.hid (show ∀ j (hj : j < l.length), j < k + 1 → l[j].size ≤ 40 from fun j hj hjk => by
          by_cases e : j = k
          · subst e; omega
          · exact HS.out j hj (by omega))
        clear h HS
        go_wp2
        exact ⟨⟨k + 1, by omega, by go_num, HS2⟩, by simp [intOf]; omega⟩
    · go_wp2
      go_ret
      exact ⟨⟨true, rfl, fun _ => ⟨by omega, fun x hx => by obtain ⟨j, hj, rfl⟩ := List.getElem_of_mem hx; exact HS.out j hj (by omega)⟩⟩, rfl⟩
end Go.Proofs.YtedkkegjiikcmaaDoor
namespace Go.Proofs.YtedkkegjiikcmaaDoor
open Go.RowKit Go.Shelf

def Qv.okS (q : Qv) (w : World) : Prop := q.okN 40 w ∧ q.a.le 40 ∧ q.b.le 40
def LightQS (q : Qv) (w : World) (e : Ending) : Prop := ∃ b, e = .returned (.bool b) ∧ (b = true → q.okS w)
theorem okS_back {q : Qv} {w W : World} (h : q.ok w) (hb : Below w.heap.size w W) (h' : q.okS W) : q.okS w := ⟨okN_back h hb h'.1, h'.2⟩
set_option maxRecDepth 100000 in
set_option maxHeartbeats 1000000 in
theorem law4_LightS (q : Qv) (w : World) (hq : q.ok w) : Calls Tryd.prog 20 #[qv q] w fun e w' => LightQS q w e ∧ Below w.heap.size w w' := by
  obtain ⟨ha, hb, ss, hs, hl⟩ := hq
  obtain ⟨k, ⟨x1, x2⟩, ⟨x3, x4⟩, wv⟩ := q
  have HS := Lib.hid (fun W h => law1_Light wv ss W h hl)
  have HQ := Lib.hid (fun (h : ss.length ≤ 40) (h4 : [x1, x2, x3, x4].length ≤ 40 ∧ ∀ x ∈ [x1, x2, x3, x4], x.size ≤ 40) => show (⟨k, ⟨x1, x2⟩, ⟨x3, x4⟩, wv⟩ : Qv).okS w from ⟨⟨ha, hb, ss, hs, h, hl⟩, ⟨h4.2 _ (by simp), h4.2 _ (by simp)⟩, ⟨h4.2 _ (by simp), h4.2 _ (by simp)⟩⟩)
  have HW := Lib.hid hs
  have H4 := Lib.hid (fun W h => law1_LightT (.slice (some ⟨w.heap.size + 1, 0, none⟩) 4 4) [x1, x2, x3, x4] W h (by
    intro s hs; simp at hs; rcases hs with rfl | rfl | rfl | rfl
    · exact ha.1
    · exact ha.2
    · exact hb.1
    · exact hb.2))
  obtain ⟨wo, wc, rfl⟩ := hs.form
  clear ha hb hl hs
  have HB := Lib.hid ((Below.refl _ w).alloc (Nat.le_refl _) (.cells #[.int .i64 k, .string x1, .string x2, .string x3, .string x4, .slice wo ss.length wc] 31))
  have HB2 := Lib.hid (HB.out.alloc HB.out.size (.cells #[.string x1, .string x2, .string x3, .string x4] 9))
  have S4 := Lib.hid (Sl.new (w.alloc (.cells #[.int .i64 k, .string x1, .string x2, .string x3, .string x4, .slice wo ss.length wc] 31)) [.string x1, .string x2, .string x3, .string x4] 9 1 4 (w.heap.size + 1) (by simp) rfl (by simp [maxLen]))
  go_enter Tryd.func20, Tryd.ntmps20
  go_wp2_with fail
  refine (HS.out _ (HW.out.below HB.out)).mono ?_
  rintro e w1 ⟨⟨b1, rfl, hb1⟩, rfl⟩
  have HB1 := Lib.hid hb1
  clear hb1
  cases b1 with
  | false =>
    go_wp2
    go_ret
    exact ⟨⟨false, rfl, fun h => by cases h⟩, HB.out⟩
  | true =>
    go_wp2_with fail
    refine (H4.out _ S4.out.a).mono ?_
    rintro e w1 ⟨⟨b2, rfl, hb2⟩, rfl⟩
    have HB4 := Lib.hid hb2
    clear hb2
    go_wp2
    go_ret
    exact ⟨⟨b2, rfl, fun h => HQ.out (HB1.out (by first | rfl | trivial)) (HB4.out h)⟩, HB2.out⟩
end Go.Proofs.YtedkkegjiikcmaaDoor
namespace Go.Proofs.YtedkkegjiikcmaaDoor
open Go.RowKit Go.Shelf

theorem str_CloneO (v : Value) (l : List ByteArray) (w : World) (h : SlA w 1 v l.length (strs l)) (hl : l.length ≤ 100000) :
    Calls Tryd.prog 65 #[v] w fun e w' => ∃ v', e = .returned v' ∧ w'.ownsRow w.heap.size 9 1 v' l.length (strs l) ∧ Below w.heap.size w w' := by
  by_cases h0 : 0 < l.length
  · obtain ⟨b1, o1, c1, rfl, hc1, hm1, hb1, hx1⟩ := h.pos h0
    refine (Tryd.slices_Clone_string b1 o1 l.length c1 l w (Nat.le_refl _) (by omega) (fun j hj => by
      rw [hx1 j _ (strs_get hj), List.getD_eq_getElem?_getD, List.getElem?_eq_getElem hj]; rfl)).mono ?_
    rintro e w' ⟨v', he, hown, _, hb⟩
    rw [List.take_of_length_le (Nat.le_refl _)] at hown
    exact ⟨v', he, hown, hb⟩
  · obtain rfl : l = [] := List.eq_nil_of_length_eq_zero (by omega)
    obtain ⟨ao, ac, rfl⟩ := h.form
    cases ao with
    | none =>
      refine (Tryd.slices_Clone_string_nil _ ac w).mono ?_
      rintro e w' ⟨he, rfl⟩
      exact ⟨_, he, World.ownsRow_nil _ _ _ _, Below.refl _ _⟩
    | some a =>
      refine (Tryd.slices_Clone_string_zero a ac w).mono ?_
      rintro e w' ⟨v', he, hown, _, hb⟩
      exact ⟨v', he, hown, hb⟩
end Go.Proofs.YtedkkegjiikcmaaDoor
namespace Go.Proofs.YtedkkegjiikcmaaDoor
open Go.RowKit Go.Shelf

theorem query_second (k : Int) (w : World) : Calls Tryd.prog 44 #[.int .i64 k] w fun e w' => e = .returned (.bool (decide (k = 5 ∨ k = 6))) ∧ w' = w := by
  by_cases h5 : k = 5
  · subst h5
    go_enter Tryd.func44, Tryd.ntmps44
    go_wp2
    go_ret
    exact ⟨rfl, rfl⟩
  · by_cases h6 : k = 6
    · subst h6
      go_enter Tryd.func44, Tryd.ntmps44
      go_wp2
      go_ret
      exact ⟨rfl, rfl⟩
    · have hd := Lib.hid (show decide (k = 5 ∨ k = 6) = false from decide_eq_false (fun h => h.elim h5 h6))
      have d5 : (k == 5) = false := by rw [beq_eq_false_iff_ne]; exact h5
      have d6 : (k == 6) = false := by rw [beq_eq_false_iff_ne]; exact h6
      go_enter Tryd.func44, Tryd.ntmps44
      go_wp2
      go_ret
      exact ⟨by rw [hd.out]; rfl, rfl⟩
theorem query_Roles (q : Qv) (w : World) :
    Calls Tryd.prog 30 #[qv q] w fun e w' => ∃ v, e = .returned v ∧ Sl w' 2 v (rolesQ q).length ((rolesQ q).flatMap Rl.cells) ∧ Below w.heap.size w w' := by
  have SE := Lib.hid (fun W => query_second q.k W)
  have RY := Lib.hid (fun (h : q.k = 5 ∨ q.k = 6) => show rolesQ q = [q.a, q.b] from if_pos h)
  have RN := Lib.hid (fun (h : ¬ (q.k = 5 ∨ q.k = 6)) => show rolesQ q = [q.a] from if_neg h)
  obtain ⟨k, ⟨a1, a2⟩, ⟨b1, b2⟩, v⟩ := q
  by_cases hk : k = 5 ∨ k = 6
  · have hd : decide (k = 5 ∨ k = 6) = true := decide_eq_true hk
    rw [hd] at SE
    rw [RY.out hk]
    clear RY RN hk hd
    go_enter Tryd.func30, Tryd.ntmps30
    go_wp2_with fail
    refine (SE.out _).mono ?_
    rintro e w1 ⟨rfl, rfl⟩
    go_wp2
    go_ret
    exact ⟨.slice (some ⟨w.heap.size + 1, 0, none⟩) 2 2, rfl, Sl.new _ [.string a1, .string a2, .string b1, .string b2] _ 2 2 (w.heap.size + 1) (by simp) rfl (by simp [maxLen]), ((Below.refl _ _).alloc (Nat.le_refl _) _).alloc (by simp) _⟩
  · have hd : decide (k = 5 ∨ k = 6) = false := decide_eq_false hk
    rw [hd] at SE
    rw [RN.out hk]
    clear RY RN hk hd
    go_enter Tryd.func30, Tryd.ntmps30
    go_wp2_with fail
    refine (SE.out _).mono ?_
    rintro e w1 ⟨rfl, rfl⟩
    go_wp2
    go_ret
    exact ⟨.slice (some ⟨w.heap.size + 1, 0, none⟩) 1 1, rfl, Sl.new _ [.string a1, .string a2] _ 2 1 (w.heap.size + 1) (by simp) rfl (by simp [maxLen]), ((Below.refl _ _).alloc (Nat.le_refl _) _).alloc (by simp) _⟩

end Go.Proofs.YtedkkegjiikcmaaDoor
namespace Go.Proofs.YtedkkegjiikcmaaDoor
open Go.RowKit Go.Shelf

theorem query_Prins (q : Qv) (us : List ByteArray) (w : World) (h : SlA w 1 q.w us.length (strs us)) (hl : us.length ≤ 100000) :
    Calls Tryd.prog 31 #[qv q] w fun e w' => ∃ v, e = .returned v ∧ SlA w' 1 v us.length (strs us) ∧ Below w.heap.size w w' := by
  have CL := Lib.hid (fun W (hb : Below w.heap.size w W) => str_CloneO q.w us W (h.below hb) hl)
  obtain ⟨a, c, hw⟩ := h.form
  obtain ⟨xk, ⟨x1, x2⟩, ⟨x3, x4⟩, xw⟩ := q
  dsimp only at hw CL
  subst hw
  have HB0 := Lib.hid (show Below w.heap.size w (w.alloc (.cells #[.int .i64 xk, .string x1, .string x2, .string x3, .string x4, .slice a us.length c] 31)) from (Below.refl _ _).alloc (Nat.le_refl _) _)
  clear h
  go_enter Tryd.func31, Tryd.ntmps31
  go_wp2_with fail
  refine (CL.out _ HB0.out).mono ?_
  rintro e w1 ⟨v1, rfl, ho, hb⟩
  have HO := Lib.hid (Sl.of_own ho).a
  have HB := Lib.hid (HB0.out.trans (hb.mono HB0.out.size))
  clear ho hb CL
  go_wp2
  go_ret
  exact ⟨_, rfl, HO.out, HB.out⟩
end Go.Proofs.YtedkkegjiikcmaaDoor
namespace Go.Proofs.YtedkkegjiikcmaaDoor
open Go.RowKit Go.Shelf

theorem own_fullQ {w : World} (cs : List Value) (e : TypeId) (size n base : Nat) (h : cs.length = n * size) (hb : base ≤ w.heap.size) (hm : n ≤ maxLen) :
    (w.alloc (.cells cs.toArray e)).ownsRow base e size (.slice (some ⟨w.heap.size, 0, none⟩) n n) n cs :=
  ⟨h, .inr ⟨w.heap.size, n, cs.toArray, rfl, hb, heap_alloc_new w _, Nat.le_refl _, hm, by simpa using h, by simp [← h]⟩⟩
theorem join_snocQ {xs : List ByteArray} (h : xs ≠ []) (y sep : ByteArray) : joinB (xs ++ [y]) sep = joinB xs sep ++ sep ++ y := by
  obtain ⟨x, r, rfl⟩ := List.exists_cons_of_ne_nil h
  refine bl_inj.1 ?_
  rw [List.cons_append, joinB_consQ, List.map_append, tail_appQ, bl_append, bl_append, joinB_consQ]
  simp [Lib.joinTail]
theorem words_join (k : Int) : joinB (wordsL k) ⟨#[32]⟩ = wordsQ k := by
  by_cases h : 1 ≤ k ∧ k ≤ 6
  · rcases (show k = 1 ∨ k = 2 ∨ k = 3 ∨ k = 4 ∨ k = 5 ∨ k = 6 by omega) with rfl | rfl | rfl | rfl | rfl | rfl <;> rfl
  · unfold wordsL wordsQ
    rw [if_neg (by omega), if_neg (by omega), if_neg (by omega), if_neg (by omega), if_neg (by omega), if_neg (by omega), if_neg (by omega), if_neg (by omega), if_neg (by omega), if_neg (by omega), if_neg (by omega), if_neg (by omega)]
    rfl
theorem wordsL_le (k : Int) : ∀ x ∈ wordsL k, x.size ≤ 6 := by
  unfold wordsL
  (repeat' split) <;> decide
theorem wordsL_len (k : Int) : (wordsL k).length ≤ 2 := by unfold wordsL; (repeat' split) <;> simp
set_option maxRecDepth 100000 in
set_option maxHeartbeats 16000000 in
theorem law4_QueryRight (q : Qv) (w : World) (hg : Gl w) (hq : q.ok w) :
    Calls Tryd.prog 6 #[qv q] w fun e w' => e = .returned (.bool true) ∧ Below w.heap.size w w' := by
  have HL := Lib.hid (fun W (h : Gl W) => law4_livesQ W h)
  have HG := Lib.hid hg
  have LG := Lib.hid (fun W (h : Below w.heap.size w W) => law4_LightS q W (hq.below h))
  have HQ := Lib.hid hq
  have BK := Lib.hid (fun (W : World) (h : Below w.heap.size w W) (h2 : q.okS W) => okS_back hq h h2)
  obtain ⟨W0, hW0⟩ : ∃ W, W = w.alloc (.cells #[.int .i64 q.k, .string q.a.o, .string q.a.n, .string q.b.o, .string q.b.n, q.w] 31) := ⟨_, rfl⟩
  have HB0 := Lib.hid (show Below w.heap.size w W0 by rw [hW0]; exact (Below.refl _ _).alloc (Nat.le_refl _) _)
  have HK0 := Lib.hid (show Blk W0 w.heap.size #[.int .i64 q.k, .string q.a.o, .string q.a.n, .string q.b.o, .string q.b.n, q.w] by rw [hW0]; exact Blk.new w _ _)
  obtain ⟨ss, hss⟩ : ∃ ss : List ByteArray, SlA w 1 q.w ss.length (strs ss) := by obtain ⟨_, _, ss, h, _⟩ := hq; exact ⟨ss, h⟩
  obtain ⟨wo, wp, hwv⟩ := hss.form
  clear hq hg hss
  obtain ⟨k, ⟨x1, x2⟩, ⟨x3, x4⟩, wv⟩ := q
  dsimp only at hwv HK0 hW0
  subst hwv
  generalize ss.length = n at *
  have HT := Lib.hid (show OneAt w #[.int .i64 k, .string x1, .string x2, .string x3, .string x4, .slice wo n wp] W0 from ⟨HK0.out, HB0.out⟩)
  obtain ⟨ca, fa, za⟩ := HT.out.a
  have L0 := Lib.hid (LG.out W0 HB0.out)
  subst hW0
  go_enter Tryd.func6, Tryd.ntmps6
  go_wp2_with fail
  refine L0.out.mono ?_
  rintro e w1 ⟨⟨bp, rfl, hlp⟩, hb1⟩
  have HT := Lib.hid (HT.out.later hb1)
  have HLP := Lib.hid hlp
  clear hlp hb1 L0 LG HK0 ca fa za
  cases bp with
  | false =>
    go_wp2_with fail
    refine (HL.out _ (HG.out.below HT.out.low)).mono ?_
    rintro e w6 ⟨rfl, hb6⟩
    have T6 := Lib.hid (HT.out.later hb6)
    clear hb6
    go_wp2
    go_ret
    exact ⟨rfl, T6.out.low⟩
  | true =>
  have HOK := BK.out _ HB0.out (HLP.out (by first | rfl | trivial))
  clear HLP BK HQ HB0
  obtain ⟨⟨hla, hlb, us, hu, hun, huz⟩, hsa, hsb⟩ := HOK
  obtain ⟨a', c', he⟩ := hu.form
  dsimp only at he
  simp only [Value.slice.injEq] at he
  obtain ⟨-, hn, -⟩ := he
  subst hn
  clear a' c'
  have HU := Lib.hid (show SlA w 1 (.slice wo us.length wp) us.length (strs us) from hu)
  have hsa2 : (⟨x1, x2⟩ : Rl).le 4294967 := Rl.le.mono hsa (by decide)
  have hsb2 : (⟨x3, x4⟩ : Rl).le 4294967 := Rl.le.mono hsb (by decide)
  have RQ := Lib.hid (fun W (hb : Below w.heap.size w W) => query_RightL ⟨k, ⟨x1, x2⟩, ⟨x3, x4⟩, .slice wo us.length wp⟩ us W hsa2 hsb2 (hu.below hb) huz)
  have RR := Lib.hid (fun W (hb : Below w.heap.size w W) => ref4_RightL ⟨k, ⟨x1, x2⟩, ⟨x3, x4⟩, .slice wo us.length wp⟩ us W hla hlb (hu.below hb) huz)
  have PQ := Lib.hid (fun W (hb : Below w.heap.size w W) => query_Print ⟨k, ⟨x1, x2⟩, ⟨x3, x4⟩, .slice wo us.length wp⟩ us W hsa2 hsb2 (hu.below hb) huz)
  have PR := Lib.hid (fun W (hb : Below w.heap.size w W) => ref4_PrintQ ⟨k, ⟨x1, x2⟩, ⟨x3, x4⟩, .slice wo us.length wp⟩ us W hsa2 hsb2 (hu.below hb) huz)
  have UQ := Lib.hid (fun W => query_Universal k W)
  have UR := Lib.hid (fun W => ref4_UniversalQ k W)
  have WQ := Lib.hid (fun W => query_WordsA ⟨k, ⟨x1, x2⟩, ⟨x3, x4⟩, .slice wo us.length wp⟩ W)
  have WR := Lib.hid (fun W => ref4_WordsA k W)
  have RO := Lib.hid (fun W => query_Roles ⟨k, ⟨x1, x2⟩, ⟨x3, x4⟩, .slice wo us.length wp⟩ W)
  have SR := Lib.hid (fun va vb W h1 h2 => ref3_SameRolesE va vb (rolesQ ⟨k, ⟨x1, x2⟩, ⟨x3, x4⟩, .slice wo us.length wp⟩) (rolesQ ⟨k, ⟨x1, x2⟩, ⟨x3, x4⟩, .slice wo us.length wp⟩) W h1 h2)
  have PN := Lib.hid (fun W (hb : Below w.heap.size w W) => query_Prins ⟨k, ⟨x1, x2⟩, ⟨x3, x4⟩, .slice wo us.length wp⟩ us W (hu.below hb) (by omega))
  have WJ := Lib.hid (words_join k)
  have ERS := Lib.hid (show rolesQ ⟨k, ⟨x1, x2⟩, ⟨x3, x4⟩, .slice wo us.length wp⟩ = if k = 5 ∨ k = 6 then [⟨x1, x2⟩, ⟨x3, x4⟩] else [⟨x1, x2⟩] from rfl)
  have hwn := wordsL_len k
  have HWL := Lib.hid (wordsL_le k)
  dsimp only at WQ
  rw [decide_eq_true rfl] at SR
  generalize rolesQ ⟨k, ⟨x1, x2⟩, ⟨x3, x4⟩, .slice wo us.length wp⟩ = rs at *
  generalize rightQ ⟨k, ⟨x1, x2⟩, ⟨x3, x4⟩, .slice wo us.length wp⟩ us = rt at *
  generalize printQ ⟨k, ⟨x1, x2⟩, ⟨x3, x4⟩, .slice wo us.length wp⟩ us = pt at *
  generalize wordsL k = wl at *
  generalize wordsQ k = wq at *
  generalize univB k = ub at *
  clear hla hlb hu huz hsa hsb hsa2 hsb2
  obtain ⟨ca, fa, za⟩ := HT.out.a
  go_wp2_with fail
  refine (WQ.out _).mono ?_
  rintro e w2 ⟨vw, rfl, hvw, hb2⟩
  have HT := Lib.hid (HT.out.later hb2)
  have HVW := Lib.hid hvw
  obtain ⟨va, vc, rfl⟩ := hvw.form
  clear hvw hb2 ca fa za WQ
  go_wp2_with fail
  go_loopw [3, 14] (fun o i wr => ∃ (j : Nat) (s : ByteArray), j ≤ wl.length ∧ i = .int .i64 j ∧ o = .string s ∧ wr = w2 ∧ Hid (s = joinB (wl.take j) ⟨#[32]⟩) ∧ s.size ≤ j * 7) (fun _ i _ => wl.length - (intOf i).toNat)
  case atStart => exact ⟨0, emp, by omega, rfl, rfl, rfl, Lib.hid rfl, Nat.zero_le _⟩
  case round =>
    obtain ⟨j, s, hj, rfl, rfl, rfl, HS, hsl⟩ := hrel
    by_cases hlt : j < wl.length
    · obtain ⟨b3, o3, c3, he3, hc3, hm3, hb3, hx3⟩ := HVW.out.pos (by omega)
      simp only [Value.slice.injEq, true_and] at he3
      obtain ⟨rfl, rfl⟩ := he3
      have p3 := hx3 j _ (strs_get hlt)
      have hym : wl[j].size ≤ 6 := HWL.out _ (List.getElem_mem hlt)
      have hN : wl.take (j + 1) = wl.take j ++ [wl[j]] := List.take_succ_eq_append_getElem hlt
      by_cases hj0 : 0 < j
      · have HN := Lib.hid (show joinB (wl.take (j + 1)) ⟨#[32]⟩ = s ++ ⟨#[32]⟩ ++ wl[j] by rw [hN, join_snocQ (by intro e; have hz := congrArg List.length e; rw [List.length_take, List.length_nil] at hz; omega), HS.out])
        clear hx3 hN
        generalize wl[j] = y at *
        have h1 : (s ++ ⟨#[32]⟩ : ByteArray).size = s.size + 1 := by rw [ByteArray.size_append]; rfl
        have h2 : (s ++ ⟨#[32]⟩ ++ y : ByteArray).size = s.size + 1 + y.size := by rw [ByteArray.size_append, h1]
        have H3 := Lib.hid (show (s ++ ⟨#[32]⟩ ++ y : ByteArray).size ≤ (j + 1) * 7 by rw [h2]; omega)
        have l1 : ¬ 9223372036854775807 < s.size + 1 := by omega
        have l2 : ¬ 9223372036854775807 < s.size + 1 + y.size := by omega
        go_wp2_with fail
        exact ⟨⟨j + 1, s ++ ⟨#[32]⟩ ++ y, by omega, by go_num, rfl, trivial, Lib.hid HN.out.symm, H3.out⟩, by simp [intOf]; omega⟩
      · obtain rfl : j = 0 := by omega
        have HN := Lib.hid (show joinB (wl.take (0 + 1)) ⟨#[32]⟩ = wl[0] by rw [hN, List.take_zero, List.nil_append, joinB_one])
        obtain rfl : s = emp := HS.out
        rw [Nat.add_zero] at p3
        clear hx3 hN hj0
        generalize wl[0] = y at *
        have h2 : (emp ++ y : ByteArray) = y := by rw [← bl_inj, bl_append]; rfl
        have h2' : ((⟨#[]⟩ : ByteArray) ++ y) = y := h2
        have H3 := Lib.hid (show y.size ≤ (0 + 1) * 7 by omega)
        go_wp2_with fail
        exact ⟨⟨0 + 1, y, by omega, by go_num, by first | rfl | (rw [h2']) | simp [h2'], trivial, Lib.hid HN.out.symm, H3.out⟩, by simp [intOf]; omega⟩
    · have HE := Lib.hid (show s = wq by rw [HS.out, List.take_of_length_le (show wl.length ≤ j by omega), WJ.out])
      clear hsl HS
      obtain rfl := HE.out
      clear HE WJ HVW HWL
      obtain ⟨ca, fa, za⟩ := HT.out.a
      have HO := Lib.hid (own_fullQ (w := wr) [.string x1, .string x2] 29 2 1 (w.heap.size + 1) rfl HT.out.a.2.2 (by decide))
      have HT1 := Lib.hid (HT.out.alloc (.cells #[.string x1, .string x2] 29))
      go_upto_region 12 with fail
      go_cut [6, 37] (fun s6 s37 wx => ∃ V : World, V = wx ∧ (∃ (a6 : Option Addr) (c6 : Nat), s6 = .slice a6 1 c6 ∧ Hid (V.ownsRow (w.heap.size + 1) 29 2 (.slice a6 1 c6) 1 [.string x1, .string x2])) ∧ s37 = .bool (decide (k = 5 ∨ k = 6)) ∧ Hid (OneAt w #[.int .i64 k, .string x1, .string x2, .string x3, .string x4, .slice wo us.length wp] V))
      case first =>
        obtain ⟨cb, fb, zb⟩ := HT1.out.a
        by_cases h5 : k = 5
        · have d5 : (k == 5) = true := by simp [h5]
          have HD := Lib.hid (show decide (k = 5 ∨ k = 6) = true from decide_eq_true (.inl h5))
          clear h5
          go_wp2
          go_meet
          exact ⟨_, rfl, ⟨_, _, rfl, HO⟩, by rw [HD.out], HT1⟩
        · have d5 : (k == 5) = false := by simp [h5]
          by_cases h6 : k = 6
          · have d6 : (k == 6) = true := by simp [h6]
            have HD := Lib.hid (show decide (k = 5 ∨ k = 6) = true from decide_eq_true (.inr h6))
            clear h5 h6
            go_wp2
            go_meet
            exact ⟨_, rfl, ⟨_, _, rfl, HO⟩, by rw [HD.out], HT1⟩
          · have d6 : (k == 6) = false := by simp [h6]
            have HD := Lib.hid (show decide (k = 5 ∨ k = 6) = false from decide_eq_false (by rintro (h | h); exact h5 h; exact h6 h))
            clear h5 h6
            go_wp2
            go_meet
            exact ⟨_, rfl, ⟨_, _, rfl, HO⟩, by rw [HD.out], HT1⟩
      case rest =>
      clear HT HT1 HO ca fa za
      obtain ⟨V, rfl, ⟨a6, c6, rfl, HO⟩, rfl, HT⟩ := hcut
      have ERS := Lib.hid (show rs = if decide (k = 5 ∨ k = 6) = true then [⟨x1, x2⟩, ⟨x3, x4⟩] else [⟨x1, x2⟩] by rw [ERS.out]; by_cases h : k = 5 ∨ k = 6 <;> simp [h])
      generalize decide (k = 5 ∨ k = 6) = d56 at *
      go_upto_if 37 with fail
      go_cut [6] (fun s6 wx => ∃ V : World, V = wx ∧ (∃ (a6 : Option Addr) (c6 : Nat), s6 = .slice a6 rs.length c6 ∧ Hid (SlA V 2 (.slice a6 rs.length c6) rs.length (rs.flatMap Rl.cells))) ∧ Hid (OneAt w #[.int .i64 k, .string x1, .string x2, .string x3, .string x4, .slice wo us.length wp] V))
      case first =>
        cases d56 with
        | false =>
          have ERS := Lib.hid (show rs = [⟨x1, x2⟩] by rw [ERS.out]; rfl)
          go_wp2
          go_meet
          exact ⟨_, rfl, ⟨_, _, by rw [ERS.out]; rfl, Lib.hid (by rw [ERS.out]; exact (Sl.of_own HO.out).a)⟩, HT⟩
        | true =>
          have ERS := Lib.hid (show rs = [⟨x1, x2⟩, ⟨x3, x4⟩] by rw [ERS.out]; rfl)
          obtain ⟨ca, fa, za⟩ := HT.out.a
          have hsz : w.heap.size + 1 ≤ V.heap.size := HT.out.a.2.2
          go_wp2_with (at_builtin; refine halt_ ?_)
          unfold Halt_
          refine app_own Tryd.underlying45 rl_info' rfl (by decide) (by decide) rfl _ _ rfl (w.heap.size + 1) rfl (HO.out.alloc _) [.string x3, .string x4] rfl (heap_new1 _ _) rfl (by intro u hu; simp at hu; rcases hu with rfl | rfl <;> rfl) (by omega) (by simp; omega) ?_
          intro a8 c8 w8 hown8 hg8
          have HT8 := Lib.hid (show OneAt w #[.int .i64 k, .string x1, .string x2, .string x3, .string x4, .slice wo us.length wp] w8 from ⟨(HT.out.a.alloc _).grown hg8 (fun e => by have := (HO.out.lt _ e.symm).1; omega), below_own (HT.out.low.alloc HT.out.low.size _) (HO.out.alloc _) hg8 (by simp; omega) (by omega)⟩)
          have HO8 := Lib.hid (show SlA w8 2 (.slice a8 rs.length c8) rs.length (rs.flatMap Rl.cells) by rw [ERS.out]; exact (Sl.of_own hown8).a)
          clear hown8 hg8
          go_wp2
          go_meet
          exact ⟨_, rfl, ⟨_, _, by rw [ERS.out]; rfl, HO8⟩, HT8⟩
      case rest =>
      clear HT HO ERS
      obtain ⟨V, rfl, ⟨a6, c6, rfl, HRS⟩, HT⟩ := hcut
      have HT := HT.out
      go_upto_region 14 with fail
      refine wp_region_held_drew (S := (fun W => ∀ o, W.cell? ⟨w.heap.size, o, none⟩ = (#[.int .i64 k, .string x1, .string x2, .string x3, .string x4, .slice wo us.length wp] : Array Value)[o]?)) (by kernel_rfl) HT.drew.a.1 (fun hHeld => ?_)
      have HRS := Lib.hid (HRS.out.below (below_drew (Below.refl _ V)))
      have HT := HT.drew
      obtain ⟨wk, hwk⟩ : ∃ W, W = V.drew := ⟨_, rfl⟩
      rw [← hwk] at HT HRS hHeld ⊢
      clear hwk
      (refine hyes 0 ?_); (refine hyes 2 ?_); (try simp only [Act.put, List.setIfInBounds_toArray, List.set])
      (refine held_call 1 rfl (by kernel_rfl) (fun K hK => ?_); go_simp)
      go_at_call 19; refine (RQ.out _ HT.low).mono ?_; rintro e wz1 ⟨rfl, hbq⟩
      have HT := HT.later hbq
      have HRS := Lib.hid (HRS.out.below hbq)
      clear hbq
      (refine hK.out _ _ (HT.a.1) (fun hHeld => ?_); clear hK K; (try simp only [Act.put, List.setIfInBounds_toArray, List.set]))
      (refine held_call 3 rfl (by kernel_rfl) (fun K hK => ?_); go_simp)
      go_at_call 24; refine (RR.out _ HT.low).mono ?_; rintro e wz3 ⟨rfl, hbq⟩
      have HT := HT.later hbq
      have HRS := Lib.hid (HRS.out.below hbq)
      clear hbq
      (refine hK.out _ _ (HT.a.1) (fun hHeld => ?_); clear hK K; (try simp only [Act.put, List.setIfInBounds_toArray, List.set]))
      (refine hyes 4 ?_); (refine hyes 5 ?_); (refine hyes 6 ?_); (refine hyes 7 ?_); (refine hyes 9 ?_); (refine hyes 10 ?_); (try simp only [Act.put, List.setIfInBounds_toArray, List.set])
      (refine held_call 8 rfl (by kernel_rfl) (fun K hK => ?_); go_simp)
      go_at_call 25; refine (UQ.out _).mono ?_; rintro e wz8 ⟨rfl, rfl⟩
      (refine hK.out _ _ (HT.a.1) (fun hHeld => ?_); clear hK K; (try simp only [Act.put, List.setIfInBounds_toArray, List.set]))
      (refine held_call 11 rfl (by kernel_rfl) (fun K hK => ?_); go_simp)
      go_at_call 26; refine (UR.out _).mono ?_; rintro e wz11 ⟨rfl, rfl⟩
      (refine hK.out _ _ (HT.a.1) (fun hHeld => ?_); clear hK K; (try simp only [Act.put, List.setIfInBounds_toArray, List.set]))
      (refine hyes 12 ?_); (refine hyes 13 ?_); (refine hyes 14 ?_); (refine hyes 15 ?_); (refine hyes 16 ?_); (refine hyes 17 ?_); (try simp only [Act.put, List.setIfInBounds_toArray, List.set])
      (refine held_call 18 rfl (by kernel_rfl) (fun K hK => ?_); go_simp)
      go_at_call 27; refine (WR.out _).mono ?_; rintro e wz18 ⟨rfl, rfl⟩
      (refine hK.out _ _ (HT.a.1) (fun hHeld => ?_); clear hK K; (try simp only [Act.put, List.setIfInBounds_toArray, List.set]))
      (refine hyes 19 ?_); (refine hyes 20 ?_); (refine hyes 21 ?_); (refine hyes 22 ?_); (refine hyes 24 ?_); (try simp only [Act.put, List.setIfInBounds_toArray, List.set])
      (refine held_call 23 rfl (by kernel_rfl) (fun K hK => ?_); go_simp)
      go_at_call 21; refine (PQ.out _ HT.low).mono ?_; rintro e wz23 ⟨rfl, hbq⟩
      have HT := HT.later hbq
      have HRS := Lib.hid (HRS.out.below hbq)
      clear hbq
      (refine hK.out _ _ (HT.a.1) (fun hHeld => ?_); clear hK K; (try simp only [Act.put, List.setIfInBounds_toArray, List.set]))
      (refine held_call 25 rfl (by kernel_rfl) (fun K hK => ?_); go_simp)
      go_at_call 28; refine (PR.out _ HT.low).mono ?_; rintro e wz25 ⟨rfl, hbq⟩
      have HT := HT.later hbq
      have HRS := Lib.hid (HRS.out.below hbq)
      clear hbq
      (refine hK.out _ _ (HT.a.1) (fun hHeld => ?_); clear hK K; (try simp only [Act.put, List.setIfInBounds_toArray, List.set]))
      (refine hyes 26 ?_); (refine hyes 27 ?_); (refine hyes 28 ?_); (refine hyes 29 ?_); (refine hyes 31 ?_); (try simp only [Act.put, List.setIfInBounds_toArray, List.set])
      (refine held_call 30 rfl (by kernel_rfl) (fun K hK => ?_); go_simp)
      go_at_call 30; refine (RO.out _).mono ?_; rintro e wz30 ⟨vn, rfl, hn1, hbq⟩; obtain ⟨na, nc, rfl⟩ := hn1.form
      have HT := HT.later hbq
      have HRS := Lib.hid (HRS.out.below hbq)
      have HN1 := Lib.hid hn1
      clear hn1 hbq
      (refine hK.out _ _ (HT.a.1) (fun hHeld => ?_); clear hK K; (try simp only [Act.put, List.setIfInBounds_toArray, List.set]))
      (refine held_call 32 rfl (by kernel_rfl) (fun K hK => ?_); go_simp)
      go_at_call 29; refine (SR.out _ _ _ HN1.out.a HRS.out).mono ?_; rintro e wz32 ⟨rfl, hbq⟩
      have HT := HT.later hbq
      have HRS := Lib.hid (HRS.out.below hbq)
      have HN1 := Lib.hid (HN1.out.below hbq)
      clear hbq
      (refine hK.out _ _ (HT.a.1) (fun hHeld => ?_); clear hK K; (try simp only [Act.put, List.setIfInBounds_toArray, List.set]))
      (refine hyes 33 ?_); (refine hyes 34 ?_); (refine hyes 35 ?_); (refine hyes 37 ?_); (refine hyes 38 ?_); (try simp only [Act.put, List.setIfInBounds_toArray, List.set])
      (refine held_call 36 rfl (by kernel_rfl) (fun K hK => ?_); go_simp)
      go_at_call 31; refine (PN.out _ HT.low).mono ?_; rintro e wz36 ⟨vm, rfl, hm1, hbq⟩; obtain ⟨ma, mc, rfl⟩ := hm1.form
      have HT := HT.later hbq
      have HRS := Lib.hid (HRS.out.below hbq)
      have HN1 := Lib.hid (HN1.out.below hbq)
      have HM1 := Lib.hid hm1
      clear hm1 hbq
      (refine hK.out _ _ (HT.a.1) (fun hHeld => ?_); clear hK K; (try simp only [Act.put, List.setIfInBounds_toArray, List.set]))
      (refine held_call 39 rfl (by kernel_rfl) (fun K hK => ?_); go_simp)
      go_at_call 8; refine (ref1_SameB _ _ us _ HM1.out (HU.out.below HT.low)).mono ?_; rintro e wz39 ⟨rfl, hbq⟩
      have HT := HT.later hbq
      have HRS := Lib.hid (HRS.out.below hbq)
      have HN1 := Lib.hid (HN1.out.below hbq)
      have HM1 := Lib.hid (HM1.out.below hbq)
      clear hbq
      (refine hK.out _ _ (HT.a.1) (fun hHeld => ?_); clear hK K; (try simp only [Act.put, List.setIfInBounds_toArray, List.set]))
      (refine hyes 40 ?_); (refine hyes 41 ?_); (try simp only [Act.put, List.setIfInBounds_toArray, List.set])
      (refine held_call 42 rfl (by kernel_rfl) (fun K hK => ?_); go_simp)
      go_at_call 18; refine (HL.out _ (HG.out.below HT.low)).mono ?_; rintro e wz42 ⟨rfl, hbq⟩
      have HT := HT.later hbq
      have HRS := Lib.hid (HRS.out.below hbq)
      have HN1 := Lib.hid (HN1.out.below hbq)
      have HM1 := Lib.hid (HM1.out.below hbq)
      clear hbq
      (refine hK.out _ _ (HT.a.1) (fun hHeld => ?_); clear hK K; (try simp only [Act.put, List.setIfInBounds_toArray, List.set]))
      (refine hyes 43 ?_); (refine hyes 44 ?_); (try simp only [Act.put, List.setIfInBounds_toArray, List.set])
      refine wpAnyH_done (by kernel_rfl) ?_ _
      have HZ := Lib.hid HT.low
      clear HT
      go_wp2_with fail
      go_ret
      exact ⟨rfl, HZ.out⟩
end Go.Proofs.YtedkkegjiikcmaaDoor
namespace Go.Proofs.YtedkkegjiikcmaaDoor
open Go.ChangeShapes Go.WideShapes Go.ChangeAt Go.RowKit

section
variable {H : Type} {enc : TypeId × Value → H} {w : World} {base fuel n : Nat} {sp : Nat → Bool} {held : Bool} {cs : List Value} {x : DataW H × List MemPlace} {v : Value} {d : DataW H} {ps : List MemPlace}
def dStr (H : Type) (s : ByteArray) : DataW H := .lit (.string s.data.toList)
def dRl (H : Type) (r : Rl) : DataW H := .agg [dStr H r.o, dStr H r.n]
theorem two_of (h : cs.length = 2) : ∃ a b, cs = [a, b] := by
  match cs, h with
  | [a, b], _ => exact ⟨a, b, rfl⟩
theorem trod_role (h : DataW.trod enc Tryd.prog w base sp held fuel 29 cs = some x) : ∃ r : Rl, cs = r.cells ∧ x = (dRl H r, []) ∧ r.le maxLen := by
  obtain ⟨xs, n, _, rfl, hl, hlen, hf⟩ := DataW.trod_struct Tryd.underlying29 h
  have hc : Tryd.prog.cellsOf 29 = 2 := by kernel_rfl
  have hs : Tryd.prog.cellsOf 9 = 1 := by kernel_rfl
  rw [hc] at hl
  obtain ⟨a, b, rfl⟩ := two_of hl
  have f0 : DataW.trod enc Tryd.prog w base sp held n 9 [a] = xs[0]? := by simpa [hs] using hf 0 _ rfl
  have f1 : DataW.trod enc Tryd.prog w base sp held n 9 [b] = xs[1]? := by simpa [hs] using hf 1 _ rfl
  match xs, hlen with
  | [y0, y1], _ =>
    simp only [List.getElem?_cons_zero, List.getElem?_cons_succ] at f0 f1
    obtain ⟨s0, e0, g0, l0⟩ := DataW.trod_string Tryd.underlying9 f0
    obtain ⟨s1, e1, g1, l1⟩ := DataW.trod_string Tryd.underlying9 f1
    simp only [List.cons.injEq, and_true] at e0 e1
    subst e0 e1 g0 g1
    exact ⟨⟨s0, s1⟩, rfl, rfl, l0, l1⟩
end
end Go.Proofs.YtedkkegjiikcmaaDoor
namespace Go.Proofs.YtedkkegjiikcmaaDoor
open Go.ChangeShapes Go.WideShapes Go.ChangeAt Go.RowKit Go.Deep

theorem laid_out : laidOutB Tryd.prog = true := by kernel_rfl
end Go.Proofs.YtedkkegjiikcmaaDoor
namespace Go.Proofs.YtedkkegjiikcmaaDoor
open Go.ChangeShapes Go.WideShapes Go.ChangeAt Go.RowKit Go.Deep

section
variable {H : Type} {enc : TypeId × Value → H} {w : World} {base : Nat} {held : Bool}
theorem open_rowOf {α : Type} [Inhabited α] (cells : α → List Value) (k : Nat) (hk : 0 < k) (hlen : ∀ x, (cells x).length = k) {t e : TypeId} (ht : Tryd.prog.underlying t = some (.slice e)) (hc : Tryd.prog.cellsOf e = k) (p : α → Prop)
    (each : ∀ n cs y, DataW.trod enc Tryd.prog w base (fun _ => true) held n e cs = some y → ∃ x : α, cs = cells x ∧ p x) {fuel : Nat} {c : Value} {y : DataW H × List MemPlace}
    (hf : DataW.trod enc Tryd.prog w base (fun _ => true) held fuel t [c] = some y) : ∃ l : List α, SlA w k c l.length (l.flatMap cells) ∧ ∀ x ∈ l, p x := by
  rcases open_slice ht hf with ⟨hcs, _⟩ | ⟨a, len, cap, m, n, D, Pl, hcs, _, hl, hm, hmm, _, hx⟩
  · simp only [List.cons.injEq, and_true] at hcs
    subst hcs
    exact ⟨[], (Sl.nil _ _).a, fun s hs => by cases hs⟩
  · simp only [List.cons.injEq, and_true] at hcs
    subst hcs
    simp only [if_true] at hmm
    subst hmm
    rw [hc] at hx
    have hex : ∀ i, i < m → ∃ s : α, w.cells? base (a.add (i * k)) k = some (cells s) ∧ p s := by
      intro i hi
      obtain ⟨cs', h1, h2⟩ := hx i hi
      obtain ⟨s, rfl, hs⟩ := each _ _ _ h2
      exact ⟨s, h1, hs⟩
    obtain ⟨S, hS⟩ := choose_lt hex
    obtain ⟨b, off, spot⟩ := a
    by_cases h0 : 0 < len
    · have hk0 : 0 < (cells (S 0)).length := by rw [hlen]; exact hk
      have c0 := (World.cells?_some (hS 0 (by omega)).1).2.2 0 hk
      rw [List.getElem?_eq_getElem hk0] at c0
      have hspot : spot = none := by simpa [Addr.add] using World.cell?_spot c0
      subst hspot
      have hlenl : ((List.range len).map S).length = len := by simp
      have hcell : ∀ j u, (((List.range len).map S).flatMap cells)[j]? = some u → w.cell? ⟨b, off + j, none⟩ = some u := by
        intro j u hu
        have hj : j < len * k := by
          have := (List.getElem?_eq_some_iff.1 hu).1
          rwa [flat_len cells k hlen, hlenl] at this
        have hf9 : j % k < k := Nat.mod_lt _ hk
        have hi : j / k < len := Nat.div_lt_of_lt_mul (by rwa [Nat.mul_comm])
        have e : j = j / k * k + j % k := by rw [Nat.mul_comm]; exact (Nat.div_add_mod j k).symm
        rw [e, flat_get cells k hlen _ (j / k) (j % k) hf9 (S (j / k)) (by simp [hi])] at hu
        have h1 := (World.cells?_some (hS (j / k) (by omega)).1).2.2 (j % k) hf9
        rw [add_add, add_plain, ← e] at h1
        exact h1.trans hu
      refine ⟨(List.range len).map S, .inl ?_, fun s hs => ?_⟩
      · rw [hlenl]
        refine ⟨by rw [flat_len cells k hlen, hlenl], by omega, .inr ⟨b, off, m, rfl, hl, hm, ?_, hcell⟩⟩
        rw [add_add, add_plain] at c0
        exact World.block_lt_of_cell? _ _ c0
      · obtain ⟨i, hi, rfl⟩ := List.mem_map.1 hs
        exact (hS i (by have := List.mem_range.1 hi; omega)).2
    · have hl0 : len = 0 := by omega
      subst hl0
      exact ⟨[], .inr ⟨⟨_, _, rfl⟩, rfl, rfl⟩, fun s hs => by cases hs⟩

theorem maxLen_eq : maxLen = 9223372036854775807 := by decide
theorem rle_max {r : Rl} (h : r.le maxLen) : r.le 9223372036854775807 := by rwa [maxLen_eq] at h
instance : Inhabited Rl := ⟨noR⟩
theorem strs_flat (l : List ByteArray) : (l.flatMap fun s => [Value.string s]) = strs l := by
  induction l with
  | nil => rfl
  | cons a r ih => rw [List.flatMap_cons, ih]; rfl
theorem open_strsC {fuel : Nat} {c : Value} {y : DataW H × List MemPlace} (hf : DataW.trod enc Tryd.prog w base (fun _ => true) held fuel 22 [c] = some y) :
    ∃ l : List ByteArray, SlA w 1 c l.length (strs l) ∧ ∀ x ∈ l, x.size ≤ 9223372036854775807 := by
  obtain ⟨l, h1, h2⟩ := open_rowOf (fun s : ByteArray => [Value.string s]) 1 (by decide) (fun _ => rfl) Tryd.underlying22 (by kernel_rfl) (fun s => s.size ≤ 9223372036854775807)
    (fun _ cs _ h => by obtain ⟨s, e, _, hs⟩ := DataW.trod_string Tryd.underlying9 h; exact ⟨s, e, by rwa [maxLen_eq] at hs⟩) hf
  exact ⟨l, by rwa [strs_flat] at h1, h2⟩

theorem six_of {cs : List Value} (h : cs.length = 6) : ∃ a b c d e f, cs = [a, b, c, d, e, f] := by
  match cs, h with
  | [a, b, c, d, e, f], _ => exact ⟨a, b, c, d, e, f, rfl⟩
theorem trod_query {fuel : Nat} {cs : List Value} {x : DataW H × List MemPlace} (h : DataW.trod enc Tryd.prog w base (fun _ => true) held fuel 31 cs = some x) : ∃ q : Qv, cs = q.cells ∧ q.ok w := by
  obtain ⟨xs, n, _, rfl, hl, hlen, hf⟩ := DataW.trod_struct Tryd.underlying31 h
  have hc : Tryd.prog.cellsOf 31 = 6 := by kernel_rfl
  have hr : Tryd.prog.cellsOf 29 = 2 := by kernel_rfl
  have hi : Tryd.prog.cellsOf 3 = 1 := by kernel_rfl
  have hs : Tryd.prog.cellsOf 22 = 1 := by kernel_rfl
  rw [hc] at hl
  obtain ⟨c0, c1, c2, c3, c4, c5, rfl⟩ := six_of hl
  have f0 : DataW.trod enc Tryd.prog w base (fun _ => true) held n 3 [c0] = xs[0]? := by simpa [hi] using hf 0 _ rfl
  have f1 : DataW.trod enc Tryd.prog w base (fun _ => true) held n 29 [c1, c2] = xs[1]? := by simpa [hr] using hf 1 _ rfl
  have f2 : DataW.trod enc Tryd.prog w base (fun _ => true) held n 29 [c3, c4] = xs[2]? := by simpa [hr] using hf 2 _ rfl
  have f3 : DataW.trod enc Tryd.prog w base (fun _ => true) held n 22 [c5] = xs[3]? := by simpa [hs] using hf 3 _ rfl
  match xs, hlen with
  | [y0, y1, y2, y3], _ =>
    simp only [List.getElem?_cons_zero, List.getElem?_cons_succ] at f0 f1 f2 f3
    obtain ⟨k, e0, _, _⟩ := DataW.trod_int Tryd.underlying3 f0
    obtain ⟨r1, e1, _, l1⟩ := trod_role f1
    obtain ⟨r2, e2, _, l2⟩ := trod_role f2
    obtain ⟨ss, s3, l3⟩ := open_strsC f3
    simp only [Rl.cells, List.cons.injEq, and_true] at e0 e1 e2
    obtain ⟨rfl, rfl⟩ := e1
    obtain ⟨rfl, rfl⟩ := e2
    subst e0
    exact ⟨⟨k, r1, r2, c5⟩, rfl, rle_max l1, rle_max l2, ss, s3, l3⟩
end
end Go.Proofs.YtedkkegjiikcmaaDoor
namespace Go.Proofs.YtedkkegjiikcmaaDoor
open Go.ChangeShapes Go.WideShapes Go.ChangeAt Go.RowKit
section
variable {H : Type} {enc : TypeId × Value → H} {w : World} {base b0 : Nat} {held : Bool} {r : Reach} {v : Value} {d : DataW H} {ps : List MemPlace}
set_option maxRecDepth 100000 in
theorem open_queryQ (hval : Value.okWide Tryd.prog w r b0 31 v) (hd : DataW.Trod enc Tryd.prog w base (fun _ => true) held 31 v d ps) : ∃ q : Qv, v = qv q ∧ q.ok w := by
  obtain ⟨cs, rfl, _⟩ := okWide_struct Tryd.underlying31 hval
  obtain ⟨fuel, hf⟩ := hd
  obtain ⟨q, h, hq⟩ := trod_query hf
  refine ⟨q, ?_, hq⟩
  obtain ⟨l⟩ := cs
  simp only [Value.cells] at h
  rw [show l = q.cells from by simpa using h]; rfl
end
end Go.Proofs.YtedkkegjiikcmaaDoor
