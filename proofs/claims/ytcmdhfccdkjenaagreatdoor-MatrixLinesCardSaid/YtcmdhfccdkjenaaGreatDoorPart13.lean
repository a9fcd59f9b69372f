/- low.Eval, low.Steps, low.Members: as walks. simple.view.members, Only, Is, Holds: as walks. crupperref11.Eval. Plain laws: what a model of statements tells is what the document finds. Decimal digits, fresh texts: plain laws. names.dec, (*names.Table).Fresh, crupperref01.Dec, crupperref01.Fresh: the first text that is not in a row. Package state: Reaches; the reference's MayCome and Reaches. Plain laws: the greatest state. slices.Equal, Grow and Concat at rows of roles (printed by gen_rlall.py out of StSlices, StUnion). slices.IndexFunc and slices.DeleteFunc at rows of roles. A row of the call's own stands above every lower bound. -/
import Derived.Test.YtcmdhfccdkjenaaGreatDoorPart9
import Derived.Test.YtcmdhfccdkjenaaGreatDoorPart12
import Derived.Test.YtcmdhfccdkjenaaGreatDoorPart10
import Derived.Test.YtcmdhfccdkjenaaGreatDoorPart11
import Derived.Test.YtcmdhfccdkjenaaGreatDoorPart8
import Derived.Test.YtcmdhfccdkjenaaGreatDoorPart5
import Derived.Test.YtcmdhfccdkjenaaGreatDoorPart6
import Derived.Test.YtcmdhfccdkjenaaGreatDoorPart7
import Derived.Test.YtcmdhfccdkjenaaGreatDoorPart1
namespace Go.Proofs.YtcmdhfccdkjenaaGreatDoor
open Go.RowKit Go.Shelf

structure TmAt (w : World) (t M : Nat) (PS NS : List ByteArray) (l : List St) (fs : List (Nat × Nat)) (st : Nat) : Prop where
  tbl : ∃ ba bb, TblAt w t ba bb PS NS
  mod : ∃ F W0 g0, ModAt w M F W0 g0 PS.length NS.length fs st
  least : LeastN NS.length (goodR PS.length NS.length (rulesN PS NS l)) (fun r x => (r, x) ∈ fs)
  steps : st ≤ 2 * (rulesN PS NS l).length + fs.length * ((rulesN PS NS l).length * (PS.length + 3))
theorem TmAt.rng {w : World} {t M : Nat} {PS NS : List ByteArray} {l : List St} {fs : List (Nat × Nat)} {st : Nat} (h : TmAt w t M PS NS l fs st) : ∀ f ∈ fs, f.2 < PS.length := by
  obtain ⟨F, W0, g0, h2⟩ := h.mod
  exact fun f hf => (h2.f.rng f hf).2
theorem TmAt.below {w w' : World} {t M : Nat} {PS NS : List ByteArray} {l : List St} {fs : List (Nat × Nat)} {st : Nat} (h : TmAt w t M PS NS l fs st) (hb : Below w.heap.size w w') : TmAt w' t M PS NS l fs st := by
  obtain ⟨ba, bb, h1⟩ := h.tbl
  obtain ⟨F, W0, g0, h2⟩ := h.mod
  exact ⟨⟨ba, bb, h1.below hb⟩, ⟨F, W0, g0, h2.below hb⟩, h.least, h.steps⟩
theorem rulesN_len (a b : List ByteArray) (l : List St) : (rulesN a b l).length ≤ l.length := by
  have := flatMap_le (ruleS a b) 1 (ruleS_len a b) l
  unfold rulesN
  omega
set_option maxRecDepth 100000 in
set_option maxHeartbeats 4000000 in
theorem low_Eval (v0 v1 v2 v3 : Value) (l : List St) (g h : List Rl) (qs : List Qv) (w : World) (hp : PolAt w v0 v1 v2 v3 l g h qs) (hl : l.length ≤ 100) (hg : g.length ≤ 100) (hh : h.length ≤ 100) (hq : qs.length ≤ 100) (F : Qv → List ByteArray) (hF : WhoF w qs F)
    (hs : allLe l 4294967) (hT : TB w) (hps : (newB (allPrins l g h qs F)).length ≤ 64) (hns : (newB (allNames l g h qs)).length ≤ 64) :
    Calls Tryz.prog 86 #[pv v0 v1 v2 v3] w fun e w' => ∃ t M fs st, e = .returned (.tuple #[.pointer (some ⟨t, 0, none⟩), .pointer (some ⟨M, 0, none⟩)]) ∧ TmAt w' t M (newB (allPrins l g h qs F)) (newB (allNames l g h qs)) (minS l h) fs st ∧ Below w.heap.size w w' := by
  have HT0 := Lib.hid (show OneAt w #[v0, v1, v2, v3] (w.alloc (.cells #[v0, v1, v2, v3] 26)) from ⟨Blk.new w _ _, (Below.refl _ _).alloc (Nat.le_refl _) _⟩)
  have TF := Lib.hid (table_For v0 v1 v2 v3 (.slice none 0 0) l g h qs [] _ (hp.below HT0.out.low) hl hg hh hq F (hF.below HT0.out.low) (Sl.nil _ _).a (by simp))
  have MN := Lib.hid (fun W (hb : Below w.heap.size w W) => low_Minimal v0 v1 v2 v3 l g h qs W (hp.below hb) (by omega))
  have HTB := Lib.hid hT
  have hml := minS_len l h
  have hms : allLe (minS l h) 4294967 := fun s hs' => hs s (List.mem_filter.1 hs').1
  have e1 : newB (newB (allPrins l g h qs F) ++ []) = newB (allPrins l g h qs F) := by rw [List.append_nil, new_idem]
  have e2 : newB (newB (allNames l g h qs)) = newB (allNames l g h qs) := new_idem _
  rw [e1, e2] at TF
  generalize newB (allPrins l g h qs F) = PS at *
  generalize newB (allNames l g h qs) = NS at *
  generalize minS l h = ms at *
  obtain ⟨a0, c0, rfl⟩ := hp.rs.form
  obtain ⟨a1, c1, rfl⟩ := hp.rg.form
  obtain ⟨a2, c2, rfl⟩ := hp.rh.form
  obtain ⟨a3, c3, rfl⟩ := hp.rq.form
  have hrl := rulesN_len PS NS ms
  clear hp hF hT e1 e2 hs
  go_enter Tryz.func86, Tryz.ntmps86
  go_wp2_with fail
  refine TF.out.mono ?_
  rintro e w1 ⟨t, ba, bb, rfl, ht, hb⟩
  have HT1 := Lib.hid (HT0.out.later hb)
  have HTb := Lib.hid ht
  clear ht hb TF HT0
  go_wp2_with fail
  refine wp_region_held_drew (S := (fun W => ∀ o, W.cell? ⟨w.heap.size, o, none⟩ = (#[.slice a0 l.length c0, .slice a1 g.length c1, .slice a2 h.length c2, .slice a3 qs.length c3] : Array Value)[o]?)) (by kernel_rfl) HT1.out.drew.a.1 (fun hHeld => ?_)
  have HT := HT1.out.drew
  have HTb := Lib.hid (HTb.out.below (below_drew (Below.refl _ w1)))
  obtain ⟨wk, hwk⟩ : ∃ W, W = w1.drew := ⟨_, rfl⟩
  rw [← hwk] at HT HTb hHeld ⊢
  clear hwk
  (refine hyes 0 ?_); (refine hyes 1 ?_); (refine hyes 4 ?_); (refine hyes 7 ?_); (refine hyes 8 ?_); (try simp only [Act.put, List.setIfInBounds_toArray, List.set])
  (refine held_call 2 rfl (by kernel_rfl) (fun K hK => ?_); go_simp)
  go_at_call 89; refine (table_Prins HTb.out).mono ?_; rintro e w2 ⟨rfl, rfl⟩
  (refine hK.out _ _ (HT.a.1) (fun hHeld => ?_); clear hK K; (try simp only [Act.put, List.setIfInBounds_toArray, List.set]))
  (refine held_call 3 rfl (by kernel_rfl) (fun K hK => ?_); go_simp)
  go_at_call 142; refine (tab_Len ba PS _ HTb.out.ta).mono ?_; rintro e w2 ⟨rfl, rfl⟩
  (refine hK.out _ _ (HT.a.1) (fun hHeld => ?_); clear hK K; (try simp only [Act.put, List.setIfInBounds_toArray, List.set]))
  (refine held_call 5 rfl (by kernel_rfl) (fun K hK => ?_); go_simp)
  go_at_call 143; refine (table_Links HTb.out).mono ?_; rintro e w2 ⟨rfl, rfl⟩
  (refine hK.out _ _ (HT.a.1) (fun hHeld => ?_); clear hK K; (try simp only [Act.put, List.setIfInBounds_toArray, List.set]))
  (refine held_call 6 rfl (by kernel_rfl) (fun K hK => ?_); go_simp)
  go_at_call 142; refine (tab_Len bb NS _ HTb.out.tb).mono ?_; rintro e w2 ⟨rfl, rfl⟩
  (refine hK.out _ _ (HT.a.1) (fun hHeld => ?_); clear hK K; (try simp only [Act.put, List.setIfInBounds_toArray, List.set]))
  (refine held_call 9 rfl (by kernel_rfl) (fun K hK => ?_); go_simp)
  go_at_call 19; refine (MN.out _ HT.low).mono ?_; rintro e w3 ⟨v3, rfl, hs3, hb3⟩; have HT3 := HT.later hb3; have HTb3 := Lib.hid (HTb.out.below hb3); have HS3 := Lib.hid hs3; clear hs3 hb3
  (refine hK.out _ _ (HT3.a.1) (fun hHeld => ?_); clear hK K; (try simp only [Act.put, List.setIfInBounds_toArray, List.set]))
  (refine held_call 10 rfl (by kernel_rfl) (fun K hK => ?_); go_simp)
  go_at_call 144; refine (table_Rules v3 ms _ HTb3.out HS3.out.a hms (by omega)).mono ?_; rintro e w4 ⟨v4, rfl, ho4, hb4⟩; have HT4 := HT3.later hb4; have HTb4 := Lib.hid (HTb3.out.below hb4); have HS4 := Lib.hid (Sl.of_own ho4); clear ho4 hb4
  (refine hK.out _ _ (HT4.a.1) (fun hHeld => ?_); clear hK K; (try simp only [Act.put, List.setIfInBounds_toArray, List.set]))
  (refine held_call 11 rfl (by kernel_rfl) (fun K hK => ?_); go_simp)
  go_at_call 141; refine (sem_Eval PS.length NS.length v4 (rulesN PS NS ms) _ hps hns HS4.out.a (by omega) (HTB.out.below HT4.low)).mono ?_; rintro e w5 ⟨M, F5, W05, g05, fs, st, rfl, hm, hlst, hst, hb5⟩; have HT5 := HT4.later hb5; have HTb5 := Lib.hid (HTb4.out.below hb5); have HM5 := Lib.hid hm; have HL5 := Lib.hid hlst; have HS5 := Lib.hid hst; clear hm hlst hst hb5
  (refine hK.out _ _ (HT5.a.1) (fun hHeld => ?_); clear hK K; (try simp only [Act.put, List.setIfInBounds_toArray, List.set]))
  (refine hyes 12 ?_); (refine hyes 13 ?_); (try simp only [Act.put, List.setIfInBounds_toArray, List.set])
  refine wpAnyH_done (by kernel_rfl) ?_ _
  have HT := Lib.hid HT5
  clear HT5
  go_wp2
  go_ret2
  exact ⟨t, M, fs, st, rfl, ⟨⟨ba, bb, HTb5.out⟩, ⟨F5, W05, g05, HM5.out⟩, HL5.out, HS5.out⟩, HT.out.low⟩
def whoN (PS : List ByteArray) (cs : List Nat) : List ByteArray := cs.map (fun (c : Nat) => atB PS (c : Int))
end Go.Proofs.YtcmdhfccdkjenaaGreatDoor
namespace Go.Proofs.YtcmdhfccdkjenaaGreatDoor
open Go.RowKit Go.Shelf

end Go.Proofs.YtcmdhfccdkjenaaGreatDoor
namespace Go.Proofs.YtcmdhfccdkjenaaGreatDoor
open Go.RowKit Go.Shelf

def CAt (w : World) (b : Nat) (cs : Array Value) (t : TypeId) : Prop := w.heap[b]? = some (.cells cs t (0, 0))
theorem CAt.blk {w : World} {b : Nat} {cs : Array Value} {t : TypeId} (h : CAt w b cs t) : Blk w b cs := blk_of h
theorem CAt.lt {w : World} {b : Nat} {cs : Array Value} {t : TypeId} (h : CAt w b cs t) : b < w.heap.size := (Array.getElem?_eq_some_iff.1 h).1
theorem CAt.below {w w' : World} {b : Nat} {cs : Array Value} {t : TypeId} (h : CAt w b cs t) (hb : Below w.heap.size w w') : CAt w' b cs t := (hb.block b h.lt).trans h
theorem CAt.alloc {w : World} {b : Nat} {cs : Array Value} {t : TypeId} (h : CAt w b cs t) (o : Obj) : CAt (w.alloc o) b cs t := h.below ((Below.refl _ _).alloc (Nat.le_refl _) o)
theorem CAt.grown {w w' : World} {b base size n : Nat} {cs : Array Value} {t e : TypeId} {v : Value} {xs : List Value} (h : CAt w b cs t) (ho : w.ownsRow base e size v n xs) (hg : w.grownBy w' v.ownBlock) (ht : t ≠ e) : CAt w' b cs t :=
  (hg.block b h.lt (own_tag ho h ht)).trans h
theorem own_far {w w' : World} {b1 b2 s1 s2 n1 n2 : Nat} {e1 e2 : TypeId} {v1 v2 : Value} {x1 x2 : List Value} (h1 : w.ownsRow b1 e1 s1 v1 n1 x1) (h2 : w.ownsRow b2 e2 s2 v2 n2 x2) (hg : w.grownBy w' v2.ownBlock) (ht : e1 ≠ e2) : w'.ownsRow b1 e1 s1 v1 n1 x1 := by
  refine own_grown h1 hg (fun k hk => ?_)
  rcases h1.2 with ⟨rfl, _⟩ | ⟨g, cap, cur, rfl, _, hh, _⟩
  · cases hk
  · cases hk
    exact own_tag h2 hh ht
end Go.Proofs.YtcmdhfccdkjenaaGreatDoor
namespace Go.Proofs.YtcmdhfccdkjenaaGreatDoor
open Go.RowKit Go.Shelf

structure InAB (a b : List ByteArray) (s : St) : Prop where
  r : ∀ x ∈ rolesS s, x.o ∈ a ∧ x.n ∈ b
  w : ∀ x ∈ whoS s, x ∈ a
  v : ∀ x ∈ viaS s, x ∈ b
theorem place_in {a : List ByteArray} {x : ByteArray} (h : x ∈ a) : 0 ≤ placeB a x := by
  unfold placeB; rw [if_pos ((hasB_mem' a x).2 h)]; exact Int.natCast_nonneg _
theorem roleN_in {a b : List ByteArray} {r : Rl} (h : r.o ∈ a ∧ r.n ∈ b) : 0 ≤ roleN a b r := by
  have h1 := place_in h.1
  have h2 := place_in h.2
  unfold roleN
  rw [if_neg (by omega)]
  exact Int.add_nonneg (Int.mul_nonneg h1 (Int.natCast_nonneg _)) h2
theorem right_kinds {s : St} (h : rightS s = true) : s.k = 1 ∨ s.k = 2 ∨ s.k = 3 ∨ s.k = 4 := by
  unfold rightS at h
  by_cases h1 : s.k = 1
  · exact .inl h1
  by_cases h2 : s.k = 2
  · exact .inr (.inl h2)
  by_cases h3 : s.k = 3
  · exact .inr (.inr (.inl h3))
  by_cases h4 : s.k = 4
  · exact .inr (.inr (.inr h4))
  rw [if_neg h1, if_neg h2, if_neg h3, if_neg h4, Bool.and_false] at h
  cases h
theorem ruleN_in {a b : List ByteArray} {s : St} (hr : rightS s = true) (h : InAB a b s) : (ruleN a b s).2 = true := by
  have hh : s.h ∈ rolesS s := by
    unfold rolesS
    split
    · simp
    · split <;> simp
  have hok : ruleOk (ruleR a b s) = true := by
    unfold ruleOk
    rw [decide_eq_true_iff]
    simp only [ruleR]
    refine ⟨roleN_in (h.r _ hh), ?_, ?_, ?_, ?_⟩
    · split
      · rename_i e; exact place_in (h.w _ (by unfold whoS; rw [if_pos e]; simp))
      · exact Int.le_refl _
    · split
      · exact Int.le_refl _
      · rename_i e
        refine roleN_in (h.r _ ?_)
        unfold rolesS
        rcases right_kinds hr with e1 | e2 | e3 | e4
        · exact absurd e1 e
        · rw [if_pos (.inl e2)]; simp
        · rw [if_pos (.inr e3)]; simp
        · rw [if_neg (by omega), if_pos e4]; simp
    · split
      · rename_i e
        refine roleN_in (h.r _ ?_)
        unfold rolesS
        rw [if_neg (by omega), if_pos e]; simp
      · exact Int.le_refl _
    · split
      · rename_i e; exact place_in (h.v _ (by unfold viaS; rw [if_pos e]; simp))
      · exact Int.le_refl _
  rw [ruleN_ok hr hok]
theorem rule_okRu {a b : List ByteArray} {s : St} (na : a.length ≤ 1000) (nb : b.length ≤ 1000) (h : (ruleN a b s).2 = true) : okRu a.length b.length (ruleN a b s).1 = true := by
  cases hc : okRu a.length b.length (ruleN a b s).1 with
  | true => rfl
  | false =>
    have h1 := stmt_rule na nb h
    rw [stmtN_no hc] at h1
    cases h1
theorem good_rules {a b : List ByteArray} {l : List St} (na : a.length ≤ 1000) (nb : b.length ≤ 1000) (h : ∀ s ∈ l, (ruleN a b s).2 = true) : goodR a.length b.length (rulesN a b l) = l.map fun s => (ruleN a b s).1 := by
  have e : rulesN a b l = l.map fun s => (ruleN a b s).1 := by
    unfold rulesN
    induction l with
    | nil => rfl
    | cons s r ih =>
      rw [List.flatMap_cons, List.map_cons, ih (fun x hx => h x (List.mem_cons_of_mem _ hx))]
      unfold ruleS
      rw [if_pos (h s (List.mem_cons_self ..))]
      rfl
  rw [e]
  unfold goodR
  rw [List.filter_eq_self]
  intro r hr
  obtain ⟨s, hs, rfl⟩ := List.mem_map.1 hr
  exact rule_okRu na nb (h s hs)
theorem asc_get {a : List ByteArray} (ha : AscB a) {i j : Nat} (hi : i < a.length) (hj : j < a.length) (h : i < j) : cmpS a[i] a[j] < 0 := List.pairwise_iff_getElem.1 ha i j hi hj h
theorem whoN_asc {a : List ByteArray} (ha : AscB a) {cs : List Nat} (hc : cs.Pairwise (· < ·)) (hr : ∀ c ∈ cs, c < a.length) : AscB (whoN a cs) := by
  unfold whoN AscB
  rw [List.pairwise_map]
  refine hc.imp_of_mem (fun {x y} hx hy hxy => ?_)
  rw [atB_get (hr x hx), atB_get (hr y hy)]
  exact asc_get ha _ _ hxy
theorem model_members {a b : List ByteArray} {l : List St} (ha : AscB a) (hb : AscB b) (na : a.length ≤ 64) (nb : b.length ≤ 1000) (hok : ∀ s ∈ l, (ruleN a b s).2 = true) {ps : List Pr} (hD : LeastS l (fun r x => (r, x) ∈ ps)) {fs : List (Nat × Nat)}
    (hE : LeastN b.length (goodR a.length b.length (rulesN a b l)) (fun r x => (r, x) ∈ fs)) (hr : ∀ f ∈ fs, f.2 < a.length) (r : Rl) : whoN a (colsI fs (roleN a b r)) = membersP ps r := by
  rw [good_rules (by omega) nb hok] at hE
  obtain ⟨L1, L2⟩ := least_same ha hb hok hD hE
  have hasc : (colsI fs (roleN a b r)).Pairwise (· < ·) := by
    unfold colsI; split
    · exact colsOf_asc _ _
    · exact List.Pairwise.nil
  have hrg : ∀ c ∈ colsI fs (roleN a b r), c < a.length := by
    intro c hc
    unfold colsI at hc
    split at hc
    · exact hr _ (colsOf_mem.1 hc).2
    · cases hc
  refine asc_uniqueB _ _ (whoN_asc ha hasc hrg) (membersP_asc _ _) (fun y => ?_)
  rw [membersP_mem]
  unfold whoN
  rw [List.mem_map]
  constructor
  · rintro ⟨c, hc, rfl⟩
    have hcl := hrg c hc
    rw [atB_get hcl]
    unfold colsI at hc
    split at hc
    · rename_i h0
      obtain ⟨i, j, hi, hj, rfl, e⟩ := role_at h0
      rw [e] at hc
      exact L2 i j c hi hj hcl (colsOf_mem.1 hc).2
    · cases hc
  · intro hy
    obtain ⟨i, j, k, hi, hj, hk, rfl, rfl, hx⟩ := L1 r y hy
    refine ⟨k, ?_, atB_get hk⟩
    have h0 : 0 ≤ roleN a b ⟨a[i], b[j]⟩ := roleN_in ⟨List.getElem_mem hi, List.getElem_mem hj⟩
    unfold colsI
    rw [if_pos h0, role_num ha hb hi hj]
    exact colsOf_mem.2 ⟨by omega, hx⟩
theorem stmt_inAB {l : List St} {g h : List Rl} {qs : List Qv} {F : Qv → List ByteArray} {s : St} (hs : s ∈ l) : InAB (newB (allPrins l g h qs F)) (newB (allNames l g h qs)) s := by
  have hr : ∀ x ∈ rolesS s, x ∈ allRoles l g h qs := fun x hx => by
    unfold allRoles
    refine List.mem_append.2 (.inl (List.mem_append.2 (.inl (List.mem_append.2 (.inl ?_)))))
    exact List.mem_flatMap.2 ⟨s, hs, hx⟩
  refine ⟨fun x hx => ⟨?_, ?_⟩, fun x hx => ?_, fun x hx => ?_⟩
  · rw [new_mem]; unfold allPrins
    exact List.mem_append.2 (.inl (List.mem_append.2 (.inl (List.mem_map.2 ⟨x, hr x hx, rfl⟩))))
  · rw [new_mem]; unfold allNames
    exact List.mem_append.2 (.inl (List.mem_map.2 ⟨x, hr x hx, rfl⟩))
  · rw [new_mem]; unfold allPrins
    exact List.mem_append.2 (.inl (List.mem_append.2 (.inr (List.mem_flatMap.2 ⟨s, hs, hx⟩))))
  · rw [new_mem]; unfold allNames
    exact List.mem_append.2 (.inr (List.mem_flatMap.2 ⟨s, hs, hx⟩))
end Go.Proofs.YtcmdhfccdkjenaaGreatDoor
namespace Go.Proofs.YtcmdhfccdkjenaaGreatDoor
open Go.RowKit Go.Shelf

def decL (n : Nat) : List UInt8 := if n < 10 then [UInt8.ofNat (48 + n)] else decL (n / 10) ++ [UInt8.ofNat (48 + n % 10)]
termination_by n
decreasing_by omega
theorem decL_small {n : Nat} (h : n < 10) : decL n = [UInt8.ofNat (48 + n)] := by rw [decL, if_pos h]
theorem decL_big {n : Nat} (h : ¬ n < 10) : decL n = decL (n / 10) ++ decL (n % 10) := by
  rw [decL, if_neg h, decL_small (n := n % 10) (by omega)]
def valL (l : List UInt8) : Nat := l.foldl (fun a c => a * 10 + (c.toNat - 48)) 0
theorem val_dec (n : Nat) : valL (decL n) = n := by
  induction n using Nat.strongRecOn with
  | ind n ih =>
    have hc : ∀ d, d < 10 → (UInt8.ofNat (48 + d)).toNat - 48 = d := fun d hd => by rw [UInt8.toNat_ofNat']; omega
    by_cases h : n < 10
    · rw [decL_small h]; simp only [valL, List.foldl_cons, List.foldl_nil]; rw [hc n h]; omega
    · rw [decL, if_neg h]
      unfold valL
      rw [List.foldl_append]
      have := ih (n / 10) (by omega)
      unfold valL at this
      rw [this]
      simp only [List.foldl_cons, List.foldl_nil]
      rw [hc _ (by omega)]
      omega
theorem dec_inj {m n : Nat} (h : decL m = decL n) : m = n := by rw [← val_dec m, h, val_dec]
theorem dec_len (n : Nat) : (decL n).length ≤ n + 1 := by
  induction n using Nat.strongRecOn with
  | ind n ih =>
    by_cases h : n < 10
    · rw [decL_small h]; simp
    · rw [decL, if_neg h, List.length_append]
      have := ih (n / 10) (by omega)
      simp only [List.length_cons, List.length_nil]
      omega
def xdec (k : Nat) : ByteArray := toBA (88 :: decL k)
theorem xdec_inj {m n : Nat} (h : xdec m = xdec n) : m = n := by
  have := toBA_inj h
  exact dec_inj (List.cons.inj this).2
theorem xdec_few {l : List ByteArray} {k : Nat} (h : ∀ j, 1 ≤ j → j < k → xdec j ∈ l) : k ≤ l.length + 1 := by
  have := nodup_le ((List.range (k - 1)).map (fun j => xdec (j + 1))) l ?_ ?_
  · rw [List.length_map, List.length_range] at this; omega
  · unfold List.Nodup
    rw [List.pairwise_map]
    refine List.nodup_range.imp ?_
    intro a b hab e
    have := xdec_inj e
    omega
  · intro x hx
    obtain ⟨j, hj, rfl⟩ := List.mem_map.1 hx
    have := List.mem_range.1 hj
    exact h (j + 1) (by omega) (by omega)
def IsFresh (l : List ByteArray) (x : ByteArray) : Prop := ∃ k, 1 ≤ k ∧ (∀ j, 1 ≤ j → j < k → xdec j ∈ l) ∧ xdec k ∉ l ∧ x = xdec k
theorem fresh_uniq {l : List ByteArray} {x y : ByteArray} (h : IsFresh l x) (g : IsFresh l y) : x = y := by
  obtain ⟨k, h1, h2, h3, rfl⟩ := h
  obtain ⟨m, g1, g2, g3, rfl⟩ := g
  by_cases e1 : k < m
  · exact absurd (g2 k h1 e1) h3
  · by_cases e2 : m < k
    · exact absurd (h2 m g1 e2) g3
    · rw [show k = m by omega]
def freshFrom (l : List ByteArray) : Nat → Nat → Nat
  | 0, k => k
  | f + 1, k => if hasB l (xdec k) = true then freshFrom l f (k + 1) else k
theorem freshFrom_is (l : List ByteArray) : ∀ f k, 1 ≤ k → (∀ j, 1 ≤ j → j < k → xdec j ∈ l) → l.length + 2 ≤ f + k → IsFresh l (xdec (freshFrom l f k)) := by
  intro f
  induction f with
  | zero =>
    intro k h1 h2 h3
    have := xdec_few h2
    omega
  | succ f ih =>
    intro k h1 h2 h3
    unfold freshFrom
    by_cases hm : xdec k ∈ l
    · rw [if_pos ((hasB_mem l _).2 hm)]
      refine ih (k + 1) (by omega) (fun j a b => ?_) (by omega)
      by_cases e : j < k
      · exact h2 j a e
      · obtain rfl : j = k := by omega
        exact hm
    · rw [if_neg (fun h => hm ((hasB_mem l _).1 h))]
      exact ⟨k, h1, h2, hm, rfl⟩
def freshB (l : List ByteArray) : ByteArray := xdec (freshFrom l (l.length + 1) 1)
theorem freshB_is (l : List ByteArray) : IsFresh l (freshB l) := freshFrom_is l _ 1 (Nat.le_refl _) (fun j a b => by omega) (by omega)
theorem fresh_eq {l : List ByteArray} {x : ByteArray} (h : IsFresh l x) : freshB l = x := fresh_uniq (freshB_is l) h
theorem freshB_not (l : List ByteArray) : freshB l ∉ l := by
  obtain ⟨k, _, _, h, e⟩ := freshB_is l
  rw [e]; exact h
theorem freshB_size (l : List ByteArray) : (freshB l).size ≤ l.length + 3 := by
  obtain ⟨k, _, h, _, e⟩ := freshB_is l
  have := xdec_few h
  rw [e]
  have h2 := dec_len k
  unfold xdec toBA
  simp only [ByteArray.size, List.size_toArray, List.length_cons]
  omega
end Go.Proofs.YtcmdhfccdkjenaaGreatDoor
namespace Go.Proofs.YtcmdhfccdkjenaaGreatDoor
open Go.RowKit Go.Shelf

theorem toBA_app (a b : List UInt8) : toBA (a ++ b) = toBA a ++ toBA b := by
  apply ByteArray.ext
  simp [toBA]
theorem dec_size {n : Nat} (h : n ≤ 100000) : (toBA (decL n)).size ≤ 4294967 := by
  have := dec_len n
  unfold toBA
  simp only [ByteArray.size, List.size_toArray]
  omega
set_option maxRecDepth 100000 in
set_option maxHeartbeats 4000000 in
theorem names_dec (n : Nat) (hn : n ≤ 100000) : ∀ w, Calls Tryz.prog 206 #[.int .i64 n] w fun e w' => e = .returned (.string (toBA (decL n))) ∧ w' = w := by
  induction n using Nat.strongRecOn with
  | ind n ih =>
  intro w
  by_cases h : n < 10
  · have : n = 0 ∨ n = 1 ∨ n = 2 ∨ n = 3 ∨ n = 4 ∨ n = 5 ∨ n = 6 ∨ n = 7 ∨ n = 8 ∨ n = 9 := by omega
    clear ih h hn
    rcases this with rfl | rfl | rfl | rfl | rfl | rfl | rfl | rfl | rfl | rfl
    · show Calls Tryz.prog 206 #[.int .i64 0] w _
      go_enter Tryz.func206, Tryz.ntmps206
      go_wp2
      go_ret
      exact ⟨by rw [decL_small (by omega)]; rfl, rfl⟩
    · show Calls Tryz.prog 206 #[.int .i64 1] w _
      go_enter Tryz.func206, Tryz.ntmps206
      go_wp2
      go_ret
      exact ⟨by rw [decL_small (by omega)]; rfl, rfl⟩
    · show Calls Tryz.prog 206 #[.int .i64 2] w _
      go_enter Tryz.func206, Tryz.ntmps206
      go_wp2
      go_ret
      exact ⟨by rw [decL_small (by omega)]; rfl, rfl⟩
    · show Calls Tryz.prog 206 #[.int .i64 3] w _
      go_enter Tryz.func206, Tryz.ntmps206
      go_wp2
      go_ret
      exact ⟨by rw [decL_small (by omega)]; rfl, rfl⟩
    · show Calls Tryz.prog 206 #[.int .i64 4] w _
      go_enter Tryz.func206, Tryz.ntmps206
      go_wp2
      go_ret
      exact ⟨by rw [decL_small (by omega)]; rfl, rfl⟩
    · show Calls Tryz.prog 206 #[.int .i64 5] w _
      go_enter Tryz.func206, Tryz.ntmps206
      go_wp2
      go_ret
      exact ⟨by rw [decL_small (by omega)]; rfl, rfl⟩
    · show Calls Tryz.prog 206 #[.int .i64 6] w _
      go_enter Tryz.func206, Tryz.ntmps206
      go_wp2
      go_ret
      exact ⟨by rw [decL_small (by omega)]; rfl, rfl⟩
    · show Calls Tryz.prog 206 #[.int .i64 7] w _
      go_enter Tryz.func206, Tryz.ntmps206
      go_wp2
      go_ret
      exact ⟨by rw [decL_small (by omega)]; rfl, rfl⟩
    · show Calls Tryz.prog 206 #[.int .i64 8] w _
      go_enter Tryz.func206, Tryz.ntmps206
      go_wp2
      go_ret
      exact ⟨by rw [decL_small (by omega)]; rfl, rfl⟩
    · show Calls Tryz.prog 206 #[.int .i64 9] w _
      go_enter Tryz.func206, Tryz.ntmps206
      go_wp2
      go_ret
      exact ⟨by rw [decL_small (by omega)]; rfl, rfl⟩
  · have I1 := ih (n / 10) (by omega) (by omega) w
    have I2 := ih (n % 10) (by omega) (by omega) w
    rw [show ((n / 10 : Nat) : Int) = (n : Int) / 10 from Int.natCast_ediv n 10] at I1
    rw [show ((n % 10 : Nat) : Int) = (n : Int) % 10 from Int.natCast_emod n 10] at I2
    have I1 := Lib.hid I1
    have I2 := Lib.hid I2
    have E := Lib.hid (show toBA (decL (n / 10)) ++ toBA (decL (n % 10)) = toBA (decL n) by rw [decL_big h, toBA_app])
    have d : decide ((n : Int) < 10) = false := by rw [decide_eq_false_iff_not]; omega
    have z1 : (toBA (decL (n / 10))).size ≤ 4294967 := dec_size (by omega)
    have z2 : (toBA (decL (n % 10))).size ≤ 4294967 := dec_size (by omega)
    generalize toBA (decL (n / 10)) = y1 at *
    generalize toBA (decL (n % 10)) = y2 at *
    clear ih
    go_enter Tryz.func206, Tryz.ntmps206
    go_wp2_with fail
    refine I1.out.mono ?_
    rintro e w1 ⟨rfl, rfl⟩
    go_wp2_with fail
    refine I2.out.mono ?_
    rintro e w2 ⟨rfl, rfl⟩
    go_wp2
    go_ret
    exact ⟨by rw [← E.out]; rfl, rfl⟩
def FreshRel (l : List ByteArray) (w : World) (vo i : Value) (wr : World) : Prop :=
  (∃ k : Nat, 1 ≤ k ∧ k ≤ l.length + 2 ∧ i = .int .i64 k ∧ vo = .slice none 0 0 ∧ wr = w ∧ ∀ j, 1 ≤ j → j < k → xdec j ∈ l) ∨
  ∃ (k : Nat) (b : Nat) (c : Nat), i = .int .i64 k ∧ vo = .slice (some ⟨b, 0, none⟩) 1 c ∧ Sl wr 1 (.slice (some ⟨b, 0, none⟩) 1 c) 1 [.string (freshB l)] ∧ Below w.heap.size w wr
set_option maxRecDepth 100000 in
set_option maxHeartbeats 4000000 in
theorem names_Fresh1 (b : Nat) (l : List ByteArray) (w : World) (h : TabAt w b l) (hl : AscB l) (hn : l.length ≤ 1000) :
    Calls Tryz.prog 167 #[.pointer (some ⟨b, 0, none⟩), .int .i64 1] w fun e w' => ∃ g c, e = .returned (.slice (some ⟨g, 0, none⟩) 1 c) ∧ Sl w' 1 (.slice (some ⟨g, 0, none⟩) 1 c) 1 [.string (freshB l)] ∧ Below w.heap.size w w' := by
  have FI := Lib.hid (fun s => tab_Find b l s w h hl (by omega))
  clear h hl
  go_enter Tryz.func167, Tryz.ntmps167
  go_wp2_with fail
  go_loopw [4, 5] (fun vo i wr => FreshRel l w vo i wr) (fun _ i _ => l.length + 3 - (intOf i).toNat)
  case atStart => exact .inl ⟨1, Nat.le_refl _, by omega, rfl, rfl, rfl, fun j a c => by omega⟩
  case round =>
    rcases hrel with ⟨k, hk1, hk2, rfl, rfl, rfl, hall⟩ | ⟨k, g, c, rfl, rfl, hs, hb⟩
    · have HALL := Lib.hid hall
      have DC := Lib.hid (names_dec k (by omega) wr)
      have z1 : (toBA (decL k)).size ≤ 4294967 := dec_size (by omega)
      have E := Lib.hid (show ByteArray.mk #[88] ++ toBA (decL k) = xdec k by unfold xdec; rw [show 88 :: decL k = [88] ++ decL k from rfl, toBA_app]; rfl)
      have hk3 : xdec k ∉ l → k ≤ l.length + 1 := fun _ => xdec_few hall
      have FS := Lib.hid (fun (hf : xdec k ∉ l) => fresh_eq ⟨k, hk1, hall, hf, rfl⟩)
      have PI := Lib.hid (fun (hf : xdec k ∈ l) => place_in hf)
      have PN := Lib.hid (fun (hf : xdec k ∉ l) => show placeB l (xdec k) = -1 by unfold placeB; rw [if_neg (fun e => hf ((hasB_mem l _).1 e))])
      have FIk := Lib.hid (FI.out (xdec k))
      have HN := Lib.hid (fun (hf : xdec k ∈ l) => show k + 1 ≤ l.length + 2 by have := xdec_few (l := l) (k := k + 1) (fun j a c => by by_cases e : j < k; exact hall j a e; rw [show j = k by omega]; exact hf); omega)
      have HA2 := Lib.hid (fun (hf : xdec k ∈ l) j (a : 1 ≤ j) (c : j < k + 1) => show xdec j ∈ l by by_cases e : j < k; exact hall j a e; rw [show j = k by omega]; exact hf)
      generalize xdec k = x at *
      generalize toBA (decL k) = y1 at *
      clear hall FI hk3
      by_cases hx : x ∈ l
      · have hp := PI.out hx
        have hn2 := HN.out hx
        have HA3 := Lib.hid (HA2.out hx)
        generalize placeB l x = pl at *
        have d : decide (pl < 0) = false := by rw [decide_eq_false_iff_not]; omega
        clear PI PN HN HA2 FS hx hp
        go_wp2_with fail
        refine DC.out.mono ?_
        rintro e w1 ⟨rfl, rfl⟩
        go_wp2_with fail
        rw [E.out]
        refine FIk.out.mono ?_
        rintro e w1 ⟨rfl, rfl⟩
        go_wp2_with fail
        exact ⟨.inl ⟨k + 1, by omega, by omega, by go_num, rfl, rfl, HA3.out⟩, by simp [intOf]; omega⟩
      · have hp := PN.out hx
        rw [hp] at FIk
        have FX := Lib.hid (FS.out hx)
        clear PI PN HN HA2 FS hx hp
        go_wp2_with fail
        refine DC.out.mono ?_
        rintro e w1 ⟨rfl, rfl⟩
        go_wp2_with fail
        rw [E.out]
        refine FIk.out.mono ?_
        rintro e w1 ⟨rfl, rfl⟩
        go_wp2_with (at_builtin; refine halt_ ?_)
        unfold Halt_
        refine app_own Tryz.underlying38 str_info rfl (by decide) (by decide) rfl _ _ rfl w1.heap.size rfl (World.ownsRow_nil _ _ _ _) [.string x] rfl (heap_new1 _ _) rfl (str1 _) ?_ ?_ ?_
        · omega
        · simp
        intro a' cap' w6 hown' hgrow
        have HB6 := Lib.hid (show Below w1.heap.size w1 w6 from ((Below.refl _ _).alloc (Nat.le_refl _) (.cells #[.string x] 9)).trans ((below_of_none (show (w1.alloc (.cells #[.string x] 9)).grownBy w6 none from hgrow)).mono (by simp)))
        have HS6 := Lib.hid (Sl.of_own hown')
        obtain ⟨_, hf⟩ | ⟨g, cap, cur, hv, _⟩ := hown'.2
        · omega
        simp only [Value.slice.injEq] at hv
        obtain ⟨rfl, _, rfl⟩ := hv
        clear hown' hgrow
        go_wp2_with fail
        exact ⟨.inr ⟨k + 1, g, cap', by go_num, rfl, by rw [FX.out]; exact HS6.out, HB6.out⟩, by simp [intOf]; omega⟩
    · have HS := Lib.hid hs
      have HB := Lib.hid hb
      clear hs hb
      go_wp2_with fail
      go_ret
      exact ⟨g, c, rfl, HS.out, HB.out⟩
end Go.Proofs.YtcmdhfccdkjenaaGreatDoor
namespace Go.Proofs.YtcmdhfccdkjenaaGreatDoor
open Go.RowKit Go.Shelf

section
variable {α : Type} {l : List α} {p : α → Bool}
end

def stays (h : List Rl) (m : List St) (s : St) : Bool := hasR h s.h && !hasS m s
end Go.Proofs.YtcmdhfccdkjenaaGreatDoor
namespace Go.Proofs.YtcmdhfccdkjenaaGreatDoor
open Go.RowKit Go.Shelf

def memS (r : Rl) (x : ByteArray) : St := ⟨1, r, x, noR, noR, emp⟩
def allR (A B : List ByteArray) : List Rl := A.flatMap (fun a => B.map (fun n => ⟨a, n⟩))
def putX (A : List ByteArray) : List ByteArray := insSB A (freshB A)
def rolesX (A B : List ByteArray) (g : List Rl) : List Rl := ordR ((allR (putX A) B).filter (fun r => !hasR g r))
def memsX (R : List Rl) (A : List ByteArray) : List St := R.flatMap (fun r => A.map (memS r))
def maxS (l : List St) (g : List Rl) (A B : List ByteArray) : List St := ord (l ++ memsX (rolesX A B g) (putX A))
theorem allR_mem {A B : List ByteArray} {r : Rl} : r ∈ allR A B ↔ r.o ∈ A ∧ r.n ∈ B := by
  unfold allR
  rw [List.mem_flatMap]
  constructor
  · rintro ⟨a, ha, hr⟩
    obtain ⟨n, hn, rfl⟩ := List.mem_map.1 hr
    exact ⟨ha, hn⟩
  · rintro ⟨h1, h2⟩
    exact ⟨r.o, h1, List.mem_map.2 ⟨r.n, h2, rfl⟩⟩
theorem allR_len (A B : List ByteArray) : (allR A B).length = A.length * B.length := by
  unfold allR
  induction A with
  | nil => simp
  | cons a r ih => rw [List.flatMap_cons, List.length_append, ih, List.length_map, List.length_cons, Nat.add_mul, Nat.one_mul, Nat.add_comm]
theorem putX_mem {A : List ByteArray} {x : ByteArray} : x ∈ putX A ↔ x ∈ A ∨ x = freshB A := insS_memB A _ x
theorem putX_len (A : List ByteArray) : (putX A).length ≤ A.length + 1 := insS_lenB A _
theorem putX_asc {A : List ByteArray} (h : AscB A) : AscB (putX A) := insS_ascB h _
theorem hasR_no {l : List Rl} {r : Rl} : (!hasR l r) = true ↔ r ∉ l := by
  rw [← hasR_mem]; cases hasR l r <;> simp
theorem rolesX_mem {A B : List ByteArray} {g : List Rl} {r : Rl} : r ∈ rolesX A B g ↔ (r.o ∈ putX A ∧ r.n ∈ B) ∧ r ∉ g := by
  unfold rolesX
  rw [ord_memR, List.mem_filter, allR_mem, hasR_no]
theorem rolesX_len (A B : List ByteArray) (g : List Rl) : (rolesX A B g).length ≤ (A.length + 1) * B.length := by
  unfold rolesX
  refine Nat.le_trans (ord_lenR _) (Nat.le_trans (List.length_filter_le _ _) ?_)
  rw [allR_len]
  exact Nat.mul_le_mul (putX_len A) (Nat.le_refl _)
theorem memsX_mem {R : List Rl} {A : List ByteArray} {s : St} : s ∈ memsX R A ↔ ∃ r x, s = memS r x ∧ r ∈ R ∧ x ∈ A := by
  unfold memsX
  rw [List.mem_flatMap]
  constructor
  · rintro ⟨r, hr, hs⟩
    obtain ⟨x, hx, rfl⟩ := List.mem_map.1 hs
    exact ⟨r, x, rfl, hr, hx⟩
  · rintro ⟨r, x, rfl, hr, hx⟩
    exact ⟨r, hr, List.mem_map.2 ⟨x, hx, rfl⟩⟩
theorem memsX_len (R : List Rl) (A : List ByteArray) : (memsX R A).length = R.length * A.length := by
  unfold memsX
  induction R with
  | nil => simp
  | cons a r ih => rw [List.flatMap_cons, List.length_append, ih, List.length_map, List.length_cons, Nat.add_mul, Nat.one_mul, Nat.add_comm]
theorem maxS_mem {l : List St} {g : List Rl} {A B : List ByteArray} {s : St} : s ∈ maxS l g A B ↔ s ∈ l ∨ ∃ r x, s = memS r x ∧ ((r.o ∈ putX A ∧ r.n ∈ B) ∧ r ∉ g) ∧ x ∈ putX A := by
  unfold maxS
  rw [ord_mem, List.mem_append, memsX_mem]
  constructor
  · rintro (h | ⟨r, x, h1, h2, h3⟩)
    · exact .inl h
    · exact .inr ⟨r, x, h1, rolesX_mem.1 h2, h3⟩
  · rintro (h | ⟨r, x, h1, h2, h3⟩)
    · exact .inl h
    · exact .inr ⟨r, x, h1, rolesX_mem.2 h2, h3⟩
theorem maxS_len (l : List St) (g : List Rl) (A B : List ByteArray) : (maxS l g A B).length ≤ l.length + (A.length + 1) * (A.length + 1) * B.length := by
  unfold maxS
  refine Nat.le_trans (ord_len _) ?_
  rw [List.length_append, memsX_len]
  have h1 := Nat.mul_le_mul (rolesX_len A B g) (putX_len A)
  have h2 : (A.length + 1) * B.length * (A.length + 1) = (A.length + 1) * (A.length + 1) * B.length := by rw [Nat.mul_right_comm]
  omega
theorem maxS_in {l : List St} {g : List Rl} {A B : List ByteArray} (h : ∀ s ∈ l, InAB A B s) : ∀ s ∈ maxS l g A B, InAB (putX A) B s := by
  intro s hs
  rcases maxS_mem.1 hs with h1 | ⟨r, x, rfl, ⟨⟨h2, h3⟩, _⟩, h4⟩
  · have := h s h1
    exact ⟨fun x hx => ⟨putX_mem.2 (.inl (this.r x hx).1), (this.r x hx).2⟩, fun x hx => putX_mem.2 (.inl (this.w x hx)), this.v⟩
  · refine ⟨fun y hy => ?_, fun y hy => ?_, fun y hy => ?_⟩
    · have : y ∈ [r] := hy
      rw [List.mem_singleton.1 this]; exact ⟨h2, h3⟩
    · have : y ∈ [x] := hy
      rw [List.mem_singleton.1 this]; exact h4
    · have : y ∈ ([] : List ByteArray) := hy
      cases this
def sig (A : List ByteArray) (x : ByteArray) : ByteArray := if hasB A x = true then x else freshB A
theorem sig_in {A : List ByteArray} {x : ByteArray} (h : x ∈ A) : sig A x = x := if_pos ((hasB_mem A x).2 h)
theorem sig_no {A : List ByteArray} {x : ByteArray} (h : x ∉ A) : sig A x = freshB A := if_neg (fun e => h ((hasB_mem A x).1 e))
theorem sig_putX (A : List ByteArray) (x : ByteArray) : sig A x ∈ putX A := by
  rw [putX_mem]; unfold sig; split
  · exact .inl ((hasB_mem A x).1 ‹_›)
  · exact .inr rfl
theorem roles_head (s : St) : s.h ∈ rolesS s := by
  unfold rolesS
  split
  · simp
  · split <;> simp
theorem max_bounds {l c : List St} {g : List Rl} {A B : List ByteArray} {D E : Rl → ByteArray → Prop} (hAB : ∀ s ∈ l, InAB A B s) (hg : ∀ r ∈ g, r.o ∈ A) (hD : LeastS (maxS l g A B) D) (hE : LeastS c E)
    (hc : ∀ s ∈ c, s ∈ l ∨ s.h ∉ g) : ∀ r x, E r x → r.n ∈ B → D ⟨sig A r.o, r.n⟩ (sig A x) := by
  intro r x h
  refine hE.min (fun r x => r.n ∈ B → D ⟨sig A r.o, r.n⟩ (sig A x)) ?_ r x h
  have anew : ∀ s ∈ c, s ∉ l → ∀ y, s.h.n ∈ B → D ⟨sig A s.h.o, s.h.n⟩ (sig A y) := by
    intro s hs hl y hn
    have hng : s.h ∉ g := by
      rcases hc s hs with h | h
      · exact absurd h hl
      · exact h
    refine hD.clo.mem (memS ⟨sig A s.h.o, s.h.n⟩ (sig A y)) (maxS_mem.2 (.inr ⟨_, _, rfl, ⟨⟨sig_putX A _, hn⟩, fun hm => ?_⟩, sig_putX A _⟩)) rfl
    have ho := hg _ hm
    dsimp only at ho
    by_cases e : s.h.o ∈ A
    · rw [sig_in e] at hm; exact hng hm
    · rw [sig_no e] at ho; exact freshB_not A ho
  have hh : ∀ s ∈ l, (⟨sig A s.h.o, s.h.n⟩ : Rl) = s.h := fun s hs => by rw [sig_in ((hAB s hs).r _ (roles_head s)).1]
  have ha : ∀ s ∈ l, s.k = 2 ∨ s.k = 3 ∨ s.k = 4 → (⟨sig A s.a.o, s.a.n⟩ : Rl) = s.a ∧ s.a.n ∈ B := fun s hs hk => by
    have := (hAB s hs).r s.a (by
      unfold rolesS
      rcases hk with h | h | h
      · rw [if_pos (.inl h)]; simp
      · rw [if_pos (.inr h)]; simp
      · rw [if_neg (by omega), if_pos h]; simp)
    exact ⟨by rw [sig_in this.1], this.2⟩
  have hb : ∀ s ∈ l, s.k = 4 → (⟨sig A s.b.o, s.b.n⟩ : Rl) = s.b ∧ s.b.n ∈ B := fun s hs hk => by
    have := (hAB s hs).r s.b (by unfold rolesS; rw [if_neg (by omega), if_pos hk]; simp)
    exact ⟨by rw [sig_in this.1], this.2⟩
  have lm : ∀ s ∈ l, s ∈ maxS l g A B := fun s hs => maxS_mem.2 (.inl hs)
  refine ⟨fun s hs hk hn => ?_, fun s hs hk x h1 hn => ?_, fun s hs hk x y h1 h2 hn => ?_, fun s hs hk x h1 h2 hn => ?_⟩ <;> by_cases hl : s ∈ l
  · rw [hh s hl, sig_in ((hAB s hl).w _ (by unfold whoS; rw [if_pos hk]; simp))]
    exact hD.clo.mem s (lm s hl) hk
  · exact anew s hs hl _ hn
  · rw [hh s hl]
    obtain ⟨e, hn'⟩ := ha s hl (.inl hk)
    have := h1 hn'
    rw [e] at this
    exact hD.clo.incl s (lm s hl) hk _ this
  · exact anew s hs hl _ hn
  · rw [hh s hl]
    obtain ⟨e, hn'⟩ := ha s hl (.inr (.inl hk))
    have := h1 hn'
    rw [e] at this
    exact hD.clo.link s (lm s hl) hk _ _ this (h2 ((hAB s hl).v _ (by unfold viaS; rw [if_pos hk]; simp)))
  · exact anew s hs hl _ hn
  · rw [hh s hl]
    obtain ⟨e, hn'⟩ := ha s hl (.inr (.inr hk))
    obtain ⟨e', hn''⟩ := hb s hl hk
    have k1 := h1 hn'
    have k2 := h2 hn''
    rw [e] at k1
    rw [e'] at k2
    exact hD.clo.both s (lm s hl) hk _ k1 k2
  · exact anew s hs hl _ hn
theorem digit_alnum {n : Nat} : ∀ c ∈ decL n, alnum c = true := by
  induction n using Nat.strongRecOn with
  | ind n ih =>
    have hc : ∀ d, d < 10 → alnum (UInt8.ofNat (48 + d)) = true := fun d hd => by
      have : d = 0 ∨ d = 1 ∨ d = 2 ∨ d = 3 ∨ d = 4 ∨ d = 5 ∨ d = 6 ∨ d = 7 ∨ d = 8 ∨ d = 9 := by omega
      rcases this with rfl | rfl | rfl | rfl | rfl | rfl | rfl | rfl | rfl | rfl <;> decide
    by_cases h : n < 10
    · rw [decL_small h]
      intro c hm
      rw [List.mem_singleton.1 hm]
      exact hc n h
    · rw [decL, if_neg h]
      intro c hm
      rcases List.mem_append.1 hm with hm | hm
      · exact ih (n / 10) (by omega) c hm
      · rw [List.mem_singleton.1 hm]
        exact hc _ (by omega)
theorem fresh_prin {A : List ByteArray} (h : A.length ≤ 16) : isP 65 90 (bl (freshB A)) = true := by
  obtain ⟨k, h1, h2, _, e⟩ := freshB_is A
  have hk := xdec_few h2
  rw [e]
  unfold xdec
  rw [bl_toBA]
  unfold isP
  have hl : (decL k).length ≤ 2 := by
    by_cases h10 : k < 10
    · rw [decL_small h10]; exact (show 1 ≤ 2 by decide)
    · rw [decL_big h10, decL_small (by omega), decL_small (by omega)]; exact (show 2 ≤ 2 by decide)
  rw [Bool.and_eq_true, Bool.and_eq_true, List.all_cons, Bool.and_eq_true]
  refine ⟨⟨?_, by decide⟩, by decide, List.all_eq_true.2 (fun c hc => digit_alnum c hc)⟩
  rw [decide_eq_true_iff, List.length_cons]; omega
theorem right_mem {r : Rl} {x : ByteArray} (h1 : isRole r = true) (h2 : isP 65 90 (bl x) = true) : rightS (memS r x) = true := by
  unfold memS; rw [rightS1, h1, h2]; simp [eqSt]
theorem maxS_right {l : List St} {g : List Rl} {A B : List ByteArray} (hl : ∀ s ∈ l, rightS s = true) (hA : ∀ a ∈ A, isP 65 90 (bl a) = true) (hB : ∀ n ∈ B, isP 97 122 (bl n) = true) (h6 : A.length ≤ 16) : ∀ s ∈ maxS l g A B, rightS s = true := by
  have hX : ∀ a ∈ putX A, isP 65 90 (bl a) = true := fun a ha => by
    rcases putX_mem.1 ha with h | rfl
    · exact hA a h
    · exact fresh_prin h6
  intro s hs
  rcases maxS_mem.1 hs with h1 | ⟨r, x, rfl, ⟨⟨h2, h3⟩, _⟩, h4⟩
  · exact hl s h1
  · exact right_mem (by unfold isRole; rw [hX _ h2, hB _ h3]; rfl) (hX _ h4)
theorem isP_size {lo hi : Int} {x : ByteArray} (h : isP lo hi (bl x) = true) : x.size ≤ 8 := by
  unfold isP at h
  split at h
  · cases h
  · rename_i c r e
    rw [Bool.and_eq_true, Bool.and_eq_true, decide_eq_true_iff] at h
    have := bl_len x
    rw [e] at this
    omega
theorem right_roles {s : St} (h : rightS s = true) : (∀ r ∈ rolesS s, isRole r = true) ∧ (∀ x ∈ whoS s, isP 65 90 (bl x) = true) ∧ ∀ x ∈ viaS s, isP 97 122 (bl x) = true := by
  have hk := right_kinds h
  unfold rightS at h
  rw [Bool.and_eq_true] at h
  obtain ⟨hh, h⟩ := h
  unfold rolesS whoS viaS
  rcases hk with e | e | e | e
  · rw [if_pos e] at h
    simp only [Bool.and_eq_true] at h
    rw [if_neg (by omega), if_neg (by omega), if_pos e, if_neg (by omega)]
    exact ⟨fun r hr => by rw [List.mem_singleton.1 hr]; exact hh, fun x hx => by rw [List.mem_singleton.1 hx]; exact h.1.1.1, fun x hx => by cases hx⟩
  · rw [if_neg (by omega), if_pos e] at h
    simp only [Bool.and_eq_true] at h
    rw [if_pos (.inl e), if_neg (by omega), if_neg (by omega)]
    refine ⟨fun r hr => ?_, fun x hx => (by cases hx), fun x hx => (by cases hx)⟩
    simp only [List.mem_cons, List.not_mem_nil, or_false] at hr
    rcases hr with rfl | rfl
    · exact hh
    · exact h.1.1.2
  · rw [if_neg (by omega), if_neg (by omega), if_pos e] at h
    simp only [Bool.and_eq_true] at h
    rw [if_pos (.inr e), if_neg (by omega), if_pos e]
    refine ⟨fun r hr => ?_, fun x hx => (by cases hx), fun x hx => by rw [List.mem_singleton.1 hx]; exact h.2⟩
    simp only [List.mem_cons, List.not_mem_nil, or_false] at hr
    rcases hr with rfl | rfl
    · exact hh
    · exact h.1.1.2
  · rw [if_neg (by omega), if_neg (by omega), if_neg (by omega), if_pos e] at h
    simp only [Bool.and_eq_true] at h
    rw [if_neg (by omega), if_pos e, if_neg (by omega), if_neg (by omega)]
    refine ⟨fun r hr => ?_, fun x hx => (by cases hx), fun x hx => (by cases hx)⟩
    simp only [List.mem_cons, List.not_mem_nil, or_false] at hr
    rcases hr with rfl | rfl | rfl
    · exact hh
    · exact h.1.1.1.2
    · exact h.1.1.2
theorem role_parts {r : Rl} (h : isRole r = true) : isP 65 90 (bl r.o) = true ∧ isP 97 122 (bl r.n) = true := by
  unfold isRole at h; rwa [Bool.and_eq_true] at h
theorem rightQ_parts {q : Qv} {us : List ByteArray} (h : rightQ q us = true) : (1 ≤ q.k ∧ q.k ≤ 6) ∧ (∀ r ∈ rolesQ q, isRole r = true) ∧ ∀ x ∈ us, isP 65 90 (bl x) = true := by
  unfold rightQ at h
  simp only [Bool.and_eq_true, decide_eq_true_iff] at h
  obtain ⟨h1, h2, h3, h4, h5⟩ := h
  refine ⟨⟨h1, h2⟩, fun r hr => ?_, fun x hx => ?_⟩
  · unfold rolesQ at hr
    by_cases e : q.k = 5 ∨ q.k = 6
    · rw [if_pos e] at hr
      rw [if_pos (by omega)] at h5
      simp only [Bool.and_eq_true] at h5
      simp only [List.mem_cons, List.not_mem_nil, or_false] at hr
      rcases hr with rfl | rfl
      · exact h3
      · exact h5.1
    · rw [if_neg e] at hr
      rw [List.mem_singleton.1 hr]; exact h3
  · obtain ⟨i, hi, rfl⟩ := List.getElem_of_mem hx
    unfold rises at h4
    rw [List.all_eq_true] at h4
    have := h4 i (List.mem_range.2 hi)
    unfold risesAt at this
    rw [Bool.and_eq_true] at this
    rw [List.getD_eq_getElem?_getD, List.getElem?_eq_getElem hi] at this
    exact this.1
theorem RightP.names {l : List St} {g h : List Rl} {qs : List Qv} {F : Qv → List ByteArray} (hr : RightP l g h qs F) : (∀ x ∈ newB (allPrins l g h qs F), isP 65 90 (bl x) = true) ∧ ∀ x ∈ newB (allNames l g h qs), isP 97 122 (bl x) = true := by
  obtain ⟨h1, h2, h3, _⟩ := hr
  have hroles : ∀ r ∈ allRoles l g h qs, isRole r = true := by
    intro r hr
    unfold allRoles at hr
    rw [List.mem_append, List.mem_append, List.mem_append] at hr
    rcases hr with ((hr | hr) | hr) | hr
    · obtain ⟨s, hs, hr⟩ := List.mem_flatMap.1 hr
      exact (right_roles (h1 s hs)).1 r hr
    · exact h2 r (List.mem_append.2 (.inl hr))
    · exact h2 r (List.mem_append.2 (.inr hr))
    · obtain ⟨q, hq, hr⟩ := List.mem_flatMap.1 hr
      exact (rightQ_parts (h3 q hq)).2.1 r hr
  refine ⟨fun x hx => ?_, fun x hx => ?_⟩
  · rw [new_mem] at hx
    unfold allPrins at hx
    rw [List.mem_append, List.mem_append] at hx
    rcases hx with (hx | hx) | hx
    · obtain ⟨r, hr, rfl⟩ := List.mem_map.1 hx
      exact (role_parts (hroles r hr)).1
    · obtain ⟨s, hs, hx⟩ := List.mem_flatMap.1 hx
      exact (right_roles (h1 s hs)).2.1 x hx
    · obtain ⟨q, hq, hx⟩ := List.mem_flatMap.1 hx
      exact (rightQ_parts (h3 q hq)).2.2 x hx
  · rw [new_mem] at hx
    unfold allNames at hx
    rw [List.mem_append] at hx
    rcases hx with hx | hx
    · obtain ⟨r, hr, rfl⟩ := List.mem_map.1 hx
      exact (role_parts (hroles r hr)).2
    · obtain ⟨s, hs, hx⟩ := List.mem_flatMap.1 hx
      exact (right_roles (h1 s hs)).2.2 x hx
theorem maxS_le {l : List St} {g : List Rl} {A B : List ByteArray} (hl : allLe l 4294967) (hA : ∀ a ∈ A, isP 65 90 (bl a) = true) (hB : ∀ n ∈ B, isP 97 122 (bl n) = true) (h60 : A.length ≤ 60) : allLe (maxS l g A B) 4294967 := by
  have hX : ∀ a ∈ putX A, a.size ≤ 4294967 := fun a ha => by
    rcases putX_mem.1 ha with h | rfl
    · have := isP_size (hA a h); omega
    · have := freshB_size A; omega
  intro s hs
  rcases maxS_mem.1 hs with h1 | ⟨r, x, rfl, ⟨⟨h2, h3⟩, _⟩, h4⟩
  · exact hl s h1
  · have := isP_size (hB _ h3)
    exact ⟨⟨hX _ h2, by dsimp only [memS]; omega⟩, hX _ h4, ⟨Nat.zero_le 4294967, Nat.zero_le 4294967⟩, ⟨Nat.zero_le 4294967, Nat.zero_le 4294967⟩, Nat.zero_le 4294967⟩
end Go.Proofs.YtcmdhfccdkjenaaGreatDoor
namespace Go.Proofs.YtcmdhfccdkjenaaGreatDoor
open Go.RowKit Go.Shelf

theorem rl_Grow (n : Nat) (w : World) (hn : n ≤ 2000) : Calls Tryz.prog 215 #[.slice none 0 0, .int .i64 n] w fun e w' =>
    ∃ a cap, e = .returned (.slice a 0 cap) ∧ w'.ownsRow w.heap.size 28 2 (.slice a 0 cap) 0 [] ∧ Below w.heap.size w w' := by
  by_cases h0 : 0 < n
  · obtain ⟨inf, hinf, hz0, hz1, hz2⟩ := info_parts rl_info'
    refine (Any8.slices_Grow_grow Tryz.growR inf _ hinf hz0 (by omega) none 0 0 n [] w (Nat.le_refl _) (by omega) (by rw [hz2]; omega) (by omega) (by simp) (fun _ => rfl) (fun a h => by cases h)).mono ?_
    rintro e w' ⟨rfl, rfl⟩
    have hge := grownCap_ge w (0 + n) 0 28
    have hle := grownCap_le_maxLen w (0 + n) 0 28 (by simp only [maxLen]; omega)
    refine ⟨_, _, rfl, World.ownsRow_made w.drew _ _ (Nat.le_refl _) hle ?_, (below_drew (Below.refl _ _)).alloc (Nat.le_refl _) _⟩
    rw [Nat.zero_add] at hge hle ⊢
    simp [Builtin.zeroCells, Value.cells]
    rw [show Tryz.growR_ren.t 25 = 28 from rfl]
    omega
  · obtain rfl : n = 0 := by omega
    refine (Any8.slices_Grow_room Tryz.growR none 0 0 0 w (Nat.le_refl _) (by omega) (by omega) (by omega)).mono ?_
    rintro e w' ⟨rfl, rfl⟩
    exact ⟨_, _, rfl, World.ownsRow_nil _ _ _ _, Below.refl _ _⟩
set_option maxRecDepth 100000 in
set_option maxHeartbeats 4000000 in
theorem rl_Concat (g : Nat) (va vb : Value) (l m : List Rl) (w : World) (hg : Blk w g #[va, vb]) (ha : SlA w 2 va l.length (l.flatMap Rl.cells)) (hb : SlA w 2 vb m.length (m.flatMap Rl.cells)) (hl : l.length ≤ 1000) (hm : m.length ≤ 1000) :
    Calls Tryz.prog 179 #[.slice (some ⟨g, 0, none⟩) 2 2] w fun e w' => ∃ v, e = .returned v ∧ Sl w' 2 v (l ++ m).length ((l ++ m).flatMap Rl.cells) ∧ Below w.heap.size w w' := by
  have HA := Lib.hid ha
  have HB := Lib.hid hb
  have HG := Lib.hid hg
  obtain ⟨ao, ac, hva⟩ := ha.form
  obtain ⟨bo, bc, hvb⟩ := hb.form
  subst hva hvb
  have GR : Hid (∀ W, Calls Tryz.prog 215 #[.slice none 0 0, .int .i64 ((l.length : Int) + (m.length : Int))] W fun e w' =>
      ∃ a cap, e = .returned (.slice a 0 cap) ∧ w'.ownsRow W.heap.size 28 2 (.slice a 0 cap) 0 [] ∧ Below W.heap.size W w') := Lib.hid (fun W => by
    have h := rl_Grow (l.length + m.length) W (by omega)
    rw [Int.natCast_add] at h
    exact h)
  have c0 : w.cell? ⟨g, 0, none⟩ = some (.slice ao l.length ac) := (hg.1 0).trans rfl
  have c1 : w.cell? ⟨g, 1, none⟩ = some (.slice bo m.length bc) := (hg.1 1).trans rfl
  have hgw : g < w.heap.size := hg.2.2
  clear ha hb hg
  go_enter Tryz.func179, Tryz.ntmps179
  go_wp2
  go_loop [3, 11] (fun n i => (n = .int .i64 0 ∧ i = .int .i64 0) ∨ (n = .int .i64 l.length ∧ i = .int .i64 1) ∨ (n = .int .i64 ((l.length : Int) + (m.length : Int)) ∧ i = .int .i64 2)) (fun _ i => 2 - (intOf i).toNat)
  case atStart => exact .inl ⟨rfl, rfl⟩
  case round =>
    obtain ⟨rfl, rfl⟩ | ⟨rfl, rfl⟩ | ⟨rfl, rfl⟩ := hrel
    · have d : decide ((l.length : Int) < 0) = false := by (rw [decide_eq_false_iff_not]; omega)
      have hw : IntKind.i64.wrap ((0 : Int) + (l.length : Int)) = (l.length : Int) := by rw [Int.zero_add]; exact Go.IntWalk.i64_in _ (by omega)
      go_wp2
      exact ⟨.inr (.inl ⟨rfl, rfl⟩), by simp [intOf]⟩
    · have d : decide ((l.length : Int) + (m.length : Int) < 0) = false := by (rw [decide_eq_false_iff_not]; omega)
      have hw : IntKind.i64.wrap ((l.length : Int) + (m.length : Int)) = (l.length : Int) + (m.length : Int) := Go.IntWalk.i64_in _ (by omega)
      go_wp2
      exact ⟨.inr (.inr ⟨rfl, rfl⟩), by simp [intOf]⟩
    · go_wp2_with fail
      refine (GR.out _).mono ?_
      rintro e w1 ⟨a1, cap1, rfl, hown, hb1⟩
      have HO := Lib.hid hown
      have HB1 := Lib.hid hb1
      clear hown hb1 c0 c1 hgw
      go_wp2_with fail
      go_loopw [6, 27] (fun vo i wr => Hid (Below w.heap.size w wr) ∧ ((i = .int .i64 0 ∧ Hid (wr.ownsRow w.heap.size 28 2 vo 0 [])) ∨ (i = .int .i64 1 ∧ Hid (wr.ownsRow w.heap.size 28 2 vo l.length (l.flatMap Rl.cells))) ∨ (i = .int .i64 2 ∧ Hid (wr.ownsRow w.heap.size 28 2 vo (l.length + m.length) ((l ++ m).flatMap Rl.cells))))) (fun _ i _ => 2 - (intOf i).toNat)
      case atStart => exact ⟨HB1, .inl ⟨rfl, HO⟩⟩
      case round =>
        obtain ⟨HBR, ⟨rfl, HOR⟩ | ⟨rfl, HOR⟩ | ⟨rfl, HOR⟩⟩ := hrel
        · have hbk := HG.out.below HBR.out
          have c0 : wr.cell? ⟨g, 0, none⟩ = some (.slice ao l.length ac) := (hbk.1 0).trans rfl
          have hgw : g < wr.heap.size := hbk.2.2
          obtain ⟨xo, xc, rfl⟩ := own_form HOR.out
          clear hbk
          go_wp2_with (at_builtin; refine halt_ ?_)
          unfold Halt_
          refine app_row Tryz.underlying23 rl_info' rfl (by decide) (by decide) rfl _ _ rfl w.heap.size rfl HOR.out rfl (HA.out.below HBR.out) (rls_one _) (by omega) HBR.out.size ?_
          intro a' cap' w3 hown' hgrow
          have HO3 := Lib.hid (show w3.ownsRow w.heap.size 28 2 (.slice a' l.length cap') l.length (l.flatMap Rl.cells) by simpa using hown')
          have HB3 := Lib.hid (below_own HBR.out HOR.out hgrow HBR.out.size (Nat.le_refl _))
          clear hown' hgrow
          go_wp2_with fail
          exact ⟨⟨HB3, .inr (.inl ⟨rfl, HO3⟩)⟩, by simp [intOf]⟩
        · have hbk := HG.out.below HBR.out
          have c1 : wr.cell? ⟨g, 1, none⟩ = some (.slice bo m.length bc) := (hbk.1 1).trans rfl
          have hgw : g < wr.heap.size := hbk.2.2
          obtain ⟨xo, xc, rfl⟩ := own_form HOR.out
          clear hbk
          go_wp2_with (at_builtin; refine halt_ ?_)
          unfold Halt_
          refine app_row Tryz.underlying23 rl_info' rfl (by decide) (by decide) rfl _ _ rfl w.heap.size rfl HOR.out rfl (HB.out.below HBR.out) (rls_one _) (by omega) HBR.out.size ?_
          intro a' cap' w3 hown' hgrow
          have HO3 := Lib.hid (show w3.ownsRow w.heap.size 28 2 (.slice a' (l.length + m.length) cap') (l.length + m.length) ((l ++ m).flatMap Rl.cells) by rw [rl_flat]; exact hown')
          have HB3 := Lib.hid (below_own HBR.out HOR.out hgrow HBR.out.size (Nat.le_refl _))
          clear hown' hgrow
          go_wp2_with fail
          exact ⟨⟨HB3, .inr (.inr ⟨rfl, HO3⟩)⟩, by simp [intOf]⟩
        · obtain ⟨xo, xc, rfl⟩ := own_form HOR.out
          have HS := Lib.hid (Sl.of_own HOR.out)
          go_wp2_with fail
          go_ret
          exact ⟨_, rfl, by rw [List.length_append]; exact HS.out, HBR.out⟩
end Go.Proofs.YtcmdhfccdkjenaaGreatDoor
namespace Go.Proofs.YtcmdhfccdkjenaaGreatDoor
open Go.RowKit Go.Shelf

def IdxP (l : List Rl) (p : Rl → Bool) (i : Int) : Prop :=
  (i = -1 ∧ ∀ x ∈ l, p x = false) ∨ ∃ k : Nat, ∃ hk : k < l.length, i = k ∧ p l[k] = true ∧ ∀ j (hj : j < l.length), j < k → p l[j] = false

set_option maxRecDepth 100000 in
set_option maxHeartbeats 2000000 in
theorem rl_IndexFunc (va : Value) (l : List Rl) (w : World) (ha : SlA w 2 va l.length (l.flatMap Rl.cells)) (g : Nat) (cb : Array Value) (p : Rl → Bool)
    (eg : ∀ args w, (callFunc g args).run Tryz.prog w = .ok (.enter g args) w)
    (hp : ∀ x W, x ∈ l → Below w.heap.size w W → Calls Tryz.prog g (#[rv x] ++ cb) W fun e w' => e = .returned (.bool (p x)) ∧ Below W.heap.size W w') :
    Calls Tryz.prog 180 #[va, .func (.func g) #[] cb] w fun e w' => (∃ i : Int, e = .returned (.int .i64 i) ∧ IdxP l p i) ∧ Below w.heap.size w w' := by
  have HP := Lib.hid hp
  have HA := Lib.hid ha
  have hmax := ha.max
  obtain ⟨ao, cap, hva⟩ := ha.form
  subst hva
  clear ha hp
  go_enter Tryz.func180, Tryz.ntmps180
  go_wp2
  go_loopw [8] (fun i wr => ∃ k : Nat, k ≤ l.length ∧ i = .int .i64 k ∧ Hid (Below w.heap.size w wr) ∧ Hid (∀ j (hj : j < l.length), j < k → p l[j] = false)) (fun i _ => l.length - (intOf i).toNat)
  case atStart => exact ⟨0, by omega, rfl, Lib.hid (Below.refl _ _), Lib.hid (fun _ _ h => absurd h (by omega))⟩
  case round =>
    obtain ⟨k, hk, rfl, HB, HJ⟩ := hrel
    by_cases hlt : k < l.length
    · obtain ⟨b1, o1, c1, he1, hc1, hm1, hb1, hx1⟩ := HA.out.pos (by omega)
      simp only [Value.slice.injEq, true_and] at he1
      obtain ⟨rfl, rfl⟩ := he1
      obtain ⟨p0, p1⟩ := rl_cell (w := wr) (fun j u hu => (HB.out.cell (p := ⟨b1, o1 + j, none⟩) hb1).trans (hx1 j u hu)) k hlt
      have hbr : b1 < wr.heap.size := Nat.lt_of_lt_of_le hb1 HB.out.size
      have PC := Lib.hid (fun W h => HP.out l[k] W (List.getElem_mem hlt) h)
      have YES : Hid (p l[k] = true → IdxP l p k) := Lib.hid (fun h => .inr ⟨k, hlt, rfl, h, HJ.out⟩)
      have HJ2 : Hid (p l[k] = false → ∀ j (hj : j < l.length), j < k + 1 → p l[j] = false) := Lib.hid (fun hpk j hj hjk => by
        by_cases h : j < k
        · exact HJ.out j hj h
        · obtain rfl : j = k := by omega
          exact hpk)
      clear hx1
      generalize p l[k] = px at PC YES HJ2
      generalize l[k] = x at *
      obtain ⟨x1, x2⟩ := x
      go_wp2_with fail
      refine (PC.out _ HB.out).mono ?_
      rintro e w2 ⟨rfl, hb2⟩
      have HB2 := Lib.hid (HB.out.trans (hb2.mono HB.out.size))
      clear hb2
      cases px with
      | true =>
        have R := Lib.hid (YES.out rfl)
        go_wp2
        go_ret
        exact ⟨⟨(k : Int), rfl, R.out⟩, HB2.out⟩
      | false =>
        have HJ3 := Lib.hid (HJ2.out rfl)
        go_wp2
        exact ⟨⟨k + 1, by omega, by go_num, HB2, HJ3⟩, by simp [intOf]; omega⟩
    · have R : Hid (IdxP l p (-1)) := Lib.hid (.inl ⟨rfl, fun x hx => by
        obtain ⟨j, hj, rfl⟩ := List.getElem_of_mem hx
        exact HJ.out j hj (by omega)⟩)
      go_wp2
      go_ret
      exact ⟨⟨-1, rfl, R.out⟩, HB.out⟩

structure HalfF (w : World) (b o : Nat) (l : List Rl) (np : Rl → Bool) (j i : Nat) : Prop where
  len : ((l.take j).filter np).length = i
  low : ∀ k (hk : k < ((l.take j).filter np).length), Two w b (o + k * 2) ((l.take j).filter np)[k]
  high : ∀ k (hk : k < l.length), j ≤ k → Two w b (o + k * 2) l[k]
  all : ∀ k, k < l.length → ∃ s0, Two w b (o + k * 2) s0
theorem HalfF.move {w w' : World} {b o j i : Nat} {l : List Rl} {np : Rl → Bool} (h : HalfF w b o l np j i) (hw : ∀ i, w'.cell? ⟨b, i, none⟩ = w.cell? ⟨b, i, none⟩) : HalfF w' b o l np j i :=
  ⟨h.len, fun k hk => (h.low k hk).drop1 (fun _ _ _ => hw _), fun k hk hj => (h.high k hk hj).drop1 (fun _ _ _ => hw _), fun k hk => (h.all k hk).elim fun s0 h0 => ⟨s0, h0.drop1 (fun _ _ _ => hw _)⟩⟩
theorem HalfF.skip {w : World} {b o j i : Nat} {l : List Rl} {np : Rl → Bool} (h : HalfF w b o l np j i) (hj : j < l.length) (e : np l[j] = false) : HalfF w b o l np (j + 1) i := by
  have hd := filter_noR hj e
  exact ⟨by rw [hd]; exact h.len, fun k hk => by simp only [hd]; exact h.low k (by rw [← hd]; exact hk), fun k hk hjk => h.high k hk (by omega), h.all⟩
theorem HalfF.put {w : World} {b o j i : Nat} {l : List Rl} {np : Rl → Bool} (h : HalfF w b o l np j i) (hj : j < l.length) (hij : i ≤ j) (e : np l[j] = true) : HalfF (W2 w b (o + i * 2) l[j]) b o l np (j + 1) (i + 1) := by
  have hd := filter_yesR hj e
  refine ⟨by rw [hd, List.length_append, h.len]; rfl, fun k hk => ?_, fun k hk hjk => ?_, fun k hk => ?_⟩
  · rw [hd, List.length_append, h.len] at hk
    simp only [List.length_cons, List.length_nil] at hk
    by_cases hik : k < i
    · have e1 : ((l.take (j + 1)).filter np)[k]'(by rw [hd, List.length_append, h.len]; simp; omega) = ((l.take j).filter np)[k]'(by rw [h.len]; exact hik) := by
        simp only [hd]; rw [List.getElem_append_left]
      rw [e1]
      exact (h.low k (by rw [h.len]; exact hik)).drop1 (fun _ _ _ => w2_far _ _ _ _ _ (by omega))
    · obtain rfl : k = i := by omega
      have e1 : ((l.take (j + 1)).filter np)[k]'(by rw [hd, List.length_append, h.len]; simp) = l[j] := by
        simp only [hd]; rw [List.getElem_append_right (by rw [h.len]; exact Nat.le_refl _)]; simp [h.len]
      rw [e1]
      obtain ⟨s0, h0⟩ := h.all k (by omega)
      exact w2_new _ _ h0
  · exact (h.high k hk (by omega)).drop1 (fun _ _ _ => w2_far _ _ _ _ _ (by omega))
  · obtain ⟨s0, h0⟩ := h.all k hk
    by_cases hik : k = i
    · subst hik; exact ⟨_, w2_new _ _ h0⟩
    · exact ⟨s0, h0.drop1 (fun _ _ _ => w2_far _ _ _ _ _ (by omega))⟩
theorem HalfF.start {w : World} {b o k : Nat} {l : List Rl} {np : Rl → Bool} (hx : ∀ j u, (l.flatMap Rl.cells)[j]? = some u → w.cell? ⟨b, o + j, none⟩ = some u) (hk : k < l.length) (h0 : np l[k] = false) (h1 : ∀ j (hj : j < l.length), j < k → np l[j] = true) : HalfF w b o l np (k + 1) k := by
  have hd : (l.take (k + 1)).filter np = l.take k := by
    rw [filter_noR hk h0, List.filter_eq_self]
    intro x hx
    obtain ⟨j, hj, rfl⟩ := List.getElem_of_mem hx
    rw [List.getElem_take]
    rw [List.length_take] at hj
    exact h1 j (by omega) (by omega)
  refine ⟨by rw [hd, List.length_take]; omega, fun i hi => ?_, fun i hi _ => rl_cell (w := w) hx i hi, fun i hi => ⟨_, rl_cell (w := w) hx i hi⟩⟩
  have hi' : i < l.length := by rw [hd, List.length_take] at hi; omega
  have e : ((l.take (k + 1)).filter np)[i] = l[i] := by simp only [hd, List.getElem_take]
  rw [e]
  exact rl_cell (w := w) hx i hi'
theorem HalfF.done {w : World} {b o j i : Nat} {l : List Rl} {np : Rl → Bool} (h : HalfF w b o l np j i) (hj : j = l.length) : (l.filter np).length = i ∧ ∀ k (hk : k < (l.filter np).length), Two w b (o + k * 2) (l.filter np)[k] := by
  subst hj
  obtain ⟨h1, h2, _, _⟩ := h
  simp only [List.take_of_length_le (Nat.le_refl _)] at h1 h2
  exact ⟨h1, h2⟩
theorem HalfF.some {w : World} {b o j i : Nat} {l : List Rl} {np : Rl → Bool} (h : HalfF w b o l np j i) (hi : i ≤ l.length) : ∀ k, k < (l.length - i) * 2 → (w.cell? ⟨b, o + i * 2 + k, none⟩).isSome = true := by
  intro k hk
  obtain ⟨s0, h0⟩ := h.all (i + k / 2) (by omega)
  have := two_someR h0 (k % 2) (Nat.mod_lt _ (by decide))
  rwa [show o + (i + k / 2) * 2 + k % 2 = o + i * 2 + k by omega] at this
set_option maxRecDepth 100000 in
set_option maxHeartbeats 8000000 in
theorem rl_DeleteFunc (b o cap : Nat) (l : List Rl) (w : World) (_ : l.length ≤ 1000) (hc : l.length ≤ cap) (hcm : cap ≤ 9223372036854775807) (hb : b < w.heap.size)
    (hx : ∀ j u, (l.flatMap Rl.cells)[j]? = some u → w.cell? ⟨b, o + j, none⟩ = some u) (hf : ∀ i, w.frozen? ⟨b, i, none⟩ = false)
    (g : Nat) (cb : Array Value) (p : Rl → Bool) (eg : ∀ args w, (callFunc g args).run Tryz.prog w = .ok (.enter g args) w)
    (hp : ∀ x W, w.grownBy W (some b) → Calls Tryz.prog g (#[rv x] ++ cb) W fun e w' => e = .returned (.bool (p x)) ∧ Below W.heap.size W w') :
    Calls Tryz.prog 132 #[.slice (some ⟨b, o, none⟩) l.length cap, .func (.func g) #[] cb] w fun e w' =>
      e = .returned (.slice (some ⟨b, o, none⟩) (l.filter fun x => !p x).length cap) ∧ (∀ j u, ((l.filter fun x => !p x).flatMap Rl.cells)[j]? = some u → w'.cell? ⟨b, o + j, none⟩ = some u) ∧ w.grownBy w' (some b) := by
  have hmax : maxLen = 9223372036854775807 := by decide
  have HX := Lib.hid hx
  have HP := Lib.hid hp
  have HF := Lib.hid hf
  have IDX := Lib.hid (rl_IndexFunc (.slice (some ⟨b, o, none⟩) l.length cap) l w (Sl.a ⟨flat_len _ _ Rl.cells_len _, by omega, .inr ⟨b, o, cap, rfl, hc, by omega, hb, hx⟩⟩) g cb p eg (fun x W _ hW => hp x W (grown_of_below hW _)))
  clear hx hp hf
  go_enter Tryz.func132, Tryz.ntmps132
  go_wp2_with fail
  refine IDX.out.mono ?_
  rintro e w1 ⟨⟨i, rfl, hidx⟩, hb1⟩
  have HB1 := Lib.hid hb1
  rcases hidx with ⟨rfl, hno⟩ | ⟨k, hk, rfl, hyes, hbef⟩
  · have R := Lib.hid (show (l.filter fun x => !p x) = l by rw [List.filter_eq_self]; intro x hx; rw [hno x hx]; rfl)
    clear hno hb1
    go_wp2
    go_ret
    exact ⟨by rw [R.out]; rfl, by rw [R.out]; exact fun j u hu => (HB1.out.cell (p := ⟨b, o + j, none⟩) hb).trans (HX.out j u hu), grown_of_below HB1.out _⟩
  · have d1 : ((k : Int) == -1) = false := by rw [beq_eq_false_iff_ne]; omega
    have H0 := Lib.hid (HalfF.start (np := fun x => !p x) (w := w1) (b := b) (o := o) (fun j u hu => (HB1.out.cell (p := ⟨b, o + j, none⟩) hb).trans (HX.out j u hu)) hk (by rw [hyes]; rfl) (fun j hj hjk => by rw [hbef j hj hjk]; rfl))
    have F0 := Lib.hid (fun i => (HB1.out.frozen (p := ⟨b, i, none⟩) hb).trans (HF.out i))
    have hb1s : b < w1.heap.size := Nat.lt_of_lt_of_le hb HB1.out.size
    clear hyes hbef hb1
    go_wp2_with fail
    go_loopw [5, 6] (fun iv jv wr => ∃ i j : Nat, i < j ∧ j ≤ l.length ∧ iv = .int .i64 i ∧ jv = .int .i64 j ∧ Hid (HalfF wr b o l (fun x => !p x) j i) ∧ Hid (w.grownBy wr (some b)) ∧ Hid (∀ i, wr.frozen? ⟨b, i, none⟩ = false) ∧ b < wr.heap.size) (fun _ jv _ => l.length - (intOf jv).toNat)
    case atStart => exact ⟨k, k + 1, by omega, by omega, rfl, by go_num, H0, Lib.hid (grown_of_below HB1.out _), F0, hb1s⟩
    case round =>
      obtain ⟨i, j, hij, hj, rfl, rfl, HH, HG, HFR, hbr⟩ := hrel
      by_cases hlt : j < l.length
      · obtain ⟨p0, p1⟩ := HH.out.high j hlt (Nat.le_refl _)
        have hil : i < l.length := by omega
        obtain ⟨s0, q0, q1⟩ := HH.out.all i hil
        have PC := Lib.hid (fun W h => HP.out l[j] W h)
        have YES : Hid (∀ W, HalfF W b o l (fun x => !p x) j i → p l[j] = false → HalfF (W2 W b (o + i * 2) l[j]) b o l (fun x => !p x) (j + 1) (i + 1)) := Lib.hid (fun W h e => h.put hlt (by omega) (by rw [e]; rfl))
        have NO : Hid (∀ W, HalfF W b o l (fun x => !p x) j i → p l[j] = true → HalfF W b o l (fun x => !p x) (j + 1) i) := Lib.hid (fun W h e => h.skip hlt (by rw [e]; rfl))
        generalize p l[j] = px at PC YES NO
        generalize l[j] = x at *
        obtain ⟨x1, x2⟩ := x
        have HGA := Lib.hid (gb_alloc HG.out (.cells #[.string x1, .string x2] 28))
        go_wp2_with fail
        refine (PC.out _ HGA.out).mono ?_
        rintro e w2 ⟨rfl, hb2a⟩
        have HBK := Lib.hid (keep1 hb2a)
        have hb2 : Below wr.heap.size wr w2 := ((Below.refl _ _).alloc (Nat.le_refl _) _).trans (hb2a.mono (by simp))
        have HB2 := Lib.hid hb2
        obtain ⟨cx, fx, zx⟩ := HBK.out
        have hc2 := Lib.hid (fun i => hb2.cell (p := ⟨b, i, none⟩) hbr)
        have f2 : ∀ i, w2.frozen? ⟨b, i, none⟩ = false := fun i => (hb2.frozen (p := ⟨b, i, none⟩) hbr).trans (HFR.out i)
        have p0' := (hc2.out _).trans p0
        have p1' := (hc2.out _).trans p1
        have q0' := (hc2.out _).trans q0
        have q1' := (hc2.out _).trans q1
        have hbr2 : b < w2.heap.size := Nat.lt_of_lt_of_le hbr hb2.size
        have HG2 := Lib.hid (gb_trans HG.out (gb_of_below (r := some b) hb2))
        have HM := Lib.hid (HH.out.move hc2.out)
        clear hb2 hb2a p0 p1 q0 q1
        cases px with
        | true =>
          have R := Lib.hid (NO.out _ HM.out rfl)
          go_wp2
          exact ⟨⟨i, j + 1, by omega, by omega, rfl, by go_num, R, HG2, Lib.hid f2, hbr2⟩, by simp [intOf]; omega⟩
        | false =>
          have R := Lib.hid (YES.out _ HM.out rfl)
          go_wp2
          refine ⟨⟨i + 1, j + 1, by omega, by omega, by go_num, by go_num, Lib.hid ?_, Lib.hid ?_, Lib.hid ?_, ?_⟩, by simp [intOf]; omega⟩
          · have h := R.out
            unfold W2 at h
            with_reducible exact h
          · have h := grown_w9R (b := b) (a := o + i * 2) (s := ⟨x1, x2⟩) HG2.out
            unfold W2 at h
            with_reducible exact h
          · intro i
            simpa using f2 i
          · simpa using hbr2
      · obtain ⟨hlen, hlow⟩ := HH.out.done (by omega)
        have HLEN := Lib.hid hlen
        have HLOW := Lib.hid hlow
        have hil : i < l.length := by omega
        have hic : i < cap := by omega
        obtain ⟨W', hW, hclr⟩ : ∃ W', W' = wr.setCells b (o + i * 2) (Builtin.zeroCells zeroRl.cells (l.length - i)).toList ∧ ∀ ty, Sem.run Tryz.prog (Builtin.clear_ #[23] ty #[.slice (some ⟨b, o + i * 2, none⟩) (l.length - i) (cap - i)]) wr = .ok (.tuple #[]) W' :=
          ⟨_, rfl, fun ty => run_clear2R wr _ 28 ty zeroRl Tryz.underlying23 rl_zero b (o + i * 2) (l.length - i) (cap - i) (by omega) rfl (HH.out.some (by omega)) (fun j => HFR.out _) (zero_oneR _)⟩
        have HOUT : Hid (∀ k, k < o + i * 2 → W'.cell? ⟨b, k, none⟩ = wr.cell? ⟨b, k, none⟩) := Lib.hid (fun k hk => by rw [hW]; exact World.cell?_setCells_out b _ _ _ _ (fun _ _ => .inl hk))
        have HGW : Hid (w.grownBy W' (some b)) := Lib.hid (by rw [hW]; exact grown_sets _ _ _ HG.out)
        clear hlen hlow hW
        go_wp2_with fail
        go_ret
        refine ⟨by rw [HLEN.out]; rfl, ?_, HGW.out⟩
        refine two_cellsR (fun k hk => (HLOW.out k hk).drop1 (fun j h1 h2 => HOUT.out j ?_))
        have := HLEN.out
        omega
set_option maxHeartbeats 1000000 in
theorem rl_DeleteNil (w : World) (g : Nat) (cb : Array Value) (eg : ∀ args w, (callFunc g args).run Tryz.prog w = .ok (.enter g args) w) :
    Calls Tryz.prog 132 #[.slice none 0 0, .func (.func g) #[] cb] w fun e w' => e = .returned (.slice none 0 0) ∧ Below w.heap.size w w' := by
  have IDX := Lib.hid (rl_IndexFunc (.slice none 0 0) [] w (Sl.nil _ _).a g cb (fun _ => false) eg (fun x W hx _ => by cases hx))
  go_enter Tryz.func132, Tryz.ntmps132
  go_wp2_with fail
  refine IDX.out.mono ?_
  rintro e w1 ⟨⟨i, rfl, hidx⟩, hb1⟩
  have HB1 := Lib.hid hb1
  rcases hidx with ⟨rfl, _⟩ | ⟨k, hk, _⟩
  · clear hb1
    go_wp2
    go_ret
    exact ⟨rfl, HB1.out⟩
  · exact absurd hk (by simp)
end Go.Proofs.YtcmdhfccdkjenaaGreatDoor
namespace Go.Proofs.YtcmdhfccdkjenaaGreatDoor
open Go.RowKit Go.Shelf

theorem own_mono {w : World} {B B' size n : Nat} {e : TypeId} {v : Value} {xs : List Value} (h : w.ownsRow B e size v n xs) (hb : B' ≤ B) : w.ownsRow B' e size v n xs := by
  refine ⟨h.1, ?_⟩
  rcases h.2 with h2 | ⟨g, cap, cur, h1, h2, h3⟩
  · exact .inl h2
  · exact .inr ⟨g, cap, cur, h1, Nat.le_trans hb h2, h3⟩
end Go.Proofs.YtcmdhfccdkjenaaGreatDoor
