/- high.Eval, Steps, Members (turned out of LowFns by gen_higheval.py). Plain laws: a least relation of statements is a row of pairs; what more statements tell. The statement StateParts: the walk of the law. How two policies differ, in plain Lean. Package delta: without, with, Back, Empty, Same. Whether two differences are the same (printed by gen_dlsame.py). Whether two rows of texts, two queries, two policies are the same: of the same ones. high.Members as a law; the document's example of layer 12. crupperref01.Dec, crupperref01.Fresh. crupperref01.Put, crupperref05.Prins, Names: the rows that are returned are the calls' own (turned by gen_owns.py). crupperref05.SortRoles: the row that is returned is the call's own (turned out of RlSort by gen_owns.py). crupperref12.Fresh, Prins, Roles, Maximal (printed by gen_ref12.py). The document's example of layer 11. The statement LowTells: the walk of the law. crupperlaw12.small; how much a policy's states can tell. simple.Decide: the walk (printed by gen_simdecide.py). simple.Decide, by the least state (printed by gen_simdecide.py). -/
import Derived.Test.YtcmdhfccdkjenaaGreatDoorPart17
import Derived.Test.YtcmdhfccdkjenaaGreatDoorPart16
import Derived.Test.YtcmdhfccdkjenaaGreatDoorPart5
import Derived.Test.YtcmdhfccdkjenaaGreatDoorPart8
import Derived.Test.YtcmdhfccdkjenaaGreatDoorPart6
import Derived.Laws.IdiomStrings
import Derived.Test.YtcmdhfccdkjenaaGreatDoorPart7
import Derived.Test.YtcmdhfccdkjenaaGreatDoorPart9
namespace Go.Proofs.YtcmdhfccdkjenaaGreatDoor
open Go.RowKit Go.Shelf

section
variable {w : World} {v0 v1 v2 v3 : Value} {l : List St} {g h : List Rl} {qs : List Qv} {F : Qv → List ByteArray} {PS NS : List ByteArray}
set_option maxRecDepth 100000 in
set_option maxHeartbeats 4000000 in
theorem high_Eval (P : PolX w v0 v1 v2 v3 l g h qs F PS NS) (h6 : PS.length ≤ 16) (h4 : NS.length ≤ 12) :
    Calls Tryz.prog 95 #[pv v0 v1 v2 v3] w fun e w' => ∃ t M fs st, e = .returned (.tuple #[.pointer (some ⟨t, 0, none⟩), .pointer (some ⟨M, 0, none⟩)]) ∧ TmAt w' t M (putX PS) NS (maxS l g PS NS) fs st ∧ Below w.heap.size w w' := by
  have HT0 := Lib.hid (show OneAt w #[v0, v1, v2, v3] (w.alloc (.cells #[v0, v1, v2, v3] 26)) from ⟨Blk.new w _ _, (Below.refl _ _).alloc (Nat.le_refl _) _⟩)
  have TF := Lib.hid (fun vm more W (hb : Below w.heap.size w W) (hm : SlA W 1 vm more.length (strs more)) hml => table_For v0 v1 v2 v3 vm l g h qs more W (P.at_.below hb) P.hl P.hg P.hh P.hq F (P.hF.below hb) hm hml)
  rw [P.eP, P.eN, P.idemN] at TF
  have FR := Lib.hid (fun W (hb : Below w.heap.size w W) => high_Fresh (P.below hb))
  have MN := Lib.hid (fun W (hb : Below w.heap.size w W) => high_Maximal (P.below hb) h6 h4)
  have HTB := Lib.hid P.hT
  have EP := Lib.hid P.putP
  have hml := maxS_len l g PS NS
  have hl := P.hl
  have hmn : (PS.length + 1) * (PS.length + 1) * NS.length ≤ 17 * 17 * 12 := Nat.mul_le_mul (Nat.mul_le_mul (by omega) (by omega)) h4
  have hms : Hid (allLe (maxS l g PS NS) 4294967) := Lib.hid (maxS_le P.hs P.rP P.rN P.hps)
  have hpx := putX_len PS
  obtain ⟨a0, c0, rfl⟩ := P.at_.rs.form
  obtain ⟨a1, c1, rfl⟩ := P.at_.rg.form
  obtain ⟨a2, c2, rfl⟩ := P.at_.rh.form
  obtain ⟨a3, c3, rfl⟩ := P.at_.rq.form
  clear P
  generalize maxS l g PS NS = ms at *
  generalize putX PS = PX at *
  generalize freshB PS = x at *
  have hrl := rulesN_len PX NS ms
  go_enter Tryz.func95, Tryz.ntmps95
  go_wp2_with fail
  refine wp_region_held_drew (S := (fun W => ∀ o, W.cell? ⟨w.heap.size, o, none⟩ = (#[.slice a0 l.length c0, .slice a1 g.length c1, .slice a2 h.length c2, .slice a3 qs.length c3] : Array Value)[o]?)) (by kernel_rfl) HT0.out.drew.a.1 (fun hHeld => ?_)
  have HT := HT0.out.drew
  obtain ⟨wk, hwk⟩ : ∃ W, W = (w.alloc (.cells #[.slice a0 l.length c0, .slice a1 g.length c1, .slice a2 h.length c2, .slice a3 qs.length c3] 26)).drew := ⟨_, rfl⟩
  rw [← hwk] at HT hHeld ⊢
  clear hwk HT0
  (refine hyes 0 ?_); (refine hyes 1 ?_); (try simp only [Act.put, List.setIfInBounds_toArray, List.set])
  (refine held_call 2 rfl (by kernel_rfl) (fun K hK => ?_); go_simp)
  go_at_call 113; refine (FR.out _ HT.low).mono ?_; rintro e w2 ⟨rfl, hb2⟩; have HT := HT.later hb2; clear FR hb2
  (refine hK.out _ _ (HT.a.1) (fun hHeld => ?_); clear hK K; (try simp only [Act.put, List.setIfInBounds_toArray, List.set]))
  (refine held_call 3 rfl (by kernel_rfl) (fun K hK => ?_); go_simp)
  obtain ⟨wn, hwn⟩ : ∃ V, V = w2.alloc (.cells #[.string x] 9) := ⟨_, rfl⟩
  obtain ⟨b8, hb8⟩ : ∃ b, b = w2.heap.size := ⟨_, rfl⟩
  rw [← hwn, ← hb8]
  have hbq : Below w2.heap.size w2 wn := by rw [hwn]; exact (Below.refl _ _).alloc (Nat.le_refl _) _
  have Hc : Sl wn 1 (.slice (some ⟨b8, 0, none⟩) 1 1) 1 (strs [x]) := by rw [hwn]; exact Sl.new w2 [.string x] 9 1 1 b8 hb8 rfl (by simp [maxLen])
  have HT := HT.later hbq
  clear hbq hwn hb8
  (refine hK.out _ _ (HT.a.1) (fun hHeld => ?_); clear hK K; (try simp only [Act.put, List.setIfInBounds_toArray, List.set]))
  (refine held_call 4 rfl (by kernel_rfl) (fun K hK => ?_); go_simp)
  go_at_call 140; refine (TF.out _ [x] _ HT.low Hc.a (by simp)).mono ?_; rintro e w4 ⟨t, ba, bb, rfl, ht, hb4⟩; rw [EP.out] at ht; have HT := HT.later hb4; have HTb := Lib.hid ht; clear ht hb4 TF Hc EP
  (refine hK.out _ _ (HT.a.1) (fun hHeld => ?_); clear hK K; (try simp only [Act.put, List.setIfInBounds_toArray, List.set]))
  (refine hyes 5 ?_); (try simp only [Act.put, List.setIfInBounds_toArray, List.set])
  refine wpAnyH_done (by kernel_rfl) ?_ _
  have HT1 := Lib.hid HT
  clear HT
  go_wp2_with fail
  refine wp_region_held_drew (S := (fun W => ∀ o, W.cell? ⟨w.heap.size, o, none⟩ = (#[.slice a0 l.length c0, .slice a1 g.length c1, .slice a2 h.length c2, .slice a3 qs.length c3] : Array Value)[o]?)) (by kernel_rfl) HT1.out.drew.a.1 (fun hHeld => ?_)
  have HT := HT1.out.drew
  have HTb := Lib.hid (HTb.out.below (below_drew (Below.refl _ w4)))
  obtain ⟨wk, hwk⟩ : ∃ W, W = w4.drew := ⟨_, rfl⟩
  rw [← hwk] at HT HTb hHeld ⊢
  clear hwk HT1
  (refine hyes 0 ?_); (refine hyes 1 ?_); (refine hyes 4 ?_); (refine hyes 7 ?_); (refine hyes 8 ?_); (try simp only [Act.put, List.setIfInBounds_toArray, List.set])
  (refine held_call 2 rfl (by kernel_rfl) (fun K hK => ?_); go_simp)
  go_at_call 89; refine (table_Prins HTb.out).mono ?_; rintro e w2 ⟨rfl, rfl⟩
  (refine hK.out _ _ (HT.a.1) (fun hHeld => ?_); clear hK K; (try simp only [Act.put, List.setIfInBounds_toArray, List.set]))
  (refine held_call 3 rfl (by kernel_rfl) (fun K hK => ?_); go_simp)
  go_at_call 142; refine (tab_Len ba PX _ HTb.out.ta).mono ?_; rintro e w2 ⟨rfl, rfl⟩
  (refine hK.out _ _ (HT.a.1) (fun hHeld => ?_); clear hK K; (try simp only [Act.put, List.setIfInBounds_toArray, List.set]))
  (refine held_call 5 rfl (by kernel_rfl) (fun K hK => ?_); go_simp)
  go_at_call 143; refine (table_Links HTb.out).mono ?_; rintro e w2 ⟨rfl, rfl⟩
  (refine hK.out _ _ (HT.a.1) (fun hHeld => ?_); clear hK K; (try simp only [Act.put, List.setIfInBounds_toArray, List.set]))
  (refine held_call 6 rfl (by kernel_rfl) (fun K hK => ?_); go_simp)
  go_at_call 142; refine (tab_Len bb NS _ HTb.out.tb).mono ?_; rintro e w2 ⟨rfl, rfl⟩
  (refine hK.out _ _ (HT.a.1) (fun hHeld => ?_); clear hK K; (try simp only [Act.put, List.setIfInBounds_toArray, List.set]))
  (refine held_call 9 rfl (by kernel_rfl) (fun K hK => ?_); go_simp)
  go_at_call 96; refine (MN.out _ HT.low).mono ?_; rintro e w3 ⟨v3, rfl, hs3, hb3⟩; have HT3 := HT.later hb3; have HTb3 := Lib.hid (HTb.out.below hb3); have HS3 := Lib.hid hs3; clear hs3 hb3
  (refine hK.out _ _ (HT3.a.1) (fun hHeld => ?_); clear hK K; (try simp only [Act.put, List.setIfInBounds_toArray, List.set]))
  (refine held_call 10 rfl (by kernel_rfl) (fun K hK => ?_); go_simp)
  go_at_call 144; refine (table_Rules v3 ms _ HTb3.out HS3.out.a hms.out (by omega)).mono ?_; rintro e w4 ⟨v4, rfl, ho4, hb4⟩; have HT4 := HT3.later hb4; have HTb4 := Lib.hid (HTb3.out.below hb4); have HS4 := Lib.hid (Sl.of_own ho4); clear ho4 hb4
  (refine hK.out _ _ (HT4.a.1) (fun hHeld => ?_); clear hK K; (try simp only [Act.put, List.setIfInBounds_toArray, List.set]))
  (refine held_call 11 rfl (by kernel_rfl) (fun K hK => ?_); go_simp)
  go_at_call 141; refine (sem_Eval PX.length NS.length v4 (rulesN PX NS ms) _ (by omega) (by omega) HS4.out.a (by omega) (HTB.out.below HT4.low)).mono ?_; rintro e w5 ⟨M, F5, W05, g05, fs, st, rfl, hm, hlst, hst, hb5⟩; have HT5 := HT4.later hb5; have HTb5 := Lib.hid (HTb4.out.below hb5); have HM5 := Lib.hid hm; have HL5 := Lib.hid hlst; have HS5 := Lib.hid hst; clear hm hlst hst hb5
  (refine hK.out _ _ (HT5.a.1) (fun hHeld => ?_); clear hK K; (try simp only [Act.put, List.setIfInBounds_toArray, List.set]))
  (refine hyes 12 ?_); (refine hyes 13 ?_); (try simp only [Act.put, List.setIfInBounds_toArray, List.set])
  refine wpAnyH_done (by kernel_rfl) ?_ _
  have HT := Lib.hid HT5
  clear HT5
  go_wp2
  go_ret2
  exact ⟨t, M, fs, st, rfl, ⟨⟨ba, bb, HTb5.out⟩, ⟨F5, W05, g05, HM5.out⟩, HL5.out, HS5.out⟩, HT.out.low⟩
end
end Go.Proofs.YtcmdhfccdkjenaaGreatDoor
namespace Go.Proofs.YtcmdhfccdkjenaaGreatDoor
open Go.RowKit Go.Shelf

theorem least_ex (l : List St) : ∃ ps : List Pr, LeastS l (fun r x => (r, x) ∈ ps) := by
  obtain ⟨cand, hcand⟩ : ∃ c : List Pr, c = l.flatMap (fun s => l.map (fun t => (s.h, t.who))) := ⟨_, rfl⟩
  have cm : ∀ r x, (r, x) ∈ cand ↔ (∃ s ∈ l, s.h = r) ∧ ∃ t ∈ l, t.who = x := by
    intro r x
    rw [hcand, List.mem_flatMap]
    constructor
    · rintro ⟨s, hs, h⟩
      obtain ⟨t, ht, e⟩ := List.mem_map.1 h
      simp only [Prod.mk.injEq] at e
      exact ⟨⟨s, hs, e.1⟩, ⟨t, ht, e.2⟩⟩
    · rintro ⟨⟨s, hs, rfl⟩, ⟨t, ht, rfl⟩⟩
      exact ⟨s, hs, List.mem_map.2 ⟨t, ht, rfl⟩⟩
  have hC : CloS l (fun r x => (r, x) ∈ cand) :=
    ⟨fun s hs _ => (cm _ _).2 ⟨⟨s, hs, rfl⟩, ⟨s, hs, rfl⟩⟩, fun s hs _ x h => (cm _ _).2 ⟨⟨s, hs, rfl⟩, ((cm _ _).1 h).2⟩, fun s hs _ x y _ h => (cm _ _).2 ⟨⟨s, hs, rfl⟩, ((cm _ _).1 h).2⟩, fun s hs _ x h _ => (cm _ _).2 ⟨⟨s, hs, rfl⟩, ((cm _ _).1 h).2⟩⟩
  have hP : ∀ r x, (r, x) ∈ cand.filter (fun p => @decide (∀ E, CloS l E → E p.1 p.2) (Classical.propDecidable _)) ↔ ∀ E, CloS l E → E r x := by
    intro r x
    rw [List.mem_filter]
    constructor
    · rintro ⟨_, h⟩
      exact @of_decide_eq_true _ (Classical.propDecidable _) h
    · intro h
      exact ⟨h _ hC, @decide_eq_true _ (Classical.propDecidable _) h⟩
  refine ⟨_, ⟨fun s hs hk => ?_, fun s hs hk x h => ?_, fun s hs hk x y h1 h2 => ?_, fun s hs hk x h1 h2 => ?_⟩, fun E hE r x h => (hP r x).1 h E hE⟩
  · exact (hP _ _).2 (fun E hE => hE.mem s hs hk)
  · exact (hP _ _).2 (fun E hE => hE.incl s hs hk x ((hP _ _).1 h E hE))
  · exact (hP _ _).2 (fun E hE => hE.link s hs hk x y ((hP _ _).1 h1 E hE) ((hP _ _).1 h2 E hE))
  · exact (hP _ _).2 (fun E hE => hE.both s hs hk x ((hP _ _).1 h1 E hE) ((hP _ _).1 h2 E hE))
theorem members_mono {l m : List St} {ps qs : List Pr} (h : LeastS l (fun r x => (r, x) ∈ ps)) (g : LeastS m (fun r x => (r, x) ∈ qs)) (hs : ∀ s ∈ l, s ∈ m) (r : Rl) : insideB (membersP ps r) (membersP qs r) = true := by
  unfold insideB
  rw [List.all_eq_true]
  intro x hx
  rw [hasB_mem, membersP_mem]
  exact h.mono g hs r x (membersP_mem.1 hx)
theorem sound_bound {l : List St} {n : Nat} (hl : l.length ≤ n) : ∀ ps : List Pr, ps.Nodup → SoundS l ps → ps.length ≤ n * n := by
  intro ps hn hs
  have h1 := hs.bound hn
  have h3 : l.length * l.length ≤ n * n := Nat.mul_le_mul hl hl
  omega
end Go.Proofs.YtcmdhfccdkjenaaGreatDoor
namespace Go.Proofs.YtcmdhfccdkjenaaGreatDoor
open Go.RowKit Go.Shelf

end Go.Proofs.YtcmdhfccdkjenaaGreatDoor
namespace Go.Proofs.YtcmdhfccdkjenaaGreatDoor
open Go.RowKit Go.Shelf

abbrev dv (v0 v1 v2 v3 v4 v5 : Value) : Value := .agg #[v0, v1, v2, v3, v4, v5]
end Go.Proofs.YtcmdhfccdkjenaaGreatDoor
namespace Go.Proofs.YtcmdhfccdkjenaaGreatDoor
open Go.RowKit Go.Shelf

end Go.Proofs.YtcmdhfccdkjenaaGreatDoor
namespace Go.Proofs.YtcmdhfccdkjenaaGreatDoor
open Go.RowKit Go.Shelf

end Go.Proofs.YtcmdhfccdkjenaaGreatDoor
namespace Go.Proofs.YtcmdhfccdkjenaaGreatDoor
open Go.RowKit Go.Shelf

end Go.Proofs.YtcmdhfccdkjenaaGreatDoor
namespace Go.Proofs.YtcmdhfccdkjenaaGreatDoor
open Go.RowKit Go.Shelf

section
variable {w : World} {v0 v1 v2 v3 : Value} {l : List St} {g h : List Rl} {qs : List Qv} {F : Qv → List ByteArray} {PS NS : List ByteArray}
theorem PolX.max_ok (P : PolX w v0 v1 v2 v3 l g h qs F PS NS) (h6 : PS.length ≤ 16) : ∀ s ∈ maxS l g PS NS, (ruleN (putX PS) NS s).2 = true :=
  fun s hs => ruleN_in (maxS_right P.rl P.rP P.rN h6 s hs) (maxS_in P.inAB s hs)
end
theorem least_mem {l : List St} {D : Rl → ByteArray → Prop} (hk : ∀ s ∈ l, s.k = 1) (h : LeastS l D) (r : Rl) (x : ByteArray) : D r x ↔ ∃ s ∈ l, s.h = r ∧ s.who = x := by
  constructor
  · intro hd
    refine h.min (fun r x => ∃ s ∈ l, s.h = r ∧ s.who = x) ⟨fun s hs _ => ⟨s, hs, rfl, rfl⟩, fun s hs h2 => ?_, fun s hs h2 => ?_, fun s hs h2 => ?_⟩ r x hd
    · rw [hk s hs] at h2; cases h2
    · rw [hk s hs] at h2; cases h2
    · rw [hk s hs] at h2; cases h2
  · rintro ⟨s, hs, rfl, rfl⟩
    exact h.clo.mem s hs (hk s hs)
def r12 : Rl := ⟨⟨#[65]⟩, ⟨#[114]⟩⟩
def s12 : St := ⟨1, r12, ⟨#[66]⟩, noR, noR, emp⟩
def P12 : List ByteArray := [⟨#[65]⟩, ⟨#[66]⟩]
def N12 : List ByteArray := [⟨#[114]⟩]
def X12 : ByteArray := ⟨#[88, 49]⟩
theorem fresh12 : freshB P12 = X12 := by
  have e : xdec 1 = X12 := by unfold xdec; rw [decL_small (by omega)]; rfl
  rw [← e]
  refine fresh_eq ⟨1, Nat.le_refl _, fun j a b => by omega, ?_, rfl⟩
  rw [e]
  intro hm
  unfold P12 X12 at hm
  simp only [List.mem_cons, List.not_mem_nil, or_false, ByteArray.mk.injEq] at hm
  revert hm
  decide
theorem put12 : putX P12 = [⟨#[65]⟩, ⟨#[66]⟩, ⟨#[88, 49]⟩] := by unfold putX; rw [fresh12]; kernel_rfl
theorem ex12_right : rightS s12 = true := by kernel_rfl
theorem ex12_kind {g : List Rl} : ∀ s ∈ maxS [s12] g P12 N12, s.k = 1 := by
  intro s hs
  rcases maxS_mem.1 hs with h | ⟨r, x, rfl, _⟩
  · rw [List.mem_singleton.1 h]; rfl
  · rfl
theorem new_idem12 : newB P12 = P12 := by kernel_rfl
theorem ex12_q {ps : List Pr} (h : LeastS (maxS [s12] [] P12 N12) (fun r x => (r, x) ∈ ps)) : membersP ps r12 = [⟨#[65]⟩, ⟨#[66]⟩, ⟨#[88, 49]⟩] := by
  rw [← put12]
  refine asc_uniqueB _ _ (membersP_asc _ _) (putX_asc (show AscB P12 by rw [← new_idem12]; exact new_asc _)) (fun y => ?_)
  rw [membersP_mem, least_mem ex12_kind h]
  constructor
  · rintro ⟨s, hs, e1, e2⟩
    rcases maxS_mem.1 hs with h1 | ⟨r, x, rfl, _, h3⟩
    · rw [List.mem_singleton.1 h1] at e2
      rw [← e2, putX_mem]; exact .inl (List.mem_cons_of_mem _ (List.mem_singleton.2 rfl))
    · rw [← e2]; exact h3
  · intro hy
    exact ⟨memS r12 y, maxS_mem.2 (.inr ⟨r12, y, rfl, ⟨⟨putX_mem.2 (.inl (List.mem_cons_self ..)), List.mem_singleton.2 rfl⟩, fun h => by cases h⟩, hy⟩), rfl, rfl⟩
section
variable {w : World} {b1 : Nat} {v1 : Value} {g : List Rl}
end
theorem alloc_keep {w : World} {g : Nat} {o x : Obj} (h : w.heap[g]? = some o) : (w.alloc x).heap[g]? = some o := (Below.heap_alloc _ _ _ (Array.getElem?_eq_some_iff.1 h).1).trans h
theorem heap_new4 (w : World) (o1 o2 o3 o4 : Obj) : ((((w.alloc o1).alloc o2).alloc o3).alloc o4).heap[w.heap.size + 1 + 1 + 1]? = some o4 := by
  have := heap_alloc_new (((w.alloc o1).alloc o2).alloc o3) o4
  simpa using this
theorem heap_new5 (w : World) (o1 o2 o3 o4 o5 : Obj) : (((((w.alloc o1).alloc o2).alloc o3).alloc o4).alloc o5).heap[w.heap.size + 1 + 1 + 1 + 1]? = some o5 := by
  have := heap_alloc_new ((((w.alloc o1).alloc o2).alloc o3).alloc o4) o5
  simpa using this
theorem five_at (w : World) (o0 o1 o2 o3 o4 : Obj) : (((((w.alloc o0).alloc o1).alloc o2).alloc o3).alloc o4).heap[w.heap.size]? = some o0 ∧ (((((w.alloc o0).alloc o1).alloc o2).alloc o3).alloc o4).heap[w.heap.size + 1]? = some o1 ∧ (((((w.alloc o0).alloc o1).alloc o2).alloc o3).alloc o4).heap[w.heap.size + 1 + 1]? = some o2 ∧
    (((((w.alloc o0).alloc o1).alloc o2).alloc o3).alloc o4).heap[w.heap.size + 1 + 1 + 1]? = some o3 ∧ (((((w.alloc o0).alloc o1).alloc o2).alloc o3).alloc o4).heap[w.heap.size + 1 + 1 + 1 + 1]? = some o4 :=
  ⟨alloc_keep (alloc_keep (alloc_keep (alloc_keep (heap_new1 w o0)))), alloc_keep (alloc_keep (alloc_keep (heap_new2 w o0 o1))), alloc_keep (alloc_keep (heap_new3 w o0 o1 o2)), alloc_keep (heap_new4 w o0 o1 o2 o3), heap_new5 w o0 o1 o2 o3 o4⟩
theorem row_at {w : World} {g : Nat} {cs : List Value} {t : TypeId} (h : w.heap[g]? = some (.cells cs.toArray t (0, 0))) (size n : Nat) (hl : cs.length = n * size) (hn : n ≤ maxLen) : Sl w size (.slice (some ⟨g, 0, none⟩) n n) n cs :=
  ⟨hl, hn, .inr ⟨g, 0, n, rfl, Nat.le_refl _, hn, (Array.getElem?_eq_some_iff.1 h).1, fun j u hu => by rw [Nat.zero_add, cell_of_row _ g j _ t (0, 0) h]; simpa using hu⟩⟩
end Go.Proofs.YtcmdhfccdkjenaaGreatDoor
namespace Go.Proofs.YtcmdhfccdkjenaaGreatDoor
open Go.RowKit Go.Shelf

end Go.Proofs.YtcmdhfccdkjenaaGreatDoor
namespace Go.Proofs.YtcmdhfccdkjenaaGreatDoor
open Go.RowKit Go.Shelf

set_option maxRecDepth 100000 in
set_option maxHeartbeats 4000000 in
theorem ref1_PutO (va : Value) (l : List ByteArray) (s : ByteArray) (w : World) (ha : SlA w 1 va l.length (strs l)) (hn : l.length ≤ 100000) :
    Calls Tryz.prog 91 #[va, .string s] w fun e w' => ∃ v, e = .returned v ∧ ((v = va ∧ insSB l s = l) ∨ w'.ownsRow w.heap.size 9 1 v (insSB l s).length (strs (insSB l s))) ∧ Below w.heap.size w w' := by
  have HA := Lib.hid ha
  have HH := Lib.hid (ref1_HasB va l s w ha)
  have IY := Lib.hid (fun h => insS_hasB (l := l) (x := s) h)
  have IN := Lib.hid (fun h => insS_notB (l := l) (x := s) h)
  have NE := Lib.hid (fun (h : hasB l s = false) k (hk : k < l.length) => show ¬ l[k] = s from fun e => absurd (hasB_yes hk e) (by rw [h]; exact Bool.false_ne_true))
  generalize hasB l s = b at HH IY IN NE
  have hmax := ha.max
  obtain ⟨ao, cap, hva⟩ := ha.form
  subst hva
  clear ha
  go_enter Tryz.func91, Tryz.ntmps91
  go_wp2_with fail
  refine HH.out.mono ?_
  rintro e w1 ⟨rfl, rfl⟩
  cases b with
  | true =>
    go_wp2
    go_ret
    exact ⟨_, rfl, .inl ⟨rfl, IY.out (by first | rfl | trivial)⟩, Below.refl _ _⟩
  | false =>
    obtain ⟨wA, hwA⟩ : ∃ wA, wA = w1 := ⟨_, rfl⟩
    subst hwA
    have INS := Lib.hid (IN.out rfl)
    have NEQ := Lib.hid (NE.out rfl)
    clear IY IN NE
    go_wp2_with fail
    go_loopw [5, 6, 15] (fun vo dv i wr => ∃ (k : Nat) (d : Bool) (ss : List ByteArray), k ≤ l.length ∧ i = .int .i64 k ∧ dv = .bool d ∧ Hid (PutI l s k d ss) ∧ Hid (Below wA.heap.size wA wr) ∧ Hid (wr.ownsRow wA.heap.size 9 1 vo ss.length (strs ss))) (fun _ _ i _ => l.length - (intOf i).toNat)
    case atStart => exact ⟨0, false, [], by omega, rfl, rfl, Lib.hid (PutI.start l s), Lib.hid (Below.refl _ _), Lib.hid (World.ownsRow_nil _ _ _ _)⟩
    case round =>
      obtain ⟨k, d, ss, hk, rfl, rfl, HC, HB, HO⟩ := hrel
      obtain ⟨oo, oc, rfl⟩ := own_form HO.out
      have hss : ss.length ≤ 100002 := by have := HC.out.len; omega
      by_cases hlt : k < l.length
      · obtain ⟨b1, o1, c1, he1, hc1, hm1, hb1, hx1⟩ := HA.out.pos (by omega)
        simp only [Value.slice.injEq, true_and] at he1
        obtain ⟨rfl, rfl⟩ := he1
        have p0 := (HB.out.cell (p := ⟨b1, o1 + k, none⟩) hb1).trans (hx1 k _ (strs_get hlt))
        have hbr : b1 < wr.heap.size := Nat.lt_of_lt_of_le hb1 HB.out.size
        have PY := Lib.hid (fun (h : PutI l s k true ss) => h.yes hlt)
        have PN := Lib.hid (fun (h : PutI l s k false ss) e => h.no hlt (NEQ.out k hlt) e)
        have PP := Lib.hid (fun (h : PutI l s k false ss) e => h.put hlt e)
        clear hx1
        generalize l[k] = x at *
        cases d with
        | true =>
          have HC' := HC.out
          have hown := HO.out
          go_wp2_with (at_builtin; refine halt_ ?_)
          unfold Halt_
          refine app_own Tryz.underlying38 str_info rfl (by decide) (by decide) rfl _ _ rfl wA.heap.size rfl (hown.alloc _) [.string x] rfl (heap_new1 _ _) rfl (str1 _) ?_ ?_ ?_
          · omega
          · have := HB.out.size; simp; omega
          intro a' cap' w3 hown' hgrow
          obtain ⟨q1, q2⟩ := own_push (x := x) HB.out hown hown' hgrow
          have HO1 := Lib.hid q1
          have HB1 := Lib.hid q2
          clear hown hown' hgrow q1 q2
          go_wp2_with fail
          exact ⟨⟨k + 1, true, ss ++ [x], by omega, by go_num, rfl, Lib.hid (PY.out HC'), HB1, HO1⟩, by simp [intOf]; omega⟩
        | false =>
          have HC' := HC.out
          cases hbl : Op.bytesLess s.toList x.toList with
          | false =>
            have hown := HO.out
            go_wp2_with (at_builtin; refine halt_ ?_)
            unfold Halt_
            refine app_own Tryz.underlying38 str_info rfl (by decide) (by decide) rfl _ _ rfl wA.heap.size rfl (hown.alloc _) [.string x] rfl (heap_new1 _ _) rfl (str1 _) ?_ ?_ ?_
            · omega
            · have := HB.out.size; simp; omega
            intro a' cap' w3 hown' hgrow
            obtain ⟨q1, q2⟩ := own_push (x := x) HB.out hown hown' hgrow
            have HO1 := Lib.hid q1
            have HB1 := Lib.hid q2
            clear hown hown' hgrow q1 q2
            go_wp2_with fail
            exact ⟨⟨k + 1, false, ss ++ [x], by omega, by go_num, rfl, Lib.hid (PN.out HC' hbl), HB1, HO1⟩, by simp [intOf]; omega⟩
          | true =>
            have hown := HO.out
            go_wp2_with (at_builtin; refine halt_ ?_)
            unfold Halt_
            refine app_own Tryz.underlying38 str_info rfl (by decide) (by decide) rfl _ _ rfl wA.heap.size rfl (hown.alloc _) [.string s] rfl (heap_new1 _ _) rfl (str1 _) ?_ ?_ ?_
            · omega
            · have := HB.out.size; simp; omega
            intro a' cap' w3 hown' hgrow
            obtain ⟨q1, q2⟩ := own_push (x := s) HB.out hown hown' hgrow
            have HO1 := Lib.hid q1
            have HB1 := Lib.hid q2
            clear hown hown' hgrow q1 q2
            have hown := HO1.out
            go_wp2_with (at_builtin; refine halt_ ?_)
            unfold Halt_
            refine app_own Tryz.underlying38 str_info rfl (by decide) (by decide) rfl _ _ rfl wA.heap.size rfl (hown.alloc _) [.string x] rfl (heap_new1 _ _) rfl (str1 _) ?_ ?_ ?_
            · (simp only [List.length_append, List.length_cons, List.length_nil]; omega)
            · have := HB1.out.size; simp; omega
            intro a' cap' w3 hown' hgrow
            obtain ⟨q1, q2⟩ := own_push (x := x) HB1.out hown hown' hgrow
            have HO2 := Lib.hid q1
            have HB2 := Lib.hid q2
            clear hown hown' hgrow q1 q2
            go_wp2_with fail
            refine ⟨⟨k + 1, true, ss ++ [s] ++ [x], by omega, by go_num, rfl, Lib.hid (PP.out HC' hbl), HB2, Lib.hid (by have h := HO2.out; rw [show (ss ++ [s]).length + 1 = ss.length + 1 + 1 by simp] at h; exact h)⟩, by simp [intOf]; omega⟩
      · cases d with
        | true =>
          have HC' := HC.out
          have HSL := Lib.hid (Sl.of_own HO.out).a
          have HSO := Lib.hid (HO.out)
          go_wp2
          go_ret
          exact ⟨_, rfl, .inr (by rw [INS.out, ← HC'.endT (by omega)]; exact HSO.out), HB.out⟩
        | false =>
          have HC' := HC.out
          have hown := HO.out
          go_wp2_with (at_builtin; refine halt_ ?_)
          unfold Halt_
          refine app_own Tryz.underlying38 str_info rfl (by decide) (by decide) rfl _ _ rfl wA.heap.size rfl (hown.alloc _) [.string s] rfl (heap_new1 _ _) rfl (str1 _) ?_ ?_ ?_
          · omega
          · have := HB.out.size; simp; omega
          intro a' cap' w3 hown' hgrow
          obtain ⟨q1, q2⟩ := own_push (x := s) HB.out hown hown' hgrow
          have HO1 := Lib.hid q1
          have HB1 := Lib.hid q2
          clear hown hown' hgrow q1 q2
          have HSL := Lib.hid (Sl.of_own HO1.out).a
          have HSO := Lib.hid (HO1.out)
          go_wp2
          go_ret
          exact ⟨_, rfl, .inr (by rw [INS.out, ← HC'.endF (by omega)]; exact HSO.out), HB1.out⟩

def NewO (B : Nat) (w : World) (v : Value) (xs : List ByteArray) (n : Nat) : Prop := (w.ownsRow B 9 1 v (newB xs).length (strs (newB xs)) ∧ xs.length ≤ n) ∧ B ≤ w.heap.size
theorem NewO.below {B : Nat} {w w' : World} {v : Value} {xs : List ByteArray} {n : Nat} (h : NewO B w v xs n) (hb : Below w.heap.size w w') : NewO B w' v xs n := ⟨⟨own_below h.1.1 hb, h.1.2⟩, Nat.le_trans h.2 hb.size⟩
theorem NewO.mono {B : Nat} {w : World} {v : Value} {xs : List ByteArray} {n m : Nat} (h : NewO B w v xs n) (hm : n ≤ m) : NewO B w v xs m := ⟨⟨h.1.1, Nat.le_trans h.1.2 hm⟩, h.2⟩
theorem NewO.nil (B : Nat) (w : World) (hB : B ≤ w.heap.size) : NewO B w (.slice none 0 0) [] 0 := ⟨⟨World.ownsRow_nil _ _ _ _, Nat.le_refl _⟩, hB⟩
theorem NewO.eq {B : Nat} {w : World} {v : Value} {xs ys : List ByteArray} {n : Nat} (h : NewO B w v xs n) (e : ys = xs) : NewO B w v ys n := by rw [e]; exact h
theorem put_newO (B : Nat) (v : Value) (n : Nat) (xs : List ByteArray) (s : ByteArray) (w : World) (h : NewO B w v xs n) (hn : n ≤ 100000) :
    Calls Tryz.prog 91 #[v, .string s] w fun e w' => ∃ v', e = .returned v' ∧ NewO B w' v' (xs ++ [s]) (n + 1) ∧ Below w.heap.size w w' := by
  refine (ref1_PutO v (newB xs) s w (Sl.of_own h.1.1).a (Nat.le_trans (new_len xs) (Nat.le_trans h.1.2 hn))).mono ?_
  rintro e w' ⟨v', he, hr, hb⟩
  refine ⟨v', he, ⟨⟨?_, by rw [List.length_append]; exact Nat.succ_le_succ h.1.2⟩, Nat.le_trans h.2 hb.size⟩, hb⟩
  rw [new_snoc]
  rcases hr with ⟨rfl, e1⟩ | hr
  · rw [e1]; exact own_below h.1.1 hb
  · exact own_mono hr h.2
set_option maxRecDepth 100000 in
set_option maxHeartbeats 8000000 in
theorem ref5_PrinsO (v0 v1 v2 v3 : Value) (l : List St) (g h : List Rl) (qs : List Qv) (w : World) (hp : PolAt w v0 v1 v2 v3 l g h qs) (hl : l.length ≤ 100) (hg : g.length ≤ 100) (hh : h.length ≤ 100) (hq : qs.length ≤ 100) (F : Qv → List ByteArray) (hF : WhoF w qs F) :
    Calls Tryz.prog 45 #[pv v0 v1 v2 v3] w fun e w' => ∃ v, e = .returned v ∧ NewO w.heap.size w' v (allPrins l g h qs F) 10000 ∧ Below w.heap.size w w' := by
  have HP := Lib.hid hp
  have HR := Lib.hid (fun W (hb : Below w.heap.size w W) => ref5_RolesL v0 v1 v2 v3 l g h qs W (hp.below hb) hl hg hh hq)
  have HQ4 := Lib.hid hF
  obtain ⟨a0, c0, rfl⟩ := hp.rs.form
  obtain ⟨a1, c1, rfl⟩ := hp.rg.form
  obtain ⟨a2, c2, rfl⟩ := hp.rh.form
  obtain ⟨a3, c3, rfl⟩ := hp.rq.form
  have HT := Lib.hid (show OneAt w #[.slice a0 l.length c0, .slice a1 g.length c1, .slice a2 h.length c2, .slice a3 qs.length c3] (w.alloc (.cells #[.slice a0 l.length c0, .slice a1 g.length c1, .slice a2 h.length c2, .slice a3 qs.length c3] 26)) from ⟨Blk.new w _ _, (Below.refl _ _).alloc (Nat.le_refl _) _⟩)
  clear hp hF
  go_enter Tryz.func45, Tryz.ntmps45
  go_wp2_with fail
  refine (HR.out _ HT.out.low).mono ?_
  rintro e w1 ⟨vr, rfl, hr1, hr2, hr3, hb1⟩
  have HT := Lib.hid (HT.out.later hb1)
  have HRES := Lib.hid (show allPrins l g h qs F = ((allRoles l g h qs).map Rl.o ++ l.flatMap whoS) ++ qs.flatMap F from rfl)
  generalize allRoles l g h qs = rs at *
  have HRS := Lib.hid hr1
  have HRL := Lib.hid hr3
  obtain ⟨ro, rc, rfl⟩ := hr1.form
  clear hb1 hr1 hr3
  go_wp2_with fail
  go_loopw [3, 15] (fun vo i wr => ∃ (k : Nat) (vx : Value), k ≤ rs.length ∧ vx = vo ∧ i = .int .i64 k ∧ Hid (NewO w.heap.size wr vx ((rs.take k).map Rl.o) k) ∧ Hid (OneAt w #[.slice a0 l.length c0, .slice a1 g.length c1, .slice a2 h.length c2, .slice a3 qs.length c3] wr) ∧ Hid (Below w1.heap.size w1 wr)) (fun _ i _ => rs.length - (intOf i).toNat)
  case atStart => exact ⟨0, _, by omega, rfl, rfl, Lib.hid (NewO.nil _ _ HT.out.low.size), HT, Lib.hid (Below.refl _ _)⟩
  case round =>
    clear HT
    obtain ⟨k, vx, hk, rfl, rfl, HO, HT, HB⟩ := hrel
    by_cases hlt : k < rs.length
    · obtain ⟨b1, o1, e1, he1, hc1, hm1', hb1, hx1⟩ := HRS.out.pos (by omega)
      simp only [Value.slice.injEq, true_and] at he1
      obtain ⟨rfl, rfl⟩ := he1
      obtain ⟨p0, p1⟩ := rl_cell (w := wr) (fun j u hu => (HB.out.cell (p := ⟨b1, o1 + j, none⟩) hb1).trans (hx1 j u hu)) k hlt
      have hbr : b1 < wr.heap.size := Nat.lt_of_lt_of_le hb1 HB.out.size
      have HF := Lib.hid (take_snoc hlt)
      clear hx1
      generalize rs[k] = x at *
      obtain ⟨x1, x2⟩ := x
      have hba : Below wr.heap.size wr (wr.alloc (.cells #[.string x1, .string x2] 28)) := (Below.refl _ _).alloc (Nat.le_refl _) _
      have PC := Lib.hid (put_newO w.heap.size vx k _ x1 _ (HO.out.below hba) (by omega))
      have HT2 := Lib.hid (HT.out.later hba)
      have HB2 := Lib.hid (HB.out.trans (hba.mono HB.out.size))
      clear hba
      go_wp2_with fail
      refine PC.out.mono ?_
      rintro e w3 ⟨vz, rfl, hr, hb3⟩
      have HR3 := Lib.hid hr
      have HT3 := Lib.hid (HT2.out.later hb3)
      have HB3 := Lib.hid (HB2.out.trans (hb3.mono HB2.out.size))
      clear hr hb3
      go_wp2
      exact ⟨⟨k + 1, _, by omega, rfl, by go_num, Lib.hid (HR3.out.eq (by rw [HF.out, List.map_append]; rfl)), HT3, HB3⟩, by simp [intOf]; omega⟩
    · obtain ⟨ca, fa, za⟩ := HT.out.a
      have HO := Lib.hid ((HO.out.mono (show k ≤ 1000 by omega)).eq (ys := rs.map Rl.o) (by rw [List.take_of_length_le (show rs.length ≤ k by omega)]))
      clear HB HRS HRL hk
      go_wp2_with fail
      clear ca fa za
      go_loopw [3, 27] (fun vo i wr => ∃ (k : Nat) (vx : Value), k ≤ l.length ∧ vx = vo ∧ i = .int .i64 k ∧ Hid (NewO w.heap.size wr vx (rs.map Rl.o ++ (l.take k).flatMap whoS) (1000 + k)) ∧ Hid (OneAt w #[.slice a0 l.length c0, .slice a1 g.length c1, .slice a2 h.length c2, .slice a3 qs.length c3] wr)) (fun _ i _ => l.length - (intOf i).toNat)
      case atStart => exact ⟨0, _, by omega, rfl, rfl, Lib.hid (HO.out.eq (by simp)), HT⟩
      case round =>
        clear HT HO
        obtain ⟨k, vx, hk, rfl, rfl, HO, HT⟩ := hrel
        by_cases hlt : k < l.length
        · obtain ⟨b1, o1, e1, he1, hc1, hm1', hb1, hx1⟩ := HP.out.rs.pos (by omega)
          simp only [Value.slice.injEq, true_and] at he1
          obtain ⟨rfl, rfl⟩ := he1
          obtain ⟨p0, p1, p2, p3, p4, p5, p6, p7, p8⟩ := st_cell (w := wr) (fun j u hu => (HT.out.low.cell (p := ⟨b1, o1 + j, none⟩) hb1).trans (hx1 j u hu)) k hlt
          have hbr : b1 < wr.heap.size := Nat.lt_of_lt_of_le hb1 HT.out.low.size
          have HF := Lib.hid (flat_snocF whoS hlt)
          clear hx1
          generalize l[k] = x at *
          obtain ⟨xk, ⟨x1, x2⟩, xw, ⟨x3, x4⟩, ⟨x5, x6⟩, xv⟩ := x
          have hba : Below wr.heap.size wr (wr.alloc (.cells #[.int .i64 xk, .string x1, .string x2, .string xw, .string x3, .string x4, .string x5, .string x6, .string xv] 35)) := (Below.refl _ _).alloc (Nat.le_refl _) _
          have PC := Lib.hid (put_newO w.heap.size vx (1000 + k) _ xw _ (HO.out.below hba) (by omega))
          have HT2 := Lib.hid (HT.out.later hba)
          have HO2 := Lib.hid (HO.out.below hba)
          clear hba
          by_cases hkk : xk = 1
          · have d1 : (xk == 1) = true := by simp [hkk]
            have HK := Lib.hid (show whoS ⟨xk, ⟨x1, x2⟩, xw, ⟨x3, x4⟩, ⟨x5, x6⟩, xv⟩ = [xw] from if_pos hkk)
            clear hkk
            go_wp2_with fail
            refine PC.out.mono ?_
            rintro e w3 ⟨vz, rfl, hr, hb3⟩
            have HR3 := Lib.hid hr
            have HT3 := Lib.hid (HT2.out.later hb3)
            clear hr hb3
            go_wp2
            exact ⟨⟨k + 1, _, by omega, rfl, by go_num, Lib.hid (HR3.out.eq (by rw [HF.out, HK.out, List.append_assoc])), HT3⟩, by simp [intOf]; omega⟩
          · have d1 : (xk == 1) = false := by simp [hkk]
            have HK := Lib.hid (show whoS ⟨xk, ⟨x1, x2⟩, xw, ⟨x3, x4⟩, ⟨x5, x6⟩, xv⟩ = [] from if_neg hkk)
            clear hkk
            go_wp2
            exact ⟨⟨k + 1, _, by omega, rfl, by go_num, Lib.hid ((HO2.out.mono (by omega)).eq (by rw [HF.out, HK.out, List.append_nil])), HT2⟩, by simp [intOf]; omega⟩
        · obtain ⟨ca, fa, za⟩ := HT.out.a
          have HO := Lib.hid ((HO.out.mono (show 1000 + k ≤ 1100 by omega)).eq (ys := rs.map Rl.o ++ l.flatMap whoS) (by rw [List.take_of_length_le (show l.length ≤ k by omega)]))
          clear hk
          go_wp2_with fail
          clear ca fa za
          go_loopw [3, 42] (fun vo i wr => ∃ (k : Nat) (vx : Value), k ≤ qs.length ∧ vx = vo ∧ i = .int .i64 k ∧ Hid (NewO w.heap.size wr vx (rs.map Rl.o ++ l.flatMap whoS ++ (qs.take k).flatMap F) (1100 + 40 * k)) ∧ Hid (OneAt w #[.slice a0 l.length c0, .slice a1 g.length c1, .slice a2 h.length c2, .slice a3 qs.length c3] wr)) (fun _ i _ => qs.length - (intOf i).toNat)
          case atStart => exact ⟨0, _, by omega, rfl, rfl, Lib.hid (HO.out.eq (by simp)), HT⟩
          case round =>
            clear HT HO
            obtain ⟨k, vx, hk, rfl, rfl, HO, HT⟩ := hrel
            by_cases hlt : k < qs.length
            · obtain ⟨b1, o1, e1, he1, hc1, hm1', hb1, hx1⟩ := HP.out.rq.pos (by omega)
              simp only [Value.slice.injEq, true_and] at he1
              obtain ⟨rfl, rfl⟩ := he1
              obtain ⟨p0, p1, p2, p3, p4, p5⟩ := q_cell (w := wr) (fun j u hu => (HT.out.low.cell (p := ⟨b1, o1 + j, none⟩) hb1).trans (hx1 j u hu)) k hlt
              have hbr : b1 < wr.heap.size := Nat.lt_of_lt_of_le hb1 HT.out.low.size
              obtain ⟨hu1, hu2⟩ := HQ4.out _ (List.getElem_mem hlt)
              have HF := Lib.hid (flat_snocF F hlt)
              generalize F qs[k] = us at hu1 hu2 HF
              have HU := Lib.hid hu1
              obtain ⟨wo, wc, hw5⟩ := hu1.form
              clear hx1 hu1
              generalize qs[k] = x at *
              obtain ⟨xk, ⟨x1, x2⟩, ⟨x3, x4⟩, xw⟩ := x
              dsimp only at hw5 HU
              subst hw5
              obtain ⟨nw, hnw⟩ : ∃ nw, nw = us.length := ⟨_, rfl⟩
              have HNW := Lib.hid hnw
              rw [← hnw] at p5 HU hu2
              clear hnw
              have hba : Below wr.heap.size wr (wr.alloc (.cells #[.int .i64 xk, .string x1, .string x2, .string x3, .string x4, .slice wo nw wc] 45)) := (Below.refl _ _).alloc (Nat.le_refl _) _
              have HT2 := Lib.hid (HT.out.later hba)
              have HO2 := Lib.hid (HO.out.below hba)
              clear hba
              go_wp2_with fail
              go_loopw [3, 49] (fun vo i wr => ∃ (j : Nat) (vx : Value), j ≤ nw ∧ vx = vo ∧ i = .int .i64 j ∧ Hid (NewO w.heap.size wr vx (rs.map Rl.o ++ l.flatMap whoS ++ (qs.take k).flatMap F ++ us.take j) (1100 + 40 * k + j)) ∧ Hid (OneAt w #[.slice a0 l.length c0, .slice a1 g.length c1, .slice a2 h.length c2, .slice (some ⟨b1, o1, none⟩) qs.length c3] wr)) (fun _ i _ => nw - (intOf i).toNat)
              case atStart => exact ⟨0, _, by omega, rfl, rfl, Lib.hid (HO2.out.eq (by simp)), HT2⟩
              case round =>
                clear HT HO HT2 HO2
                obtain ⟨j, vx, hj, rfl, rfl, HO, HT⟩ := hrel
                by_cases hlj : j < nw
                · obtain ⟨b1, o1, e1, he1, hc1, hm1', hb1, hx1⟩ := HU.out.pos (by omega)
                  simp only [Value.slice.injEq, true_and] at he1
                  obtain ⟨rfl, rfl⟩ := he1
                  have hju : j < us.length := by have := HNW.out; omega
                  have p0 := (HT.out.low.cell (p := ⟨b1, o1 + j, none⟩) hb1).trans (hx1 j _ (strs_get hju))
                  have hbr : b1 < wr.heap.size := Nat.lt_of_lt_of_le hb1 HT.out.low.size
                  have PC := Lib.hid (put_newO w.heap.size vx (1100 + 40 * k + j) _ us[j] _ HO.out (by omega))
                  have HFJ := Lib.hid (take_snoc hju)
                  clear hx1
                  generalize us[j] = s at *
                  go_wp2_with fail
                  refine PC.out.mono ?_
                  rintro e w3 ⟨vz, rfl, hr, hb3⟩
                  have HR3 := Lib.hid hr
                  have HT3 := Lib.hid (HT.out.later hb3)
                  clear hr hb3
                  go_wp2
                  exact ⟨⟨j + 1, _, by omega, rfl, by go_num, Lib.hid (HR3.out.eq (by rw [HFJ.out]; simp only [List.append_assoc])), HT3⟩, by simp [intOf]; omega⟩
                · have HO3 := Lib.hid ((HO.out.mono (show 1100 + 40 * k + j ≤ 1100 + 40 * (k + 1) by omega)).eq (ys := rs.map Rl.o ++ l.flatMap whoS ++ (qs.take (k + 1)).flatMap F) (by rw [HF.out, List.take_of_length_le (show us.length ≤ j by have := HNW.out; omega)]; simp only [List.append_assoc]))
                  go_wp2
                  exact ⟨⟨k + 1, _, by omega, rfl, by go_num, HO3, HT⟩, by simp [intOf]; omega⟩
            · have HO3 := Lib.hid ((HO.out.mono (show 1100 + 40 * k ≤ 10000 by omega)).eq (ys := allPrins l g h qs F) (by rw [HRES.out, List.take_of_length_le (show qs.length ≤ k by omega)]))
              go_wp2
              go_ret
              exact ⟨_, rfl, HO3.out, HT.out.low⟩

set_option maxRecDepth 100000 in
set_option maxHeartbeats 8000000 in
theorem ref5_NamesO (v0 v1 v2 v3 : Value) (l : List St) (g h : List Rl) (qs : List Qv) (w : World) (hp : PolAt w v0 v1 v2 v3 l g h qs) (hl : l.length ≤ 100) (hg : g.length ≤ 100) (hh : h.length ≤ 100) (hq : qs.length ≤ 100)  :
    Calls Tryz.prog 46 #[pv v0 v1 v2 v3] w fun e w' => ∃ v, e = .returned v ∧ NewO w.heap.size w' v (allNames l g h qs) 10000 ∧ Below w.heap.size w w' := by
  have HP := Lib.hid hp
  have HR := Lib.hid (fun W (hb : Below w.heap.size w W) => ref5_RolesL v0 v1 v2 v3 l g h qs W (hp.below hb) hl hg hh hq)
  obtain ⟨a0, c0, rfl⟩ := hp.rs.form
  obtain ⟨a1, c1, rfl⟩ := hp.rg.form
  obtain ⟨a2, c2, rfl⟩ := hp.rh.form
  obtain ⟨a3, c3, rfl⟩ := hp.rq.form
  have HT := Lib.hid (show OneAt w #[.slice a0 l.length c0, .slice a1 g.length c1, .slice a2 h.length c2, .slice a3 qs.length c3] (w.alloc (.cells #[.slice a0 l.length c0, .slice a1 g.length c1, .slice a2 h.length c2, .slice a3 qs.length c3] 26)) from ⟨Blk.new w _ _, (Below.refl _ _).alloc (Nat.le_refl _) _⟩)
  clear hp 
  go_enter Tryz.func46, Tryz.ntmps46
  go_wp2_with fail
  refine (HR.out _ HT.out.low).mono ?_
  rintro e w1 ⟨vr, rfl, hr1, hr2, hr3, hb1⟩
  have HT := Lib.hid (HT.out.later hb1)
  have HRES := Lib.hid (show allNames l g h qs = ((allRoles l g h qs).map Rl.n ++ l.flatMap viaS)  from rfl)
  generalize allRoles l g h qs = rs at *
  have HRS := Lib.hid hr1
  have HRL := Lib.hid hr3
  obtain ⟨ro, rc, rfl⟩ := hr1.form
  clear hb1 hr1 hr3
  go_wp2_with fail
  go_loopw [3, 11] (fun vo i wr => ∃ (k : Nat) (vx : Value), k ≤ rs.length ∧ vx = vo ∧ i = .int .i64 k ∧ Hid (NewO w.heap.size wr vx ((rs.take k).map Rl.n) k) ∧ Hid (OneAt w #[.slice a0 l.length c0, .slice a1 g.length c1, .slice a2 h.length c2, .slice a3 qs.length c3] wr) ∧ Hid (Below w1.heap.size w1 wr)) (fun _ i _ => rs.length - (intOf i).toNat)
  case atStart => exact ⟨0, _, by omega, rfl, rfl, Lib.hid (NewO.nil _ _ HT.out.low.size), HT, Lib.hid (Below.refl _ _)⟩
  case round =>
    clear HT
    obtain ⟨k, vx, hk, rfl, rfl, HO, HT, HB⟩ := hrel
    by_cases hlt : k < rs.length
    · obtain ⟨b1, o1, e1, he1, hc1, hm1', hb1, hx1⟩ := HRS.out.pos (by omega)
      simp only [Value.slice.injEq, true_and] at he1
      obtain ⟨rfl, rfl⟩ := he1
      obtain ⟨p0, p1⟩ := rl_cell (w := wr) (fun j u hu => (HB.out.cell (p := ⟨b1, o1 + j, none⟩) hb1).trans (hx1 j u hu)) k hlt
      have hbr : b1 < wr.heap.size := Nat.lt_of_lt_of_le hb1 HB.out.size
      have HF := Lib.hid (take_snoc hlt)
      clear hx1
      generalize rs[k] = x at *
      obtain ⟨x1, x2⟩ := x
      have hba : Below wr.heap.size wr (wr.alloc (.cells #[.string x1, .string x2] 28)) := (Below.refl _ _).alloc (Nat.le_refl _) _
      have PC := Lib.hid (put_newO w.heap.size vx k _ x2 _ (HO.out.below hba) (by omega))
      have HT2 := Lib.hid (HT.out.later hba)
      have HB2 := Lib.hid (HB.out.trans (hba.mono HB.out.size))
      clear hba
      go_wp2_with fail
      refine PC.out.mono ?_
      rintro e w3 ⟨vz, rfl, hr, hb3⟩
      have HR3 := Lib.hid hr
      have HT3 := Lib.hid (HT2.out.later hb3)
      have HB3 := Lib.hid (HB2.out.trans (hb3.mono HB2.out.size))
      clear hr hb3
      go_wp2
      exact ⟨⟨k + 1, _, by omega, rfl, by go_num, Lib.hid (HR3.out.eq (by rw [HF.out, List.map_append]; rfl)), HT3, HB3⟩, by simp [intOf]; omega⟩
    · obtain ⟨ca, fa, za⟩ := HT.out.a
      have HO := Lib.hid ((HO.out.mono (show k ≤ 1000 by omega)).eq (ys := rs.map Rl.n) (by rw [List.take_of_length_le (show rs.length ≤ k by omega)]))
      clear HB HRS HRL hk
      go_wp2_with fail
      clear ca fa za
      go_loopw [3, 23] (fun vo i wr => ∃ (k : Nat) (vx : Value), k ≤ l.length ∧ vx = vo ∧ i = .int .i64 k ∧ Hid (NewO w.heap.size wr vx (rs.map Rl.n ++ (l.take k).flatMap viaS) (1000 + k)) ∧ Hid (OneAt w #[.slice a0 l.length c0, .slice a1 g.length c1, .slice a2 h.length c2, .slice a3 qs.length c3] wr)) (fun _ i _ => l.length - (intOf i).toNat)
      case atStart => exact ⟨0, _, by omega, rfl, rfl, Lib.hid (HO.out.eq (by simp)), HT⟩
      case round =>
        clear HT HO
        obtain ⟨k, vx, hk, rfl, rfl, HO, HT⟩ := hrel
        by_cases hlt : k < l.length
        · obtain ⟨b1, o1, e1, he1, hc1, hm1', hb1, hx1⟩ := HP.out.rs.pos (by omega)
          simp only [Value.slice.injEq, true_and] at he1
          obtain ⟨rfl, rfl⟩ := he1
          obtain ⟨p0, p1, p2, p3, p4, p5, p6, p7, p8⟩ := st_cell (w := wr) (fun j u hu => (HT.out.low.cell (p := ⟨b1, o1 + j, none⟩) hb1).trans (hx1 j u hu)) k hlt
          have hbr : b1 < wr.heap.size := Nat.lt_of_lt_of_le hb1 HT.out.low.size
          have HF := Lib.hid (flat_snocF viaS hlt)
          clear hx1
          generalize l[k] = x at *
          obtain ⟨xk, ⟨x1, x2⟩, xw, ⟨x3, x4⟩, ⟨x5, x6⟩, xv⟩ := x
          have hba : Below wr.heap.size wr (wr.alloc (.cells #[.int .i64 xk, .string x1, .string x2, .string xw, .string x3, .string x4, .string x5, .string x6, .string xv] 35)) := (Below.refl _ _).alloc (Nat.le_refl _) _
          have PC := Lib.hid (put_newO w.heap.size vx (1000 + k) _ xv _ (HO.out.below hba) (by omega))
          have HT2 := Lib.hid (HT.out.later hba)
          have HO2 := Lib.hid (HO.out.below hba)
          clear hba
          by_cases hkk : xk = 3
          · have d1 : (xk == 3) = true := by simp [hkk]
            have HK := Lib.hid (show viaS ⟨xk, ⟨x1, x2⟩, xw, ⟨x3, x4⟩, ⟨x5, x6⟩, xv⟩ = [xv] from if_pos hkk)
            clear hkk
            go_wp2_with fail
            refine PC.out.mono ?_
            rintro e w3 ⟨vz, rfl, hr, hb3⟩
            have HR3 := Lib.hid hr
            have HT3 := Lib.hid (HT2.out.later hb3)
            clear hr hb3
            go_wp2
            exact ⟨⟨k + 1, _, by omega, rfl, by go_num, Lib.hid (HR3.out.eq (by rw [HF.out, HK.out, List.append_assoc])), HT3⟩, by simp [intOf]; omega⟩
          · have d1 : (xk == 3) = false := by simp [hkk]
            have HK := Lib.hid (show viaS ⟨xk, ⟨x1, x2⟩, xw, ⟨x3, x4⟩, ⟨x5, x6⟩, xv⟩ = [] from if_neg hkk)
            clear hkk
            go_wp2
            exact ⟨⟨k + 1, _, by omega, rfl, by go_num, Lib.hid ((HO2.out.mono (by omega)).eq (by rw [HF.out, HK.out, List.append_nil])), HT2⟩, by simp [intOf]; omega⟩
        · have HO3 := Lib.hid ((HO.out.mono (show 1000 + k ≤ 10000 by omega)).eq (ys := allNames l g h qs) (by rw [HRES.out, List.take_of_length_le (show l.length ≤ k by omega)]))
          go_wp2
          go_ret
          exact ⟨_, rfl, HO3.out, HT.out.low⟩
end Go.Proofs.YtcmdhfccdkjenaaGreatDoor
namespace Go.Proofs.YtcmdhfccdkjenaaGreatDoor
open Go.RowKit Go.Shelf

end Go.Proofs.YtcmdhfccdkjenaaGreatDoor
namespace Go.Proofs.YtcmdhfccdkjenaaGreatDoor
open Go.RowKit Go.Shelf

section
variable {w : World} {v0 v1 v2 v3 : Value} {l : List St} {g h : List Rl} {qs : List Qv} {F : Qv → List ByteArray} {PS NS : List ByteArray}
theorem ref5_PrinsX (P : PolX w v0 v1 v2 v3 l g h qs F PS NS) : Calls Tryz.prog 45 #[pv v0 v1 v2 v3] w fun e w' => ∃ v, e = .returned v ∧ w'.ownsRow w.heap.size 9 1 v PS.length (strs PS) ∧ Below w.heap.size w w' := by
  refine (ref5_PrinsO v0 v1 v2 v3 l g h qs w P.at_ P.hl P.hg P.hh P.hq F P.hF).mono ?_
  rintro e w' ⟨v, rfl, ⟨⟨h1, _⟩, _⟩, hb⟩
  rw [P.eP] at h1
  exact ⟨v, rfl, h1, hb⟩
theorem ref5_NamesX (P : PolX w v0 v1 v2 v3 l g h qs F PS NS) : Calls Tryz.prog 46 #[pv v0 v1 v2 v3] w fun e w' => ∃ v, e = .returned v ∧ w'.ownsRow w.heap.size 9 1 v NS.length (strs NS) ∧ Below w.heap.size w w' := by
  refine (ref5_NamesO v0 v1 v2 v3 l g h qs w P.at_ P.hl P.hg P.hh P.hq).mono ?_
  rintro e w' ⟨v, rfl, ⟨⟨h1, _⟩, _⟩, hb⟩
  rw [P.eN] at h1
  exact ⟨v, rfl, h1, hb⟩
end
end Go.Proofs.YtcmdhfccdkjenaaGreatDoor
namespace Go.Proofs.YtcmdhfccdkjenaaGreatDoor
open Go.RowKit Go.Shelf

section
variable {w : World} {b1 b2 : Nat}
end
end Go.Proofs.YtcmdhfccdkjenaaGreatDoor
namespace Go.Proofs.YtcmdhfccdkjenaaGreatDoor
open Go.RowKit Go.Shelf

theorem who_ex2 {w w' : World} {qs : List Qv} (h : ∀ q ∈ qs, q.ok w) (h' : ∀ q ∈ qs, q.okN 40 w') : ∃ F, WhoF w qs F ∧ ∀ q ∈ qs, ∀ s ∈ F q, s.size ≤ 9223372036854775807 := by
  have key : ∀ q, ∃ ss : List ByteArray, q ∈ qs → (SlA w 1 q.w ss.length (strs ss) ∧ ss.length ≤ 40 ∧ ∀ s ∈ ss, s.size ≤ 9223372036854775807) := by
    intro q
    by_cases hq : q ∈ qs
    · obtain ⟨_, _, ss, h1, h2⟩ := h q hq
      obtain ⟨_, _, ss', h3, h4, _⟩ := h' q hq
      obtain ⟨a, c, e⟩ := h1.form
      obtain ⟨a', c', e'⟩ := h3.form
      rw [e] at e'
      simp only [Value.slice.injEq] at e'
      exact ⟨ss, fun _ => ⟨h1, by rw [e'.2.1]; exact h4, h2⟩⟩
    · exact ⟨[], fun h' => absurd h' hq⟩
  refine ⟨fun q => (key q).choose, fun q hq => ⟨((key q).choose_spec hq).1, ((key q).choose_spec hq).2.1⟩, fun q hq => ((key q).choose_spec hq).2.2⟩
structure GoodP (l : List St) (g h : List Rl) (qs : List Qv) (F : Qv → List ByteArray) : Prop where
  right : ∀ s ∈ l, rightS s = true
  ps : (newB (allPrins l g h qs F)).length ≤ 16
  ns : (newB (allNames l g h qs)).length ≤ 12
theorem RightP.good {l : List St} {g h : List Rl} {qs : List Qv} {F : Qv → List ByteArray} (hr : RightP l g h qs F) : GoodP l g h qs F := by
  obtain ⟨h1, _, _, _, _, _, h2⟩ := hr
  unfold fitsP at h2
  simp only [Bool.and_eq_true, decide_eq_true_iff] at h2
  exact ⟨h1, h2.2.1, h2.2.2⟩
end Go.Proofs.YtcmdhfccdkjenaaGreatDoor
namespace Go.Proofs.YtcmdhfccdkjenaaGreatDoor
open Go.RowKit Go.Shelf

theorem RightP.polx {w : World} {v0 v1 v2 v3 : Value} {l : List St} {g h : List Rl} {qs : List Qv} {F : Qv → List ByteArray} (hr : RightP l g h qs F) (hp : PolAt w v0 v1 v2 v3 l g h qs) (hT : TB w) (hl : l.length ≤ 30) (hg : g.length ≤ 30) (hh : h.length ≤ 30) (hq : qs.length ≤ 30) (hF : WhoF w qs F) (hs : allLe l 40) :
    PolX w v0 v1 v2 v3 l g h qs F (newB (allPrins l g h qs F)) (newB (allNames l g h qs)) :=
  ⟨hp, by omega, by omega, by omega, by omega, hF, fun x hx => (hs x hx).mono (by decide), hT, rfl, rfl, by have := hr.good.ps; omega, by have := hr.good.ns; omega, hr.1, hr.names.1, hr.names.2⟩
end Go.Proofs.YtcmdhfccdkjenaaGreatDoor
namespace Go.Proofs.YtcmdhfccdkjenaaGreatDoor
open Go.RowKit Go.Shelf

theorem Sl.setBlk {w : World} {size n b o : Nat} {v x : Value} {xs : List Value} {A : Array Value} (h : Sl w size v n xs) (hg : Blk w b A) (hs : A.size < size) : Sl (w.setCell ⟨b, o, none⟩ x) size v n xs := by
  obtain ⟨h1, h2, h3⟩ := h
  refine ⟨h1, h2, ?_⟩
  rcases h3 with h3 | ⟨b', off, cap, hv, hc, hm, hb, hcell⟩
  · exact .inl h3
  · refine .inr ⟨b', off, cap, hv, hc, hm, by simpa using hb, fun j u hu => ?_⟩
    by_cases e : b = b'
    · subst e
      exfalso
      have hj : j < xs.length := (List.getElem?_eq_some_iff.1 hu).1
      have hn : 1 ≤ n := by
        rcases Nat.eq_zero_or_pos n with h0 | h0
        · rw [h1, h0, Nat.zero_mul] at hj; omega
        · exact h0
      have hlast : size - 1 < xs.length := by have := Nat.mul_le_mul_right size hn; omega
      have h4 := hcell (size - 1) _ (List.getElem?_eq_getElem hlast)
      rw [hg.1, Array.getElem?_eq_none (by omega)] at h4
      cases h4
    · exact (cell_far _ _ _ _ _ _ e).trans (hcell j u hu)
theorem SlA.setBlk {w : World} {size n b o : Nat} {v x : Value} {xs : List Value} {A : Array Value} (h : SlA w size v n xs) (hg : Blk w b A) (hs : A.size < size) : SlA (w.setCell ⟨b, o, none⟩ x) size v n xs := by
  rcases h with h | h
  · exact .inl (h.setBlk hg hs)
  · exact .inr h
theorem SlA.putsBlk {size n b : Nat} {v : Value} {xs : List Value} : ∀ (vs : List Value) (o : Nat) (w : World) (A : Array Value), SlA w size v n xs → Blk w b A → A.size < size → o + vs.length ≤ A.size → SlA (puts w b o vs) size v n xs
  | [], _, _, _, h, _, _, _ => h
  | y :: vs, o, w, A, h, hg, hs, ho => by
    rw [List.length_cons] at ho
    exact SlA.putsBlk vs (o + 1) _ _ (h.setBlk hg hs) (hg.put (by omega)) (by simpa using hs) (by simp; omega)
structure TriAt (w : World) (A B C : Array Value) (wx : World) : Prop where
  a : Blk wx w.heap.size A
  b : Blk wx (w.heap.size + 1) B
  c : Blk wx (w.heap.size + 1 + 1) C
  low : Below w.heap.size w wx
theorem TriAt.later {w wx w' : World} {A B C : Array Value} (h : TriAt w A B C wx) (hb : Below wx.heap.size wx w') : TriAt w A B C w' := ⟨h.a.below hb, h.b.below hb, h.c.below hb, h.low.trans (hb.mono h.low.size)⟩
theorem TriAt.new (w : World) (A B C : Array Value) (t u s : TypeId) : TriAt w A B C (((w.alloc (.cells A t)).alloc (.cells B u)).alloc (.cells C s)) :=
  ⟨((Blk.new w A t).alloc _).alloc _, (by have := Blk.new (w.alloc (.cells A t)) B u; simpa using this.alloc _), by have := Blk.new ((w.alloc (.cells A t)).alloc (.cells B u)) C s; simpa using this, (((Below.refl _ _).alloc (Nat.le_refl _) _).alloc (by simp) _).alloc (by simp; omega) _⟩
theorem Blk.four0 {w : World} {g : Nat} {z0 z1 z2 z3 : Value} (h : Blk w g #[z0, z1, z2, z3]) (x0 x1 x2 x3 : Value) : Blk (puts w g 0 [x0, x1, x2, x3]) g #[x0, x1, x2, x3] := by
  have h := (((h.put (o := 0) (v := x0) (by simp)).put (o := 1) (v := x1) (by simp)).put (o := 2) (v := x2) (by simp)).put (o := 3) (v := x3) (by simp)
  simp at h
  exact h
theorem TriAt.putsA {w wx : World} {B C : Array Value} {z0 z1 z2 z3 : Value} (h : TriAt w #[z0, z1, z2, z3] B C wx) (x0 x1 x2 x3 : Value) : TriAt w #[x0, x1, x2, x3] B C (puts wx w.heap.size 0 [x0, x1, x2, x3]) :=
  ⟨h.a.four0 x0 x1 x2 x3, h.b.puts_far (by omega) _ 0 wx, h.c.puts_far (by omega) _ 0 wx, below_puts (by omega) _ 0 wx h.low⟩
theorem TriAt.setC {w wx : World} {A B C : Array Value} {o : Nat} {v : Value} (h : TriAt w A B C wx) (ho : o < C.size) : TriAt w A B (C.setIfInBounds o v) (wx.setCell ⟨w.heap.size + 1 + 1, o, none⟩ v) :=
  ⟨h.a.far (by omega), h.b.far (by omega), h.c.put ho, below_put h.low (by omega)⟩
theorem TriAt.putsC {w wx : World} {A B : Array Value} {z0 z1 z2 z3 : Value} (h : TriAt w A B #[z0, z1, z2, z3] wx) (x0 x1 x2 x3 : Value) : TriAt w A B #[x0, x1, x2, x3] (puts wx (w.heap.size + 1 + 1) 0 [x0, x1, x2, x3]) :=
  ⟨h.a.puts_far (by omega) _ 0 wx, h.b.puts_far (by omega) _ 0 wx, h.c.four0 x0 x1 x2 x3, below_puts (by omega) _ 0 wx h.low⟩
structure SimIn (w : World) (v0 v1 v2 v3 : Value) (l : List St) (g h : List Rl) (qs : List Qv) (q : Qv) (us PS NS : List ByteArray) : Prop where
  at_ : PolAt w v0 v1 v2 v3 l g h qs
  hu : SlA w 1 q.w us.length (strs us)
  qok : q.ok w
  hl : l.length ≤ 30
  hg : g.length ≤ 30
  hh : h.length ≤ 30
  l40 : allLe l 40
  gh : ∀ x ∈ g ++ h, x.le 40
  qa : q.a.le 40
  qb : q.b.le 40
  ul : us.length ≤ 40
  uz : ∀ s ∈ us, s.size ≤ 9223372036854775807
  hT : TB w
  right : RightP l g h [q] (fun _ => us)
  q6 : ¬ q.k = 6
  eP : newB (allPrins l g h [q] (fun _ => us)) = PS
  eN : newB (allNames l g h [q]) = NS
  h6 : PS.length ≤ 16
  h4 : NS.length ≤ 12
section
variable {w W : World} {v0 v1 v2 v3 vq : Value} {l : List St} {g h : List Rl} {qs : List Qv} {q : Qv} {us PS NS : List ByteArray}
theorem SimIn.below (P : SimIn w v0 v1 v2 v3 l g h qs q us PS NS) (hb : Below w.heap.size w W) : SimIn W v0 v1 v2 v3 l g h qs q us PS NS :=
  ⟨P.at_.below hb, P.hu.below hb, P.qok.below hb, P.hl, P.hg, P.hh, P.l40, P.gh, P.qa, P.qb, P.ul, P.uz, P.hT.below hb, P.right, P.q6, P.eP, P.eN, P.h6, P.h4⟩
theorem SimIn.whoF (P : SimIn w v0 v1 v2 v3 l g h qs q us PS NS) (hb : Below w.heap.size w W) : WhoF W [q] (fun _ => us) := fun x hx => by
  rw [List.mem_singleton.1 hx]; exact ⟨P.hu.below hb, P.ul⟩
theorem SimIn.polx (P : SimIn w v0 v1 v2 v3 l g h qs q us PS NS) (hb : Below w.heap.size w W) (hq : SlA W 6 vq 1 q.cells) : PolX W v0 v1 v2 vq l g h [q] (fun _ => us) PS NS := by
  have := P.right.polx (P.at_.only hb hq P.qok) (P.hT.below hb) P.hl P.hg P.hh (by simp) (P.whoF hb) P.l40
  rw [P.eP, P.eN] at this
  exact this
theorem SimIn.rightQ (P : SimIn w v0 v1 v2 v3 l g h qs q us PS NS) : rightQ q us = true := P.right.2.2.1 q (List.mem_singleton.2 rfl)
theorem sim_Right (P : SimIn w v0 v1 v2 v3 l g h qs q us PS NS) (hb : Below w.heap.size w W) (hq : SlA W 6 vq 1 q.cells) :
    Calls Tryz.prog 94 #[pv v0 v1 v2 vq] W fun e w' => e = .returned (.bool true) ∧ Below W.heap.size W w' := by
  have hle : ∀ {x : Rl}, x.le 40 → x.le 4294967 := fun h => h.mono (by decide)
  refine (policy_RightL v0 v1 v2 vq l g h [q] W (P.at_.only hb hq P.qok) (by have := P.hl; omega) (by have := P.hg; omega) (by have := P.hh; omega) (by simp) (fun x hx => (P.l40 x hx).mono (by decide)) (fun x hx => hle (P.gh x hx))
    (fun x hx => by rw [List.mem_singleton.1 hx]; exact ⟨hle P.qa, hle P.qb⟩) (fun _ => us) (P.whoF hb) (fun x hx => P.uz)).mono ?_
  rintro e w' ⟨⟨b, rfl, hi⟩, hb'⟩
  rw [hi.2 P.right]
  exact ⟨rfl, hb'⟩
theorem sim_IsT (P : SimIn w v0 v1 v2 v3 l g h qs q us PS NS) (hb : Below w.heap.size w W) :
    Calls Tryz.prog 31 #[qv q] W fun e w' => e = .returned (.bool true) ∧ Below W.heap.size W w' := by
  refine (sim_Is q us W (P.qa.mono (by decide)) (P.qb.mono (by decide)) (P.hu.below hb) P.uz).mono ?_
  rintro e w' ⟨rfl, hb'⟩
  rw [P.rightQ, decide_eq_false P.q6]
  exact ⟨rfl, hb'⟩
def SameM (A B : List ByteArray) (S : List St) : Prop := A.length ≤ 64 ∧ B.length ≤ 1000 ∧ AscB A ∧ AscB B ∧ ∀ s ∈ S, (ruleN A B s).2 = true
theorem SimIn.lowM (P : SimIn w v0 v1 v2 v3 l g h qs q us PS NS) : SameM PS NS (minS l h) := by
  have hs := P.right.1
  have e1 := P.eP
  have e2 := P.eN
  have h6 := P.h6
  have h4 := P.h4
  subst e1 e2
  exact ⟨by omega, by omega, new_asc _, new_asc _, fun s hs' => ruleN_in (hs s (List.mem_filter.1 hs').1) (stmt_inAB (List.mem_filter.1 hs').1)⟩
theorem PolX.highM {F : Qv → List ByteArray} (P : PolX W v0 v1 v2 v3 l g h qs F PS NS) (h6 : PS.length ≤ 16) (h4 : NS.length ≤ 12) : SameM (putX PS) NS (maxS l g PS NS) := by
  have hpx := putX_len PS
  exact ⟨by omega, by omega, putX_asc P.ascP, P.ascN, P.max_ok h6⟩
theorem sim_LowEval (P : SimIn w v0 v1 v2 v3 l g h qs q us PS NS) (hb : Below w.heap.size w W) (hq : SlA W 6 vq 1 q.cells) :
    Calls Tryz.prog 86 #[pv v0 v1 v2 vq] W fun e w' => ∃ t M fs st, e = .returned (.tuple #[.pointer (some ⟨t, 0, none⟩), .pointer (some ⟨M, 0, none⟩)]) ∧ TmAt w' t M PS NS (minS l h) fs st ∧ Below W.heap.size W w' := by
  have X := P.polx hb hq
  have := low_Eval v0 v1 v2 vq l g h [q] W X.at_ X.hl X.hg X.hh X.hq (fun _ => us) X.hF X.hs X.hT (by rw [X.eP]; have := P.h6; omega) (by rw [X.eN]; have := P.h4; omega)
  rw [X.eP, X.eN] at this
  exact this
theorem sim_LowState (P : SimIn w v0 v1 v2 v3 l g h qs q us PS NS) (hb : Below w.heap.size w W) (hq : SlA W 6 vq 1 q.cells) :
    Calls Tryz.prog 19 #[pv v0 v1 v2 vq] W fun e w' => ∃ v, e = .returned v ∧ Sl w' 9 v (minS l h).length ((minS l h).flatMap St.cells) ∧ Below W.heap.size W w' :=
  low_Minimal v0 v1 v2 vq l g h [q] W (P.polx hb hq).at_ (by have := P.hl; omega)
theorem sim_HighEval (P : SimIn w v0 v1 v2 v3 l g h qs q us PS NS) (hb : Below w.heap.size w W) (hq : SlA W 6 vq 1 q.cells) :
    Calls Tryz.prog 95 #[pv v0 v1 v2 vq] W fun e w' => ∃ t M fs st, e = .returned (.tuple #[.pointer (some ⟨t, 0, none⟩), .pointer (some ⟨M, 0, none⟩)]) ∧ TmAt w' t M (putX PS) NS (maxS l g PS NS) fs st ∧ Below W.heap.size W w' :=
  high_Eval (P.polx hb hq) P.h6 P.h4
theorem sim_HighState (P : SimIn w v0 v1 v2 v3 l g h qs q us PS NS) (hb : Below w.heap.size w W) (hq : SlA W 6 vq 1 q.cells) :
    Calls Tryz.prog 96 #[pv v0 v1 v2 vq] W fun e w' => ∃ v, e = .returned v ∧ Sl w' 9 v (maxS l g PS NS).length ((maxS l g PS NS).flatMap St.cells) ∧ Below W.heap.size W w' :=
  high_Maximal (P.polx hb hq) P.h6 P.h4
theorem sim_Univ {k : Int} {b : Bool} (hu : univB k = b) (w : World) : Calls Tryz.prog 99 #[.int .i64 k] w fun e w' => e = .returned (.bool b) ∧ w' = w := by
  rw [← hu]; exact query_Universal k w
theorem sim_Sat {t M st : Nat} {A B : List ByteArray} {S : List St} {fs : List (Nat × Nat)} {ps : List Pr} (P : SimIn w v0 v1 v2 v3 l g h qs q us PS NS) (hb : Below w.heap.size w W) (hm : TmAt W t M A B S fs st) (hS : SameM A B S) (hL : LeastS S (fun r x => (r, x) ∈ ps)) :
    Calls Tryz.prog 38 #[.func (.func 97) #[.agg #[.pointer (some ⟨t, 0, none⟩), .pointer (some ⟨M, 0, none⟩)]] #[], qv q] W fun e w' => e = .returned (.bool (satQ (membersP ps) q us)) ∧ Below W.heap.size W w' := by
  obtain ⟨ha, hb1, hc, hd, he⟩ := hS
  refine sim_Satisfies _ _ _ (enters_of Tryz.func97 (by kernel_rfl) rfl) _ q us W (P.hu.below hb) (fun r V hV => ?_)
  have hm' := hm.below hV
  obtain ⟨F, W0, g0, hmod⟩ := hm'.mod
  have := (sim_members hm' (P.hT.below (hb.trans (hV.mono hb.size))) r).mono (R' := fun e w' => ∃ a c, e = .returned (.slice a (membersP ps r).length c) ∧ SlA w' 1 (.slice a (membersP ps r).length c) (membersP ps r).length (strs (membersP ps r)) ∧ Below V.heap.size V w') (by
    rintro e w' ⟨v, rfl, hsl, hb'⟩
    rw [model_members hc hd ha hb1 he hL hm'.least hm'.rng r] at hsl
    obtain ⟨a, c, rfl⟩ := hsl.form
    exact ⟨a, c, rfl, hsl.a, hb'⟩)
  simpa using this
end
def kindV (u ok : Bool) : Int := if u then (if ok then 1 else 2) else (if ok then 3 else 4)
def DecP (S : List St) (q : Qv) (us : List ByteArray) (e : Ending) (w' : World) : Prop := ∃ (a : Option Addr) (c : Nat) (st : Nat) (T : List St) (ps : List Pr), e = .returned (.tuple #[.agg #[.int .i64 (kindV (univB q.k) (satQ (membersP ps) q us)), .slice a T.length c, .int .i64 st, .int .i64 0], .int .i64 0]) ∧ LeastS S (fun r x => (r, x) ∈ ps) ∧ SlA w' 9 (.slice a T.length c) T.length (T.flatMap St.cells) ∧ T = if univB q.k = satQ (membersP ps) q us then [] else S
end Go.Proofs.YtcmdhfccdkjenaaGreatDoor
namespace Go.Proofs.YtcmdhfccdkjenaaGreatDoor
open Go.RowKit Go.Shelf

set_option maxRecDepth 100000 in
set_option maxHeartbeats 8000000 in
theorem sim_Decide1 (v0 v1 v2 v3 : Value) (l : List St) (g h : List Rl) (qs : List Qv) (q : Qv) (us PS NS : List ByteArray) (w : World) (P : SimIn w v0 v1 v2 v3 l g h qs q us PS NS) (hk : q.k = 1) :
    Calls Tryz.prog 28 #[pv v0 v1 v2 v3, qv q] w fun e w' => DecP (minS l h) q us e w' ∧ Below w.heap.size w w' := by
  have HP := Lib.hid P
  obtain ⟨a0, c0, rfl⟩ := P.at_.rs.form
  obtain ⟨a1, c1, rfl⟩ := P.at_.rg.form
  obtain ⟨a2, c2, rfl⟩ := P.at_.rh.form
  obtain ⟨a3, c3, rfl⟩ := P.at_.rq.form
  obtain ⟨xk, ⟨x1, x2⟩, ⟨x3, x4⟩, wv⟩ := q
  dsimp only at hk
  obtain ⟨wo, wc, e1⟩ := P.hu.form
  dsimp only at e1
  subst hk e1
  clear P
  have HT := Lib.hid (show TriAt w #[.slice a0 l.length c0, .slice a1 g.length c1, .slice a2 h.length c2, .slice a3 qs.length c3] #[.int .i64 1, .string x1, .string x2, .string x3, .string x4, .slice wo us.length wc] #[.int .i64 0, .slice none 0 0, .int .i64 0, .int .i64 0] (((w.alloc (.cells #[.slice a0 l.length c0, .slice a1 g.length c1, .slice a2 h.length c2, .slice a3 qs.length c3] 26)).alloc (.cells #[.int .i64 1, .string x1, .string x2, .string x3, .string x4, .slice wo us.length wc] 45)).alloc (.cells #[.int .i64 0, .slice none 0 0, .int .i64 0, .int .i64 0] 48))
    from TriAt.new w _ _ _ _ _ _)
  go_enter Tryz.func28, Tryz.ntmps28
  go_upto_region 1 with fail
  obtain ⟨wk, hwk⟩ : ∃ W, W = (((w.alloc (.cells #[.slice a0 l.length c0, .slice a1 g.length c1, .slice a2 h.length c2, .slice a3 qs.length c3] 26)).alloc (.cells #[.int .i64 1, .string x1, .string x2, .string x3, .string x4, .slice wo us.length wc] 45)).alloc (.cells #[.int .i64 0, .slice none 0 0, .int .i64 0, .int .i64 0] 48)) := ⟨_, rfl⟩
  rw [← hwk] at HT ⊢
  clear hwk
  obtain ⟨ca, fa, za⟩ := HT.out.a
  obtain ⟨cb, fb, zb⟩ := HT.out.b
  go_wp2_with fail
  refine (sim_Only (.slice a0 l.length c0) (.slice a1 g.length c1) (.slice a2 h.length c2) (.slice a3 qs.length c3) l g h qs ⟨1, ⟨x1, x2⟩, ⟨x3, x4⟩, .slice wo us.length wc⟩ wk (HP.out.at_.below HT.out.low)).mono ?_
  rintro e w1 ⟨vq, rfl, hvq, hb1⟩
  obtain ⟨qa, qc, rfl⟩ := hvq.form
  have HT := Lib.hid (HT.out.later hb1)
  have HQ := Lib.hid hvq
  clear hvq hb1 ca fa za cb fb zb
  obtain ⟨ca, fa, za⟩ := HT.out.a
  go_upto_region 2 with fail
  obtain ⟨w2, hw2⟩ : ∃ W, W = puts w1 w.heap.size 0 [.slice a0 l.length c0, .slice a1 g.length c1, .slice a2 h.length c2, .slice qa 1 qc] := ⟨_, rfl⟩
  have hch : ((((w1.setCell ⟨w.heap.size, 0, none⟩ (.slice a0 l.length c0)).setCell ⟨w.heap.size, 1, none⟩ (.slice a1 g.length c1)).setCell ⟨w.heap.size, 2, none⟩ (.slice a2 h.length c2)).setCell ⟨w.heap.size, 3, none⟩ (.slice qa 1 qc)) = w2 := hw2.symm
  rw [hch]
  have HQ := Lib.hid (HQ.out.putsBlk [.slice a0 l.length c0, .slice a1 g.length c1, .slice a2 h.length c2, .slice qa 1 qc] 0 w1 _ HT.out.a (by simp) (by simp))
  have HT := Lib.hid (HT.out.putsA (.slice a0 l.length c0) (.slice a1 g.length c1) (.slice a2 h.length c2) (.slice qa 1 qc))
  rw [← hw2] at HQ HT
  clear hch hw2 ca fa za
  obtain ⟨ca, fa, za⟩ := HT.out.a
  obtain ⟨cb, fb, zb⟩ := HT.out.b
  go_wp2_with fail
  refine (sim_Right HP.out HT.out.low HQ.out).mono ?_
  rintro e w3 ⟨rfl, hb3⟩
  have HQ := Lib.hid (HQ.out.below hb3)
  have HT := Lib.hid (HT.out.later hb3)
  clear hb3 ca fa za cb fb zb
  obtain ⟨cb, fb, zb⟩ := HT.out.b
  go_wp2_with fail
  refine (sim_IsT HP.out HT.out.low).mono ?_
  rintro e w4 ⟨rfl, hb4⟩
  have HQ := Lib.hid (HQ.out.below hb4)
  have HT := Lib.hid (HT.out.later hb4)
  clear hb4 cb fb zb
  obtain ⟨ca, fa, za⟩ := HT.out.a
  obtain ⟨cb, fb, zb⟩ := HT.out.b
  go_wp2_with fail
  refine (sim_LowEval HP.out HT.out.low HQ.out).mono ?_
  rintro e w5 ⟨t, M, fs, st, rfl, ht, hb5⟩
  have hsm : SameM PS NS (minS l h) := HP.out.lowM
  have HQ := Lib.hid (HQ.out.below hb5)
  have HT := Lib.hid (HT.out.later hb5)
  have HM := Lib.hid ht
  have HS := Lib.hid hsm
  clear hb5 ca fa za cb fb zb ht hsm
  obtain ⟨ps, hps⟩ := least_ex (minS l h)
  have SAT := Lib.hid (sim_Sat HP.out HT.out.low HM.out HS.out hps)
  have HL := Lib.hid hps
  obtain ⟨ok, hok⟩ : ∃ b, b = satQ (membersP ps) ⟨1, ⟨x1, x2⟩, ⟨x3, x4⟩, .slice wo us.length wc⟩ us := ⟨_, rfl⟩
  rw [← hok] at SAT
  have HOK := Lib.hid hok
  clear hps hok
  obtain ⟨cb, fb, zb⟩ := HT.out.b
  go_wp2_with fail
  refine SAT.out.mono ?_
  rintro e w6 ⟨rfl, hb6⟩
  have HQ := Lib.hid (HQ.out.below hb6)
  have HT := Lib.hid (HT.out.later hb6)
  have HM := Lib.hid (HM.out.below hb6)
  clear hb6 cb fb zb SAT HS
  obtain ⟨F5, W0, g0, hm⟩ := HM.out.mod
  have ST := Lib.hid (model_Steps hm)
  clear hm
  go_wp2_with fail
  refine ST.out.mono ?_
  rintro e w7 ⟨rfl, rfl⟩
  clear ST
  obtain ⟨cc, fc, zc⟩ := HT.out.c
  go_upto_region 11 with fail
  have HQ := Lib.hid (HQ.out.setBlk (o := 2) (x := .int .i64 st) HT.out.c (by simp))
  have HT := Lib.hid (show TriAt w _ _ #[.int .i64 0, .slice none 0 0, .int .i64 st, .int .i64 0] _ from HT.out.setC (o := 2) (v := .int .i64 st) (by simp))
  clear cc fc zc
  obtain ⟨w8, hw8⟩ : ∃ W, W = w7.setCell ⟨w.heap.size + 1 + 1, 2, none⟩ (.int .i64 st) := ⟨_, rfl⟩
  rw [← hw8] at HQ HT ⊢
  clear hw8 HM
  obtain ⟨cb, fb, zb⟩ := HT.out.b
  go_wp2_with fail
  refine (sim_Univ (k := 1) (b := true) rfl w8).mono ?_
  rintro e w9 ⟨rfl, rfl⟩
  cases ok with
  | false =>
    go_wp2_with fail
    refine (sim_Univ (k := 1) (b := true) rfl w9).mono ?_
    rintro e w10 ⟨rfl, rfl⟩
    obtain ⟨ca, fa, za⟩ := HT.out.a
    go_wp2_with fail
    refine (sim_LowState HP.out HT.out.low HQ.out).mono ?_
    rintro e w11 ⟨vs, rfl, hvs, hb11⟩
    obtain ⟨sa, sc, rfl⟩ := hvs.form
    have HT := Lib.hid (HT.out.later hb11)
    have HV := Lib.hid hvs
    clear hvs hb11 ca fa za cb fb zb
    obtain ⟨cc, fc, zc⟩ := HT.out.c
    go_upto_region 17 with fail
    have HV := Lib.hid ((HV.out.setBlk (o := 0) (x := .int .i64 2) HT.out.c (by simp)).setBlk (o := 1) (x := .slice sa (minS l h).length sc) (HT.out.setC (o := 0) (v := .int .i64 2) (by simp)).c (by simp)).a
    have HT := Lib.hid (show TriAt w _ _ #[.int .i64 2, .slice sa (minS l h).length sc, .int .i64 st, .int .i64 0] _ from (HT.out.setC (o := 0) (v := .int .i64 2) (by simp)).setC (o := 1) (v := .slice sa (minS l h).length sc) (by simp))
    clear cc fc zc
    obtain ⟨wx, hwx⟩ : ∃ W, W = (w11.setCell ⟨w.heap.size + 1 + 1, 0, none⟩ (.int .i64 2)).setCell ⟨w.heap.size + 1 + 1, 1, none⟩ (.slice sa (minS l h).length sc) := ⟨_, rfl⟩
    rw [← hwx] at HV HT ⊢
    clear hwx
    obtain ⟨cc, fc, zc⟩ := HT.out.c
    go_wp2
    obtain ⟨wy, hwy⟩ : ∃ W, W = puts wx (w.heap.size + 1 + 1) 0 [.int .i64 2, .slice sa (minS l h).length sc, .int .i64 st, .int .i64 0] := ⟨_, rfl⟩
    have hch : ((((wx.setCell ⟨w.heap.size + 1 + 1, 0, none⟩ (.int .i64 2)).setCell ⟨w.heap.size + 1 + 1, 1, none⟩ (.slice sa (minS l h).length sc)).setCell ⟨w.heap.size + 1 + 1, 2, none⟩ (.int .i64 st)).setCell ⟨w.heap.size + 1 + 1, 3, none⟩ (.int .i64 0)) = wy := hwy.symm
    rw [hch]
    have HV := Lib.hid (HV.out.putsBlk [.int .i64 2, .slice sa (minS l h).length sc, .int .i64 st, .int .i64 0] 0 wx _ HT.out.c (by simp) (by simp))
    have HT := Lib.hid (HT.out.putsC (.int .i64 2) (.slice sa (minS l h).length sc) (.int .i64 st) (.int .i64 0))
    rw [← hwy] at HV HT
    clear hch hwy cc fc zc
    obtain ⟨cc, fc, zc⟩ := HT.out.c
    refine bodyPost_ret (v := .tuple #[.agg #[.int .i64 2, .slice sa (minS l h).length sc, .int .i64 st, .int .i64 0], .int .i64 0]) (by simp [results, Tryz.results28, go_sem, cc]) rfl ⟨⟨sa, sc, st, minS l h, ps, ?_, HL.out, HV.out, ?_⟩, HT.out.low⟩
    · show _ = Ending.returned (.tuple #[.agg #[.int .i64 (kindV (univB 1) (satQ (membersP ps) ⟨1, ⟨x1, x2⟩, ⟨x3, x4⟩, .slice wo us.length wc⟩ us)), .slice sa (minS l h).length sc, .int .i64 st, .int .i64 0], .int .i64 0])
      rw [← HOK.out]
      rfl
    · show _ = if univB 1 = satQ (membersP ps) ⟨1, ⟨x1, x2⟩, ⟨x3, x4⟩, .slice wo us.length wc⟩ us then [] else _
      rw [← HOK.out]
      rfl
  | true =>
    obtain ⟨cc, fc, zc⟩ := HT.out.c
    go_upto_region 17 with fail
    have HT := Lib.hid (show TriAt w _ _ #[.int .i64 1, .slice none 0 0, .int .i64 st, .int .i64 0] _ from HT.out.setC (o := 0) (v := .int .i64 1) (by simp))
    clear cc fc zc
    obtain ⟨wx, hwx⟩ : ∃ W, W = w9.setCell ⟨w.heap.size + 1 + 1, 0, none⟩ (.int .i64 1) := ⟨_, rfl⟩
    rw [← hwx] at HT ⊢
    clear hwx
    obtain ⟨cc, fc, zc⟩ := HT.out.c
    go_wp2
    obtain ⟨wy, hwy⟩ : ∃ W, W = puts wx (w.heap.size + 1 + 1) 0 [.int .i64 1, .slice none 0 0, .int .i64 st, .int .i64 0] := ⟨_, rfl⟩
    have hch : ((((wx.setCell ⟨w.heap.size + 1 + 1, 0, none⟩ (.int .i64 1)).setCell ⟨w.heap.size + 1 + 1, 1, none⟩ (.slice none 0 0)).setCell ⟨w.heap.size + 1 + 1, 2, none⟩ (.int .i64 st)).setCell ⟨w.heap.size + 1 + 1, 3, none⟩ (.int .i64 0)) = wy := hwy.symm
    rw [hch]
    have HT := Lib.hid (HT.out.putsC (.int .i64 1) (.slice none 0 0) (.int .i64 st) (.int .i64 0))
    rw [← hwy] at HT
    clear hch hwy cc fc zc
    obtain ⟨cc, fc, zc⟩ := HT.out.c
    refine bodyPost_ret (v := .tuple #[.agg #[.int .i64 1, .slice none 0 0, .int .i64 st, .int .i64 0], .int .i64 0]) (by simp [results, Tryz.results28, go_sem, cc]) rfl ⟨⟨none, 0, st, [], ps, ?_, HL.out, (Sl.nil _ _).a, ?_⟩, HT.out.low⟩
    · show _ = Ending.returned (.tuple #[.agg #[.int .i64 (kindV (univB 1) (satQ (membersP ps) ⟨1, ⟨x1, x2⟩, ⟨x3, x4⟩, .slice wo us.length wc⟩ us)), .slice none 0 0, .int .i64 st, .int .i64 0], .int .i64 0])
      rw [← HOK.out]
      rfl
    · show _ = if univB 1 = satQ (membersP ps) ⟨1, ⟨x1, x2⟩, ⟨x3, x4⟩, .slice wo us.length wc⟩ us then [] else _
      rw [← HOK.out]
      rfl
set_option maxRecDepth 100000 in
set_option maxHeartbeats 8000000 in
theorem sim_Decide4 (v0 v1 v2 v3 : Value) (l : List St) (g h : List Rl) (qs : List Qv) (q : Qv) (us PS NS : List ByteArray) (w : World) (P : SimIn w v0 v1 v2 v3 l g h qs q us PS NS) (hk : q.k = 4) :
    Calls Tryz.prog 28 #[pv v0 v1 v2 v3, qv q] w fun e w' => DecP (minS l h) q us e w' ∧ Below w.heap.size w w' := by
  have HP := Lib.hid P
  obtain ⟨a0, c0, rfl⟩ := P.at_.rs.form
  obtain ⟨a1, c1, rfl⟩ := P.at_.rg.form
  obtain ⟨a2, c2, rfl⟩ := P.at_.rh.form
  obtain ⟨a3, c3, rfl⟩ := P.at_.rq.form
  obtain ⟨xk, ⟨x1, x2⟩, ⟨x3, x4⟩, wv⟩ := q
  dsimp only at hk
  obtain ⟨wo, wc, e1⟩ := P.hu.form
  dsimp only at e1
  subst hk e1
  clear P
  have HT := Lib.hid (show TriAt w #[.slice a0 l.length c0, .slice a1 g.length c1, .slice a2 h.length c2, .slice a3 qs.length c3] #[.int .i64 4, .string x1, .string x2, .string x3, .string x4, .slice wo us.length wc] #[.int .i64 0, .slice none 0 0, .int .i64 0, .int .i64 0] (((w.alloc (.cells #[.slice a0 l.length c0, .slice a1 g.length c1, .slice a2 h.length c2, .slice a3 qs.length c3] 26)).alloc (.cells #[.int .i64 4, .string x1, .string x2, .string x3, .string x4, .slice wo us.length wc] 45)).alloc (.cells #[.int .i64 0, .slice none 0 0, .int .i64 0, .int .i64 0] 48))
    from TriAt.new w _ _ _ _ _ _)
  go_enter Tryz.func28, Tryz.ntmps28
  go_upto_region 1 with fail
  obtain ⟨wk, hwk⟩ : ∃ W, W = (((w.alloc (.cells #[.slice a0 l.length c0, .slice a1 g.length c1, .slice a2 h.length c2, .slice a3 qs.length c3] 26)).alloc (.cells #[.int .i64 4, .string x1, .string x2, .string x3, .string x4, .slice wo us.length wc] 45)).alloc (.cells #[.int .i64 0, .slice none 0 0, .int .i64 0, .int .i64 0] 48)) := ⟨_, rfl⟩
  rw [← hwk] at HT ⊢
  clear hwk
  obtain ⟨ca, fa, za⟩ := HT.out.a
  obtain ⟨cb, fb, zb⟩ := HT.out.b
  go_wp2_with fail
  refine (sim_Only (.slice a0 l.length c0) (.slice a1 g.length c1) (.slice a2 h.length c2) (.slice a3 qs.length c3) l g h qs ⟨4, ⟨x1, x2⟩, ⟨x3, x4⟩, .slice wo us.length wc⟩ wk (HP.out.at_.below HT.out.low)).mono ?_
  rintro e w1 ⟨vq, rfl, hvq, hb1⟩
  obtain ⟨qa, qc, rfl⟩ := hvq.form
  have HT := Lib.hid (HT.out.later hb1)
  have HQ := Lib.hid hvq
  clear hvq hb1 ca fa za cb fb zb
  obtain ⟨ca, fa, za⟩ := HT.out.a
  go_upto_region 2 with fail
  obtain ⟨w2, hw2⟩ : ∃ W, W = puts w1 w.heap.size 0 [.slice a0 l.length c0, .slice a1 g.length c1, .slice a2 h.length c2, .slice qa 1 qc] := ⟨_, rfl⟩
  have hch : ((((w1.setCell ⟨w.heap.size, 0, none⟩ (.slice a0 l.length c0)).setCell ⟨w.heap.size, 1, none⟩ (.slice a1 g.length c1)).setCell ⟨w.heap.size, 2, none⟩ (.slice a2 h.length c2)).setCell ⟨w.heap.size, 3, none⟩ (.slice qa 1 qc)) = w2 := hw2.symm
  rw [hch]
  have HQ := Lib.hid (HQ.out.putsBlk [.slice a0 l.length c0, .slice a1 g.length c1, .slice a2 h.length c2, .slice qa 1 qc] 0 w1 _ HT.out.a (by simp) (by simp))
  have HT := Lib.hid (HT.out.putsA (.slice a0 l.length c0) (.slice a1 g.length c1) (.slice a2 h.length c2) (.slice qa 1 qc))
  rw [← hw2] at HQ HT
  clear hch hw2 ca fa za
  obtain ⟨ca, fa, za⟩ := HT.out.a
  obtain ⟨cb, fb, zb⟩ := HT.out.b
  go_wp2_with fail
  refine (sim_Right HP.out HT.out.low HQ.out).mono ?_
  rintro e w3 ⟨rfl, hb3⟩
  have HQ := Lib.hid (HQ.out.below hb3)
  have HT := Lib.hid (HT.out.later hb3)
  clear hb3 ca fa za cb fb zb
  obtain ⟨cb, fb, zb⟩ := HT.out.b
  go_wp2_with fail
  refine (sim_IsT HP.out HT.out.low).mono ?_
  rintro e w4 ⟨rfl, hb4⟩
  have HQ := Lib.hid (HQ.out.below hb4)
  have HT := Lib.hid (HT.out.later hb4)
  clear hb4 cb fb zb
  obtain ⟨ca, fa, za⟩ := HT.out.a
  obtain ⟨cb, fb, zb⟩ := HT.out.b
  go_wp2_with fail
  refine (sim_LowEval HP.out HT.out.low HQ.out).mono ?_
  rintro e w5 ⟨t, M, fs, st, rfl, ht, hb5⟩
  have hsm : SameM PS NS (minS l h) := HP.out.lowM
  have HQ := Lib.hid (HQ.out.below hb5)
  have HT := Lib.hid (HT.out.later hb5)
  have HM := Lib.hid ht
  have HS := Lib.hid hsm
  clear hb5 ca fa za cb fb zb ht hsm
  obtain ⟨ps, hps⟩ := least_ex (minS l h)
  have SAT := Lib.hid (sim_Sat HP.out HT.out.low HM.out HS.out hps)
  have HL := Lib.hid hps
  obtain ⟨ok, hok⟩ : ∃ b, b = satQ (membersP ps) ⟨4, ⟨x1, x2⟩, ⟨x3, x4⟩, .slice wo us.length wc⟩ us := ⟨_, rfl⟩
  rw [← hok] at SAT
  have HOK := Lib.hid hok
  clear hps hok
  obtain ⟨cb, fb, zb⟩ := HT.out.b
  go_wp2_with fail
  refine SAT.out.mono ?_
  rintro e w6 ⟨rfl, hb6⟩
  have HQ := Lib.hid (HQ.out.below hb6)
  have HT := Lib.hid (HT.out.later hb6)
  have HM := Lib.hid (HM.out.below hb6)
  clear hb6 cb fb zb SAT HS
  obtain ⟨F5, W0, g0, hm⟩ := HM.out.mod
  have ST := Lib.hid (model_Steps hm)
  clear hm
  go_wp2_with fail
  refine ST.out.mono ?_
  rintro e w7 ⟨rfl, rfl⟩
  clear ST
  obtain ⟨cc, fc, zc⟩ := HT.out.c
  go_upto_region 11 with fail
  have HQ := Lib.hid (HQ.out.setBlk (o := 2) (x := .int .i64 st) HT.out.c (by simp))
  have HT := Lib.hid (show TriAt w _ _ #[.int .i64 0, .slice none 0 0, .int .i64 st, .int .i64 0] _ from HT.out.setC (o := 2) (v := .int .i64 st) (by simp))
  clear cc fc zc
  obtain ⟨w8, hw8⟩ : ∃ W, W = w7.setCell ⟨w.heap.size + 1 + 1, 2, none⟩ (.int .i64 st) := ⟨_, rfl⟩
  rw [← hw8] at HQ HT ⊢
  clear hw8 HM
  obtain ⟨cb, fb, zb⟩ := HT.out.b
  go_wp2_with fail
  refine (sim_Univ (k := 4) (b := false) rfl w8).mono ?_
  rintro e w9 ⟨rfl, rfl⟩
  cases ok with
  | false =>
    go_wp2_with fail
    refine (sim_Univ (k := 4) (b := false) rfl w9).mono ?_
    rintro e w10 ⟨rfl, rfl⟩
    obtain ⟨cc, fc, zc⟩ := HT.out.c
    go_upto_region 17 with fail
    have HT := Lib.hid (show TriAt w _ _ #[.int .i64 4, .slice none 0 0, .int .i64 st, .int .i64 0] _ from HT.out.setC (o := 0) (v := .int .i64 4) (by simp))
    clear cc fc zc
    obtain ⟨wx, hwx⟩ : ∃ W, W = w10.setCell ⟨w.heap.size + 1 + 1, 0, none⟩ (.int .i64 4) := ⟨_, rfl⟩
    rw [← hwx] at HT ⊢
    clear hwx
    obtain ⟨cc, fc, zc⟩ := HT.out.c
    go_wp2
    obtain ⟨wy, hwy⟩ : ∃ W, W = puts wx (w.heap.size + 1 + 1) 0 [.int .i64 4, .slice none 0 0, .int .i64 st, .int .i64 0] := ⟨_, rfl⟩
    have hch : ((((wx.setCell ⟨w.heap.size + 1 + 1, 0, none⟩ (.int .i64 4)).setCell ⟨w.heap.size + 1 + 1, 1, none⟩ (.slice none 0 0)).setCell ⟨w.heap.size + 1 + 1, 2, none⟩ (.int .i64 st)).setCell ⟨w.heap.size + 1 + 1, 3, none⟩ (.int .i64 0)) = wy := hwy.symm
    rw [hch]
    have HT := Lib.hid (HT.out.putsC (.int .i64 4) (.slice none 0 0) (.int .i64 st) (.int .i64 0))
    rw [← hwy] at HT
    clear hch hwy cc fc zc
    obtain ⟨cc, fc, zc⟩ := HT.out.c
    refine bodyPost_ret (v := .tuple #[.agg #[.int .i64 4, .slice none 0 0, .int .i64 st, .int .i64 0], .int .i64 0]) (by simp [results, Tryz.results28, go_sem, cc]) rfl ⟨⟨none, 0, st, [], ps, ?_, HL.out, (Sl.nil _ _).a, ?_⟩, HT.out.low⟩
    · show _ = Ending.returned (.tuple #[.agg #[.int .i64 (kindV (univB 4) (satQ (membersP ps) ⟨4, ⟨x1, x2⟩, ⟨x3, x4⟩, .slice wo us.length wc⟩ us)), .slice none 0 0, .int .i64 st, .int .i64 0], .int .i64 0])
      rw [← HOK.out]
      rfl
    · show _ = if univB 4 = satQ (membersP ps) ⟨4, ⟨x1, x2⟩, ⟨x3, x4⟩, .slice wo us.length wc⟩ us then [] else _
      rw [← HOK.out]
      rfl
  | true =>
    go_wp2_with fail
    refine (sim_Univ (k := 4) (b := false) rfl w9).mono ?_
    rintro e w10 ⟨rfl, rfl⟩
    obtain ⟨ca, fa, za⟩ := HT.out.a
    go_wp2_with fail
    refine (sim_LowState HP.out HT.out.low HQ.out).mono ?_
    rintro e w11 ⟨vs, rfl, hvs, hb11⟩
    obtain ⟨sa, sc, rfl⟩ := hvs.form
    have HT := Lib.hid (HT.out.later hb11)
    have HV := Lib.hid hvs
    clear hvs hb11 ca fa za cb fb zb
    obtain ⟨cc, fc, zc⟩ := HT.out.c
    go_upto_region 17 with fail
    have HV := Lib.hid ((HV.out.setBlk (o := 0) (x := .int .i64 3) HT.out.c (by simp)).setBlk (o := 1) (x := .slice sa (minS l h).length sc) (HT.out.setC (o := 0) (v := .int .i64 3) (by simp)).c (by simp)).a
    have HT := Lib.hid (show TriAt w _ _ #[.int .i64 3, .slice sa (minS l h).length sc, .int .i64 st, .int .i64 0] _ from (HT.out.setC (o := 0) (v := .int .i64 3) (by simp)).setC (o := 1) (v := .slice sa (minS l h).length sc) (by simp))
    clear cc fc zc
    obtain ⟨wx, hwx⟩ : ∃ W, W = (w11.setCell ⟨w.heap.size + 1 + 1, 0, none⟩ (.int .i64 3)).setCell ⟨w.heap.size + 1 + 1, 1, none⟩ (.slice sa (minS l h).length sc) := ⟨_, rfl⟩
    rw [← hwx] at HV HT ⊢
    clear hwx
    obtain ⟨cc, fc, zc⟩ := HT.out.c
    go_wp2
    obtain ⟨wy, hwy⟩ : ∃ W, W = puts wx (w.heap.size + 1 + 1) 0 [.int .i64 3, .slice sa (minS l h).length sc, .int .i64 st, .int .i64 0] := ⟨_, rfl⟩
    have hch : ((((wx.setCell ⟨w.heap.size + 1 + 1, 0, none⟩ (.int .i64 3)).setCell ⟨w.heap.size + 1 + 1, 1, none⟩ (.slice sa (minS l h).length sc)).setCell ⟨w.heap.size + 1 + 1, 2, none⟩ (.int .i64 st)).setCell ⟨w.heap.size + 1 + 1, 3, none⟩ (.int .i64 0)) = wy := hwy.symm
    rw [hch]
    have HV := Lib.hid (HV.out.putsBlk [.int .i64 3, .slice sa (minS l h).length sc, .int .i64 st, .int .i64 0] 0 wx _ HT.out.c (by simp) (by simp))
    have HT := Lib.hid (HT.out.putsC (.int .i64 3) (.slice sa (minS l h).length sc) (.int .i64 st) (.int .i64 0))
    rw [← hwy] at HV HT
    clear hch hwy cc fc zc
    obtain ⟨cc, fc, zc⟩ := HT.out.c
    refine bodyPost_ret (v := .tuple #[.agg #[.int .i64 3, .slice sa (minS l h).length sc, .int .i64 st, .int .i64 0], .int .i64 0]) (by simp [results, Tryz.results28, go_sem, cc]) rfl ⟨⟨sa, sc, st, minS l h, ps, ?_, HL.out, HV.out, ?_⟩, HT.out.low⟩
    · show _ = Ending.returned (.tuple #[.agg #[.int .i64 (kindV (univB 4) (satQ (membersP ps) ⟨4, ⟨x1, x2⟩, ⟨x3, x4⟩, .slice wo us.length wc⟩ us)), .slice sa (minS l h).length sc, .int .i64 st, .int .i64 0], .int .i64 0])
      rw [← HOK.out]
      rfl
    · show _ = if univB 4 = satQ (membersP ps) ⟨4, ⟨x1, x2⟩, ⟨x3, x4⟩, .slice wo us.length wc⟩ us then [] else _
      rw [← HOK.out]
      rfl
end Go.Proofs.YtcmdhfccdkjenaaGreatDoor
