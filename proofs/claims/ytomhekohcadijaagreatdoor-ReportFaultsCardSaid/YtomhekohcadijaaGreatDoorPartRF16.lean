/- Whether a policy is light: crupperlaw05.Light. Rows of texts: crupperref01.Has and Put, as far as that some bool, and some row, comes back. crupperref05.Roles: some row of roles comes back (printed by gen_roles.py). crupperref05.Prins, Names, Fits: some row of texts, some bool comes back (printed by gen_prins.py). crupperref05.Fits, crupperref04.Right, crupperref03.SameRoles: some bool comes back. crupperref04.Right: some bool comes back. crupperref05.SortRoles: the rows of roles in order that it makes (printed by gen_rlsort.py out of RefSort). crupperref03.SameRoles: whether two rows of roles are one. crupperref10.Of. The statement StateRows: the walk of the law. A region that draws its order, walked by hand: an operation that is taken first, and one whose guard says no. crupperref05.Right: some bool comes back; if it is true, all statements may be. Plain laws of rows of texts in order, each once (printed by gen_strlaw.py out of RlHas, RlSort, RlLaw). Plain laws of tables: the place of a text, a role's number, a statement's rule. -/
import Derived.Test.YtomhekohcadijaaGreatDoorPartRF15
import Derived.Deep.RegionLawGrows
import Derived.Test.YtomhekohcadijaaGreatDoorPartRF14
import Derived.Test.YtomhekohcadijaaGreatDoorPartRF1
import Derived.Deep.RegionHeld3
import Derived.Test.YtomhekohcadijaaGreatDoorPartRF8
import Derived.Test.YtomhekohcadijaaGreatDoorPartRF9
namespace Go.Proofs.YtomhekohcadijaaGreatDoor
open Go.RowKit Go.Shelf

structure PolAt (w : World) (v0 v1 v2 v3 : Value) (l : List St) (g h : List Rl) (qs : List Qv) : Prop where
  rs : SlA w 9 v0 l.length (l.flatMap St.cells)
  rg : SlA w 2 v1 g.length (g.flatMap Rl.cells)
  rh : SlA w 2 v2 h.length (h.flatMap Rl.cells)
  rq : SlA w 6 v3 qs.length (qs.flatMap Qv.cells)
  ls : allLe l 9223372036854775807
  lg : ∀ x ∈ g, x.le 9223372036854775807
  lh : ∀ x ∈ h, x.le 9223372036854775807
  lq : ∀ x ∈ qs, x.ok w
theorem PolAt.below {w w' : World} {v0 v1 v2 v3 : Value} {l : List St} {g h : List Rl} {qs : List Qv} (p : PolAt w v0 v1 v2 v3 l g h qs) (hb : Below w.heap.size w w') : PolAt w' v0 v1 v2 v3 l g h qs :=
  ⟨p.rs.below hb, p.rg.below hb, p.rh.below hb, p.rq.below hb, p.ls, p.lg, p.lh, fun x hx => (p.lq x hx).below hb⟩
theorem rls_one (l : List Rl) : ∀ u ∈ l.flatMap Rl.cells, u.oneCell' = true := by
  intro u hu
  obtain ⟨x, _, hx⟩ := List.mem_flatMap.1 hu
  simp only [Rl.cells, List.mem_cons, List.not_mem_nil, or_false] at hx
  rcases hx with rfl | rfl <;> rfl
theorem rl_flat (l m : List Rl) : (l ++ m).flatMap Rl.cells = l.flatMap Rl.cells ++ m.flatMap Rl.cells := by simp

theorem rl_info' : (Tryz.prog.info? 78).map (fun i => (i.zero, i.size, i.bytes)) = some (some (.agg #[.string ByteArray.empty, .string ByteArray.empty]), 2, 32) := by kernel_rfl
theorem step_row {P : Program} {w : World} {ops : Array Oper} {o : Oper} {a : Act} {K : Act → World → Prop} {Q : Exit → Act → World → Prop} {E : Prop} (hgd : o.guard = none) (s x : Operand) (t : TypeId)
    (ho : o.op = .call { callee := .builtin .append, args := #[s, x], argTypes := #[t, t] })
    (base : Nat) (e : TypeId) (i : TypeInfo) (z : Value) (size bytes : Nat) (ht : P.underlying t = some (.slice e)) (hi : P.info? e = some i) (hz : i.zero = some z)
    (hsize : i.size = size) (hby : i.bytes = bytes) (hb1000 : bytes ≤ 1000) (hzs : z.cells.size = size) (hsz : 0 < size)
    (v : Value) (n : Nat) (xs : List Value) (hs : a.eval s = v) (hown : w.ownsRow base e size v n xs)
    (va : Value) (m : Nat) (ys : List Value) (hx : a.eval x = va) (ha : SlA w size va m ys) (h1 : ∀ u ∈ ys, u.oneCell' = true)
    (hnm : n + m ≤ 100000000000) (hbase : base ≤ w.heap.size)
    (h : ∀ a' cap' w', w'.ownsRow base e size (.slice a' (n + m) cap') (n + m) (xs ++ ys) → w.grownBy w' v.ownBlock → K (a.put o.dst (.slice a' (n + m) cap')) w') :
    if Region.wanted o (yielded ops a.tmps) = true then Oper.wp P o a w K Q else E := by
  by_cases h0 : 0 < m
  · obtain ⟨b, off, c, rfl, hc, hm, hb, hcell⟩ := ha.pos h0
    have hl : ys.length = m * size := by
      rcases ha with ha | ⟨_, rfl, rfl⟩
      · exact ha.len
      · simp
    have hbb : (n + m) * bytes ≤ 140737488355328 := Nat.le_trans (Nat.mul_le_mul (Nat.le_refl _) hb1000) (by omega)
    exact step_append_lies w hgd s x t ho base e i z size bytes ht hi hz hsize hby hzs hsz v n xs hs hown ⟨b, off, none⟩ m c ys hx hl (fun j u hu => by rw [addr_add]; exact hcell j u hu) h1 h0 (by simp only [maxLen]; omega) hbb hbase _ rfl
      (fun g cap w' h1 h2 _ _ => h _ cap w' h1 h2)
  · obtain rfl : m = 0 := by omega
    have hy : ys = [] := by
      rcases ha with ha | ⟨_, _, rfl⟩
      · have := ha.len; exact List.eq_nil_of_length_eq_zero (by omega)
      · rfl
    subst hy
    obtain ⟨ax, cx, rfl⟩ := ha.form
    obtain ⟨ao, cap, rfl, hnc⟩ := own_form2 hown
    refine step_zero w hgd s x t ho e i ht hi ao n cap hnc hs ax cx hx ?_
    exact h ao cap w (by rw [List.append_nil]; exact hown) ⟨rfl, rfl, rfl, Nat.le_refl _, fun _ _ _ => rfl⟩

end Go.Proofs.YtomhekohcadijaaGreatDoor
namespace Go.Proofs.YtomhekohcadijaaGreatDoor
open Go.RowKit Go.Shelf

theorem strs_app (l m : List ByteArray) : strs (l ++ m) = strs l ++ strs m := by simp [strs]
theorem strs_one (l : List ByteArray) : ∀ u ∈ strs l, u.oneCell' = true := by
  intro u hu
  obtain ⟨s, _, rfl⟩ := List.mem_map.1 hu
  rfl
theorem str1 (s : ByteArray) : ∀ u ∈ [Value.string s], u.oneCell' = true := fun u hu => by rw [List.mem_singleton.1 hu]; rfl
theorem own_push {wA wr w3 : World} {vo : Value} {ss : List ByteArray} {x : ByteArray} {o : Obj} {a' : Option Addr} {cap' : Nat} (hb : Below wA.heap.size wA wr) (hown : wr.ownsRow wA.heap.size 9 1 vo ss.length (strs ss))
    (h : w3.ownsRow wA.heap.size 9 1 (.slice a' (ss.length + 1) cap') (ss.length + 1) (strs ss ++ [.string x])) (hg : (wr.alloc o).grownBy w3 vo.ownBlock) :
    w3.ownsRow wA.heap.size 9 1 (.slice a' (ss.length + 1) cap') (ss ++ [x]).length (strs (ss ++ [x])) ∧ Below wA.heap.size wA w3 := by
  refine ⟨by rw [List.length_append, strs_app]; exact h, ?_⟩
  exact below_own (hb.alloc hb.size o) (hown.alloc _) hg (by have := hb.size; simp; omega) (Nat.le_refl _)
theorem str_info : (Tryz.prog.info? 9).map (fun i => (i.zero, i.size, i.bytes)) = some (some (.string ByteArray.empty), 1, 16) := by kernel_rfl
end Go.Proofs.YtomhekohcadijaaGreatDoor
namespace Go.Proofs.YtomhekohcadijaaGreatDoor
open Go.RowKit Go.Shelf

def rolesQ (q : Qv) : List Rl := if q.k = 5 ∨ q.k = 6 then [q.a, q.b] else [q.a]
theorem flat_snocF {α β : Type} {l : List α} {k : Nat} (f : α → List β) (hk : k < l.length) : (l.take (k + 1)).flatMap f = (l.take k).flatMap f ++ f l[k] := by
  rw [List.take_succ_eq_append_getElem hk, List.flatMap_append]; simp
theorem take_snoc {α : Type} {l : List α} {k : Nat} (hk : k < l.length) : l.take (k + 1) = l.take k ++ [l[k]] := List.take_succ_eq_append_getElem hk
def allRoles (l : List St) (g h : List Rl) (qs : List Qv) : List Rl := l.flatMap rolesS ++ g ++ h ++ qs.flatMap rolesQ
end Go.Proofs.YtomhekohcadijaaGreatDoor
namespace Go.Proofs.YtomhekohcadijaaGreatDoor
open Go.RowKit Go.Shelf

end Go.Proofs.YtomhekohcadijaaGreatDoor
namespace Go.Proofs.YtomhekohcadijaaGreatDoor
open Go.RowKit Go.Shelf

end Go.Proofs.YtomhekohcadijaaGreatDoor
namespace Go.Proofs.YtomhekohcadijaaGreatDoor
open Go.RowKit Go.Shelf

end Go.Proofs.YtomhekohcadijaaGreatDoor
namespace Go.Proofs.YtomhekohcadijaaGreatDoor
open Go.RowKit Go.Shelf
def posSR : List Rl → Rl → Nat
  | [], _ => 0
  | a :: r, x => if cmpR a x < 0 then posSR r x + 1 else 0
def insAtR (l : List Rl) (x : Rl) (k : Nat) : List Rl := l.take k ++ x :: l.drop k
def insSR (l : List Rl) (x : Rl) : List Rl := if hasR l x then l else insAtR l x (posSR l x)
def insAllR : List Rl → List Rl → List Rl
  | acc, [] => acc
  | acc, x :: l => insAllR (insSR acc x) l
abbrev Two (w : World) (b o : Nat) (s : Rl) : Prop := w.cell? ⟨b, o, none⟩ = some (.string s.o) ∧ w.cell? ⟨b, o + 1, none⟩ = some (.string s.n)
end Go.Proofs.YtomhekohcadijaaGreatDoor
namespace Go.Proofs.YtomhekohcadijaaGreatDoor
open Go.RowKit Go.Shelf

end Go.Proofs.YtomhekohcadijaaGreatDoor
namespace Go.Proofs.YtomhekohcadijaaGreatDoor
open Go.RowKit Go.Shelf

end Go.Proofs.YtomhekohcadijaaGreatDoor
namespace Go.Proofs.YtomhekohcadijaaGreatDoor
open Go.RowKit Go.Shelf

theorem ref3_SameB (va vb : Value) (l m : List St) (w : World) (ha : SlA w 9 va l.length (l.flatMap St.cells)) (hb : SlA w 9 vb m.length (m.flatMap St.cells)) :
    Calls Tryz.prog 15 #[va, vb] w fun e w' => e = .returned (.bool (decide (l = m))) ∧ Below w.heap.size w w' :=
  (ref3_Same va vb l m w ha hb).mono fun e w' ⟨he, n, hn⟩ => ⟨he, by rw [hn]; exact below_of_drewN n⟩
theorem state_SameB (va vb : Value) (l m : List St) (w : World) (ha : SlA w 9 va l.length (l.flatMap St.cells)) (hb : SlA w 9 vb m.length (m.flatMap St.cells)) :
    Calls Tryz.prog 89 #[va, vb] w fun e w' => e = .returned (.bool (decide (l = m))) ∧ Below w.heap.size w w' :=
  (state_Same va vb l m w ha hb).mono fun e w' ⟨he, n, hn⟩ => ⟨he, by rw [hn]; exact below_of_drewN n⟩

end Go.Proofs.YtomhekohcadijaaGreatDoor
namespace Go.Proofs.YtomhekohcadijaaGreatDoor
open Go.RowKit Go.Shelf

def nthOp : List Oper → Nat → Option Oper
  | [], _ => none
  | o :: _, 0 => some o
  | _ :: r, n + 1 => nthOp r n
theorem nthOp_get : ∀ (l : List Oper) (i : Nat), l.toArray[i]? = nthOp l i
  | [], i => by simp [nthOp]
  | o :: r, 0 => by simp [nthOp]
  | o :: r, n + 1 => by have := nthOp_get r n; simpa [nthOp] using this

theorem held_yes {P : Program} {md : Region.Mode} {S : World → Prop} {Q : Exit → Act → World → Prop} {fuel : Nat} {listed : Array Bool} {a : Act} {w : World} {v : Value} {oi : Oper} {l : List Oper} (i : Nat) (hi : nthOp l i = some oi)
    (hs : Region.noSelect l.toArray = true) (hf : Region.free md l.toArray listed i = true) (hr : (Region.ready md l.toArray listed).contains i = true)
    (hQ : ∀ c a w, Q (.panic c) (a.put oi.dst v) w → Q (.panic c) a w) (hw : Region.wanted oi (yielded l.toArray a.tmps) = true) (hS : S w) (hy : ∀ w, S w → (execOp a.eval oi).run P w = .ok (.value v) w)
    (h : wpAnyH P md l.toArray Q S fuel (listed.setIfInBounds i true) (a.put oi.dst v) w) : wpAnyH P md l.toArray Q S (fuel + 1) listed a w :=
  wpAnyH_take (by rw [nthOp_get]; exact hi) hs hf hr hQ (Or.inl ⟨hw, hy⟩) hS h

theorem held_no {P : Program} {md : Region.Mode} {S : World → Prop} {Q : Exit → Act → World → Prop} {fuel : Nat} {listed : Array Bool} {a : Act} {w : World} {oi : Oper} {l : List Oper} (i : Nat) (hi : nthOp l i = some oi)
    (hs : Region.noSelect l.toArray = true) (hf : Region.free md l.toArray listed i = true) (hr : (Region.ready md l.toArray listed).contains i = true)
    (hQ : ∀ c a w, Q (.panic c) (a.put oi.dst undef) w → Q (.panic c) a w) (hw : Region.wanted oi (yielded l.toArray a.tmps) = false) (hS : S w)
    (h : wpAnyH P md l.toArray Q S fuel (listed.setIfInBounds i true) (a.put oi.dst undef) w) : wpAnyH P md l.toArray Q S (fuel + 1) listed a w :=
  wpAnyH_take (by rw [nthOp_get]; exact hi) hs hf hr hQ (Or.inr ⟨hw, rfl⟩) hS h

theorem held_call {P : Program} {md : Region.Mode} {S : World → Prop} {Q : Exit → Act → World → Prop} {fuel : Nat} {listed : Array Bool} {a : Act} {w : World} {oi : Oper} {l : List Oper} (i : Nat) (hi : nthOp l i = some oi)
    (hr : Region.ready md l.toArray listed = [i])
    (h : ∀ K' : Act → World → Prop, Shut (∀ a w, S w → (S w → wpAnyH P md l.toArray Q S fuel (listed.setIfInBounds i true) a w) → K' a w) → if Region.wanted oi (yielded l.toArray a.tmps) = true then Oper.wp P oi a w K' Q else K' (a.put oi.dst undef) w) :
    wpAnyH P md l.toArray Q S (fuel + 1) listed a w :=
  wpAnyH_ready hr (by simp) (AllReadyH.cons (by rw [nthOp_get]; exact hi) h AllReadyH.nil)
theorem hyes {P : Program} {md : Region.Mode} {S : World → Prop} {Q : Exit → Act → World → Prop} {fuel : Nat} {listed : Array Bool} {a a' : Act} {w : World} {v : Value} {oi : Oper} {l : List Oper} (i : Nat)
    (h : wpAnyH P md l.toArray Q S fuel (listed.setIfInBounds i true) a' w) (hi : nthOp l i = some oi := by rfl) (hy : ∀ w, S w → (execOp a.eval oi).run P w = .ok (.value v) w := by (intro w hSw; (try dsimp only at hSw); go_simp; (try with_reducible rfl)))
    (ha : a.put oi.dst v = a' := by (simp only [Act.put, List.setIfInBounds_toArray, List.set]; exact rfl)) (hs : Region.noSelect l.toArray = true := by kernel_rfl) (hf : Region.free md l.toArray listed i = true := by kernel_rfl) (hr : (Region.ready md l.toArray listed).contains i = true := by kernel_rfl)
    (hQ : ∀ c a w, Q (.panic c) (a.put oi.dst v) w → Q (.panic c) a w := by exact fun _ _ _ h => h) (hw : Region.wanted oi (yielded l.toArray a.tmps) = true := by rfl) (hS : S w := by assumption) : wpAnyH P md l.toArray Q S (fuel + 1) listed a w := by
  subst ha
  exact held_yes i hi hs hf hr hQ hw hS hy h
theorem hno {P : Program} {md : Region.Mode} {S : World → Prop} {Q : Exit → Act → World → Prop} {fuel : Nat} {listed : Array Bool} {a a' : Act} {w : World} {oi : Oper} {l : List Oper} (i : Nat)
    (h : wpAnyH P md l.toArray Q S fuel (listed.setIfInBounds i true) a' w) (hi : nthOp l i = some oi := by rfl)
    (ha : a.put oi.dst undef = a' := by (simp only [Act.put, List.setIfInBounds_toArray, List.set]; exact rfl)) (hs : Region.noSelect l.toArray = true := by kernel_rfl) (hf : Region.free md l.toArray listed i = true := by kernel_rfl) (hr : (Region.ready md l.toArray listed).contains i = true := by kernel_rfl)
    (hQ : ∀ c a w, Q (.panic c) (a.put oi.dst undef) w → Q (.panic c) a w := by exact fun _ _ _ h => h) (hw : Region.wanted oi (yielded l.toArray a.tmps) = false := by rfl) (hS : S w := by assumption) : wpAnyH P md l.toArray Q S (fuel + 1) listed a w := by
  subst ha
  exact held_no i hi hs hf hr hQ hw hS h
end Go.Proofs.YtomhekohcadijaaGreatDoor
namespace Go.Proofs.YtomhekohcadijaaGreatDoor
open Go.RowKit Go.Shelf

end Go.Proofs.YtomhekohcadijaaGreatDoor
namespace Go.Proofs.YtomhekohcadijaaGreatDoor
open Go.RowKit Go.Shelf

def hasB (l : List ByteArray) (s : ByteArray) : Bool := l.any (fun x => decide (x = s))
def posSB : List ByteArray → ByteArray → Nat
  | [], _ => 0
  | a :: r, x => if cmpS a x < 0 then posSB r x + 1 else 0
def insAtB (l : List ByteArray) (x : ByteArray) (k : Nat) : List ByteArray := l.take k ++ x :: l.drop k
def insSB (l : List ByteArray) (x : ByteArray) : List ByteArray := if hasB l x then l else insAtB l x (posSB l x)
def insAllB : List ByteArray → List ByteArray → List ByteArray
  | acc, [] => acc
  | acc, x :: l => insAllB (insSB acc x) l
theorem pos_leB : ∀ (l : List ByteArray) (x : ByteArray), posSB l x ≤ l.length
  | [], _ => Nat.le_refl _
  | a :: r, x => by unfold posSB; have := pos_leB r x; split <;> simp <;> omega
theorem insS_lenB (l : List ByteArray) (x : ByteArray) : (insSB l x).length ≤ l.length + 1 := by
  unfold insSB insAtB; split
  · omega
  · simp [List.length_take, List.length_drop]; have := pos_leB l x; omega
theorem eqB_self (x : ByteArray) : decide (x = x) = true := decide_eq_true rfl
theorem hasB_mem (l : List ByteArray) (x : ByteArray) : hasB l x = true ↔ x ∈ l := by
  unfold hasB; rw [List.any_eq_true]
  constructor
  · rintro ⟨y, hy, e⟩; rw [← of_decide_eq_true e]; exact hy
  · intro h; exact ⟨x, h, eqB_self x⟩
theorem lt_trans'B {x y z : ByteArray} (h : cmpS x y < 0) (h' : cmpS y z < 0) : cmpS x z < 0 := by
  obtain ⟨a, b⟩ := wcmp_str.le x y z (by omega) (by omega)
  have : ¬ cmpS x z = 0 := fun e => by have := (b e).1; omega
  omega
theorem lt_irrefl'B (x : ByteArray) : ¬ cmpS x x < 0 := by have := (cmpS_zero x x).2 rfl; omega
def AscB (l : List ByteArray) : Prop := l.Pairwise fun x y => cmpS x y < 0
theorem asc_uniqueB : ∀ (l m : List ByteArray), AscB l → AscB m → (∀ x, x ∈ l ↔ x ∈ m) → l = m
  | [], [], _, _, _ => rfl
  | [], y :: m, _, _, h => absurd ((h y).2 (by simp)) (by simp)
  | x :: l, [], _, _, h => absurd ((h x).1 (by simp)) (by simp)
  | x :: l, y :: m, hl, hm, h => by
    have hl' := List.pairwise_cons.1 hl
    have hm' := List.pairwise_cons.1 hm
    have e : x = y := by
      rcases List.mem_cons.1 ((h x).1 (by simp)) with e | e
      · exact e
      · rcases List.mem_cons.1 ((h y).2 (by simp)) with e' | e'
        · exact e'.symm
        · exact absurd (lt_trans'B (hm'.1 x e) (hl'.1 y e')) (lt_irrefl'B y)
    subst e
    refine congrArg (x :: ·) (asc_uniqueB l m hl'.2 hm'.2 fun z => ?_)
    constructor
    · intro hz
      rcases List.mem_cons.1 ((h z).1 (by simp [hz])) with e | e
      · subst e; exact absurd (hl'.1 z hz) (lt_irrefl'B z)
      · exact e
    · intro hz
      rcases List.mem_cons.1 ((h z).2 (by simp [hz])) with e | e
      · subst e; exact absurd (hm'.1 z hz) (lt_irrefl'B z)
      · exact e
theorem insS_memB (l : List ByteArray) (x z : ByteArray) : z ∈ insSB l x ↔ z ∈ l ∨ z = x := by
  unfold insSB
  by_cases h : hasB l x = true
  · rw [if_pos h]
    exact ⟨.inl, fun h' => h'.elim id (fun e => e ▸ (hasB_mem l x).1 h)⟩
  · rw [if_neg h]
    unfold insAtB
    rw [List.mem_append, List.mem_cons]
    have := List.take_append_drop (posSB l x) l
    constructor
    · rintro (h | h | h)
      · exact .inl (List.mem_of_mem_take h)
      · exact .inr h
      · exact .inl (List.mem_of_mem_drop h)
    · rintro (h | h)
      · rw [← this] at h
        rcases List.mem_append.1 h with h | h
        · exact .inl h
        · exact .inr (.inr h)
      · exact .inr (.inl h)
theorem pos_takeB : ∀ (l : List ByteArray) (x z : ByteArray), z ∈ l.take (posSB l x) → cmpS z x < 0
  | [], _, _, h => by simp at h
  | a :: r, x, z, h => by
    unfold posSB at h
    by_cases ha : cmpS a x < 0
    · rw [if_pos ha] at h
      rcases List.mem_cons.1 (by simpa using h) with rfl | h
      · exact ha
      · exact pos_takeB r x z h
    · rw [if_neg ha] at h; simp at h
theorem pos_dropB : ∀ (l : List ByteArray) (x z : ByteArray), AscB l → z ∈ l.drop (posSB l x) → ¬ cmpS z x < 0
  | [], _, _, _, h => by simp at h
  | a :: r, x, z, hl, h => by
    unfold posSB at h
    by_cases ha : cmpS a x < 0
    · rw [if_pos ha] at h
      exact pos_dropB r x z (List.pairwise_cons.1 hl).2 (by simpa using h)
    · rw [if_neg ha] at h
      rcases List.mem_cons.1 (by simpa using h) with rfl | h
      · exact ha
      · have := (List.pairwise_cons.1 hl).1 z h
        intro hz; exact ha (lt_trans'B this hz)
theorem insS_ascB {l : List ByteArray} (h : AscB l) (x : ByteArray) : AscB (insSB l x) := by
  unfold insSB
  by_cases hx : hasB l x = true
  · rw [if_pos hx]; exact h
  · rw [if_neg hx]
    have hn : ¬ x ∈ l := fun h' => hx ((hasB_mem l x).2 h')
    have h1 : AscB (l.take (posSB l x)) := h.sublist (List.take_sublist _ _)
    have h2 : AscB (l.drop (posSB l x)) := h.sublist (List.drop_sublist _ _)
    have h3 : ∀ a ∈ l.take (posSB l x), ∀ b ∈ l.drop (posSB l x), cmpS a b < 0 := by
      have := h
      rw [AscB, ← List.take_append_drop (posSB l x) l, List.pairwise_append] at this
      exact this.2.2
    unfold insAtB AscB
    rw [List.pairwise_append, List.pairwise_cons]
    refine ⟨h1, ⟨fun b hb => ?_, h2⟩, fun a ha b hb => ?_⟩
    · have h4 := pos_dropB l x b h hb
      have h5 : ¬ cmpS b x = 0 := fun e => hn ((cmpS_zero b x).1 e ▸ List.mem_of_mem_drop hb)
      have := wcmp_str.neg b x
      omega
    · rcases List.mem_cons.1 hb with rfl | hb
      · exact pos_takeB l b a ha
      · exact h3 a ha b hb
theorem insAll_ascB : ∀ (l acc : List ByteArray), AscB acc → AscB (insAllB acc l)
  | [], _, h => h
  | x :: l, _, h => insAll_ascB l _ (insS_ascB h x)
theorem insAll_memB : ∀ (l acc : List ByteArray) (z : ByteArray), z ∈ insAllB acc l ↔ z ∈ acc ∨ z ∈ l
  | [], acc, z => by simp [insAllB]
  | x :: l, acc, z => by
    unfold insAllB
    rw [insAll_memB l, insS_memB, List.mem_cons, or_assoc]
theorem insAll_lenB : ∀ (l acc : List ByteArray), (insAllB acc l).length ≤ acc.length + l.length
  | [], acc => Nat.le_refl _
  | x :: r, acc => by
    have h1 := insAll_lenB r (insSB acc x)
    have h2 := insS_lenB acc x
    show (insAllB (insSB acc x) r).length ≤ acc.length + (r.length + 1)
    omega
end Go.Proofs.YtomhekohcadijaaGreatDoor
namespace Go.Proofs.YtomhekohcadijaaGreatDoor
open Go.RowKit Go.Shelf

def newB (l : List ByteArray) : List ByteArray := insAllB [] l
theorem new_asc (l : List ByteArray) : AscB (newB l) := insAll_ascB l [] List.Pairwise.nil
theorem new_mem (l : List ByteArray) (x : ByteArray) : x ∈ newB l ↔ x ∈ l := by unfold newB; rw [insAll_memB]; simp
theorem new_len (l : List ByteArray) : (newB l).length ≤ l.length := by have := insAll_lenB l []; simpa [newB] using this
structure Ru where
  k : Int
  h : Int
  who : Int
  a : Int
  b : Int
  via : Int
deriving DecidableEq
end Go.Proofs.YtomhekohcadijaaGreatDoor
