/- crupperref03.Sort: the rows in order that it makes. -/
import Derived.Test.YtomhekohcadijaaGreatDoorPartRF9
import Derived.Test.YtomhekohcadijaaGreatDoorPartRF1
import Derived.Deep.RegionLawGrows
import Derived.Deep.AppendLies
import Derived.Deep.RegionHeld3
import Derived.Deep.DeepCutAuto
namespace Go.Proofs.YtomhekohcadijaaGreatDoor
open Go.RowKit Go.Shelf

def posS : List St → St → Nat
  | [], _ => 0
  | a :: r, x => if cmpSt a x < 0 then posS r x + 1 else 0
def insAt (l : List St) (x : St) (k : Nat) : List St := l.take k ++ x :: l.drop k
def insS (l : List St) (x : St) : List St := if hasS l x then l else insAt l x (posS l x)
def insAll : List St → List St → List St
  | acc, [] => acc
  | acc, x :: l => insAll (insS acc x) l
theorem pos_le : ∀ (l : List St) (x : St), posS l x ≤ l.length
  | [], _ => Nat.le_refl _
  | a :: r, x => by unfold posS; have := pos_le r x; split <;> simp <;> omega
theorem hasS_mem (l : List St) (x : St) : hasS l x = true ↔ x ∈ l := by
  unfold hasS; rw [List.any_eq_true]
  constructor
  · rintro ⟨y, hy, e⟩; rw [← of_decide_eq_true e]; exact hy
  · intro h; exact ⟨x, h, eqSt_self x⟩
theorem insS_mem (l : List St) (x z : St) : z ∈ insS l x ↔ z ∈ l ∨ z = x := by
  unfold insS
  by_cases h : hasS l x = true
  · rw [if_pos h]
    exact ⟨.inl, fun h' => h'.elim id (fun e => e ▸ (hasS_mem l x).1 h)⟩
  · rw [if_neg h]
    unfold insAt
    rw [List.mem_append, List.mem_cons]
    have := List.take_append_drop (posS l x) l
    constructor
    · rintro (h | h | h)
      · exact .inl (List.mem_of_mem_take h)
      · exact .inr h
      · exact .inl (List.mem_of_mem_drop h)
    · rintro (h | h)
      · rw [← this] at h
        rcases List.mem_append.1 h with h | h
        · exact .inl h
        · exact .inr (.inr h)
      · exact .inr (.inl h)
theorem pos_take : ∀ (l : List St) (x z : St), z ∈ l.take (posS l x) → cmpSt z x < 0
  | [], _, _, h => by simp at h
  | a :: r, x, z, h => by
    unfold posS at h
    by_cases ha : cmpSt a x < 0
    · rw [if_pos ha] at h
      rcases List.mem_cons.1 (by simpa using h) with rfl | h
      · exact ha
      · exact pos_take r x z h
    · rw [if_neg ha] at h; simp at h
theorem pos_drop : ∀ (l : List St) (x z : St), Asc l → z ∈ l.drop (posS l x) → ¬ cmpSt z x < 0
  | [], _, _, _, h => by simp at h
  | a :: r, x, z, hl, h => by
    unfold posS at h
    by_cases ha : cmpSt a x < 0
    · rw [if_pos ha] at h
      exact pos_drop r x z (List.pairwise_cons.1 hl).2 (by simpa using h)
    · rw [if_neg ha] at h
      rcases List.mem_cons.1 (by simpa using h) with rfl | h
      · exact ha
      · have := (List.pairwise_cons.1 hl).1 z h
        intro hz; exact ha (lt_trans' this hz)
theorem insS_asc {l : List St} (h : Asc l) (x : St) : Asc (insS l x) := by
  unfold insS
  by_cases hx : hasS l x = true
  · rw [if_pos hx]; exact h
  · rw [if_neg hx]
    have hn : ¬ x ∈ l := fun h' => hx ((hasS_mem l x).2 h')
    have h1 : Asc (l.take (posS l x)) := h.sublist (List.take_sublist _ _)
    have h2 : Asc (l.drop (posS l x)) := h.sublist (List.drop_sublist _ _)
    have h3 : ∀ a ∈ l.take (posS l x), ∀ b ∈ l.drop (posS l x), cmpSt a b < 0 := by
      have := h
      rw [Asc, ← List.take_append_drop (posS l x) l, List.pairwise_append] at this
      exact this.2.2
    unfold insAt Asc
    rw [List.pairwise_append, List.pairwise_cons]
    refine ⟨h1, ⟨fun b hb => ?_, h2⟩, fun a ha b hb => ?_⟩
    · have h4 := pos_drop l x b h hb
      have h5 : ¬ cmpSt b x = 0 := fun e => hn ((cmpSt_zero b x).1 e ▸ List.mem_of_mem_drop hb)
      have := wcmp_st.neg b x
      omega
    · rcases List.mem_cons.1 hb with rfl | hb
      · exact pos_take l b a ha
      · exact h3 a ha b hb
theorem insAll_asc : ∀ (l acc : List St), Asc acc → Asc (insAll acc l)
  | [], _, h => h
  | x :: l, _, h => insAll_asc l _ (insS_asc h x)
theorem insAll_mem : ∀ (l acc : List St) (z : St), z ∈ insAll acc l ↔ z ∈ acc ∨ z ∈ l
  | [], acc, z => by simp [insAll]
  | x :: l, acc, z => by
    unfold insAll
    rw [insAll_mem l, insS_mem, List.mem_cons, or_assoc]
theorem insS_len (l : List St) (x : St) : (insS l x).length ≤ l.length + 1 := by
  unfold insS insAt; split
  · omega
  · simp [List.length_take, List.length_drop]; have := pos_le l x; omega
def Halt_ (p : Prop) : Prop := p
theorem halt_ {p : Prop} (h : Halt_ p) : p := h
theorem st_info : (Tryz.prog.info? 80).map (fun i => (i.zero, i.size, i.bytes)) = some (some (.agg #[.int .i64 0, .string ByteArray.empty, .string ByteArray.empty, .string ByteArray.empty, .string ByteArray.empty, .string ByteArray.empty, .string ByteArray.empty, .string ByteArray.empty, .string ByteArray.empty]), 9, 136) := by kernel_rfl
theorem st_one (s : St) : ∀ u ∈ s.cells, u.oneCell' = true := by
  intro u hu; simp [St.cells] at hu; rcases hu with rfl | rfl | rfl | rfl | rfl | rfl | rfl | rfl | rfl <;> rfl
theorem sts_one (l : List St) : ∀ u ∈ l.flatMap St.cells, u.oneCell' = true := by
  intro u hu
  obtain ⟨s, _, hs⟩ := List.mem_flatMap.1 hu
  exact st_one s u hs
theorem addr_add (b o i : Nat) : (⟨b, o, none⟩ : Addr).add i = ⟨b, o + i, none⟩ := by unfold Addr.add; split <;> simp_all
theorem own_gt_ne {w : World} {base size n g : Nat} {e : TypeId} {v : Value} {xs : List Value} (h : w.ownsRow base e size v n xs) (hg : g < base) : some g ≠ v.ownBlock := by
  intro he; have := (h.lt g he.symm).1; omega
theorem below_own {B : Nat} {a w w' : World} {base size n : Nat} {e : TypeId} {v : Value} {xs : List Value} (h : Below B a w) (ho : w.ownsRow base e size v n xs) (hg : w.grownBy w' v.ownBlock) (hB : B ≤ w.heap.size) (hb : B ≤ base) : Below B a w' :=
  h.grown hg hB (fun k hk => Nat.le_trans hb (ho.lt k hk).1)
section
variable {P : Program}
theorem run_append_zero (w : World) (t ty e : TypeId) (i : TypeInfo) (ht : P.underlying t = some (.slice e)) (hi : P.info? e = some i) (ao : Option Addr) (n cap : Nat) (hnc : n ≤ cap) (ax : Option Addr) (cx : Nat) :
    (Builtin.append_ #[t, t] ty #[.slice ao n cap, .slice ax 0 cx]).run P w = .ok (.slice ao n cap) w := by
  cases ao <;> cases ax <;> simp [Builtin.append_, run_underlying ht, sizeOf, typeInfo, hi, Builtin.lenOf, Builtin.firstCells, hnc, storeCells, loadCells, loadCellsFrom]
theorem app_zero (w : World) {ops : Array Oper} {rest : List Oper} {o : Oper} {a : Act} {Q : Exit → Act → World → Prop} (hgd : o.guard = none) (s x : Operand) (t : TypeId)
    (ho : o.op = .call { callee := .builtin .append, args := #[s, x], argTypes := #[t, t] }) (e : TypeId) (i : TypeInfo) (ht : P.underlying t = some (.slice e)) (hi : P.info? e = some i)
    (ao : Option Addr) (n cap : Nat) (hnc : n ≤ cap) (hs : a.eval s = .slice ao n cap) (ax : Option Addr) (cx : Nat) (hx : a.eval x = .slice ax 0 cx) (h : wpList P ops Q rest (a.put o.dst (.slice ao n cap)) w) : wpList P ops Q (o :: rest) a w := by
  refine wpList_plain hgd fun K hK => ?_
  have hrun := run_append_zero (P := P) w t o.type e i ht hi ao n cap hnc ax cx
  unfold Oper.wp
  simp [execOp, ho, resolve, invoke, builtin, hs, hx, hrun, Result.andThen]
  exact hK _ _ h
theorem step_zero (w : World) {ops : Array Oper} {o : Oper} {a : Act} {K : Act → World → Prop} {Q : Exit → Act → World → Prop} {E : Prop} (hgd : o.guard = none) (s x : Operand) (t : TypeId)
    (ho : o.op = .call { callee := .builtin .append, args := #[s, x], argTypes := #[t, t] }) (e : TypeId) (i : TypeInfo) (ht : P.underlying t = some (.slice e)) (hi : P.info? e = some i)
    (ao : Option Addr) (n cap : Nat) (hnc : n ≤ cap) (hs : a.eval s = .slice ao n cap) (ax : Option Addr) (cx : Nat) (hx : a.eval x = .slice ax 0 cx) (h : K (a.put o.dst (.slice ao n cap)) w) :
    if Region.wanted o (yielded ops a.tmps) = true then Oper.wp P o a w K Q else E := by
  have hw : Region.wanted o (yielded ops a.tmps) = true := by simp [Region.wanted, hgd]
  rw [if_pos hw]
  have hrun := run_append_zero (P := P) w t o.type e i ht hi ao n cap hnc ax cx
  unfold Oper.wp
  simp [execOp, ho, resolve, invoke, builtin, hs, hx, hrun, Result.andThen]
  exact h
end
theorem own_form2 {w : World} {base size n : Nat} {e : TypeId} {v : Value} {xs : List Value} (h : w.ownsRow base e size v n xs) : ∃ a cap, v = .slice a n cap ∧ n ≤ cap := by
  rcases h.2 with ⟨rfl, rfl⟩ | ⟨g, cap, cur, rfl, _, _, hnc, _⟩
  · exact ⟨_, _, rfl, Nat.le_refl _⟩
  · exact ⟨_, _, rfl, hnc⟩
abbrev Nine (w : World) (b o : Nat) (s : St) : Prop :=
  w.cell? ⟨b, o, none⟩ = some (.int .i64 s.k) ∧ w.cell? ⟨b, o + 1, none⟩ = some (.string s.h.o) ∧ w.cell? ⟨b, o + 2, none⟩ = some (.string s.h.n) ∧ w.cell? ⟨b, o + 3, none⟩ = some (.string s.who) ∧ w.cell? ⟨b, o + 4, none⟩ = some (.string s.a.o) ∧ w.cell? ⟨b, o + 5, none⟩ = some (.string s.a.n) ∧ w.cell? ⟨b, o + 6, none⟩ = some (.string s.b.o) ∧ w.cell? ⟨b, o + 7, none⟩ = some (.string s.b.n) ∧ w.cell? ⟨b, o + 8, none⟩ = some (.string s.via)
theorem Nine.below {w w' : World} {b o : Nat} {s : St} (h : Nine w b o s) (hb : b < w.heap.size) (hw : Below w.heap.size w w') : Nine w' b o s := by
  have k : ∀ i, w'.cell? ⟨b, i, none⟩ = w.cell? ⟨b, i, none⟩ := fun i => hw.cell (p := ⟨b, i, none⟩) hb
  obtain ⟨h0, h1, h2, h3, h4, h5, h6, h7, h8⟩ := h
  exact ⟨(k _).trans h0, (k _).trans h1, (k _).trans h2, (k _).trans h3, (k _).trans h4, (k _).trans h5, (k _).trans h6, (k _).trans h7, (k _).trans h8⟩
end Go.Proofs.YtomhekohcadijaaGreatDoor
