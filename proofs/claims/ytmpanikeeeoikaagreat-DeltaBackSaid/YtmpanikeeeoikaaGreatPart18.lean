/- Two rows of the call's own, side by side, while one of them grows. -/
import Derived.Test.YtmpanikeeeoikaaGreatPart8
namespace Go.Proofs.YtmpanikeeeoikaaGreat
open Go.RowKit Go.Shelf

/-- append of a row onto a row of the call's own, within a region that draws its order; the row's block is the one that it was, or new. -/
theorem step_rowE {P : Program} {w : World} {ops : Array Oper} {o : Oper} {a : Act} {K : Act → World → Prop} {Q : Exit → Act → World → Prop} {E : Prop} (hgd : o.guard = none) (s x : Operand) (t : TypeId)
    (ho : o.op = .call { callee := .builtin .append, args := #[s, x], argTypes := #[t, t] })
    (base : Nat) (e : TypeId) (i : TypeInfo) (z : Value) (size bytes : Nat) (ht : P.underlying t = some (.slice e)) (hi : P.info? e = some i) (hz : i.zero = some z)
    (hsize : i.size = size) (hby : i.bytes = bytes) (hb1000 : bytes ≤ 1000) (hzs : z.cells.size = size) (hsz : 0 < size)
    (v : Value) (n : Nat) (xs : List Value) (hs : a.eval s = v) (hown : w.ownsRow base e size v n xs)
    (va : Value) (m : Nat) (ys : List Value) (hx : a.eval x = va) (ha : SlA w size va m ys) (h1 : ∀ u ∈ ys, u.oneCell' = true)
    (hnm : n + m ≤ 100000000000) (hbase : base ≤ w.heap.size)
    (h : ∀ a' cap' w', w'.ownsRow base e size (.slice a' (n + m) cap') (n + m) (xs ++ ys) → w.grownBy w' v.ownBlock → (∀ k, k < w.heap.size → some k ≠ v.ownBlock → some k ≠ (Value.slice a' (n + m) cap').ownBlock) → K (a.put o.dst (.slice a' (n + m) cap')) w') :
    if Region.wanted o (yielded ops a.tmps) = true then Oper.wp P o a w K Q else E := by
  by_cases h0 : 0 < m
  · obtain ⟨b, off, c, rfl, hc, hm, hb, hcell⟩ := ha.pos h0
    have hl : ys.length = m * size := by
      rcases ha with ha | ⟨_, rfl, rfl⟩
      · exact ha.len
      · simp
    have hbb : (n + m) * bytes ≤ 140737488355328 := Nat.le_trans (Nat.mul_le_mul (Nat.le_refl _) hb1000) (by omega)
    refine step_append_lies w hgd s x t ho base e i z size bytes ht hi hz hsize hby hzs hsz v n xs hs hown ⟨b, off, none⟩ m c ys hx hl (fun j u hu => by rw [addr_add]; exact hcell j u hu) h1 h0 (by simp only [maxLen]; omega) hbb hbase _ rfl
      (fun g cap w' h1 h2 h3 _ => h _ cap w' h1 h2 (fun k hk hne he => ?_))
    injection he with he
    dsimp only at he
    subst he
    rcases h3 with h3 | h3
    · exact hne h3.symm
    · omega
  · obtain rfl : m = 0 := by omega
    have hy : ys = [] := by
      rcases ha with ha | ⟨_, _, rfl⟩
      · have := ha.len; exact List.eq_nil_of_length_eq_zero (by omega)
      · rfl
    subst hy
    obtain ⟨ax, cx, rfl⟩ := ha.form
    obtain ⟨ao, cap, rfl, hnc⟩ := own_form2 hown
    refine step_zero w hgd s x t ho e i ht hi ao n cap hnc hs ax cx hx ?_
    refine h ao cap w (by rw [List.append_nil]; exact hown) ⟨rfl, rfl, rfl, Nat.le_refl _, fun _ _ _ => rfl⟩ (fun k _ hne he => hne (by rw [he]; cases ao <;> rfl))
/-- Two rows of the call's own in blocks of their own. -/
structure RowsTwo (w0 : World) (e : TypeId) (size : Nat) (v1 : Value) (n1 : Nat) (x1 : List Value) (v2 : Value) (n2 : Nat) (x2 : List Value) (w : World) : Prop where
  low : Below w0.heap.size w0 w
  o1 : w.ownsRow w0.heap.size e size v1 n1 x1
  o2 : w.ownsRow w0.heap.size e size v2 n2 x2
  ne : ∀ k, some k = v1.ownBlock → some k ≠ v2.ownBlock
theorem own_grown {w w' : World} {base size n : Nat} {e : TypeId} {v : Value} {xs : List Value} {r : Option Nat} (h : w.ownsRow base e size v n xs) (hg : w.grownBy w' r) (hne : ∀ k, some k = v.ownBlock → some k ≠ r) : w'.ownsRow base e size v n xs := by
  obtain ⟨h1, h2⟩ := h
  refine ⟨h1, ?_⟩
  rcases h2 with h2 | ⟨g, cap, cur, rfl, hb, hh, h3⟩
  · exact .inl h2
  · exact .inr ⟨g, cap, cur, rfl, hb, (hg.block g (Array.getElem?_eq_some_iff.1 hh).1 (hne g rfl)).trans hh, h3⟩
theorem RowsTwo.grow1 {w0 w w' : World} {e : TypeId} {size n1 n2 m : Nat} {v1 v2 v1' : Value} {x1 x2 y : List Value} (h : RowsTwo w0 e size v1 n1 x1 v2 n2 x2 w) (hown : w'.ownsRow w0.heap.size e size v1' m y) (hg : w.grownBy w' v1.ownBlock)
    (hn : ∀ k, k < w.heap.size → some k ≠ v1.ownBlock → some k ≠ v1'.ownBlock) : RowsTwo w0 e size v1' m y v2 n2 x2 w' :=
  ⟨below_own h.low h.o1 hg h.low.size (Nat.le_refl _), hown, own_grown h.o2 hg (fun k hk he => h.ne k he hk), fun k hk he => hn k (h.o2.lt k he.symm).2 (fun h' => h.ne k h' he) hk⟩
theorem RowsTwo.swap {w0 w : World} {e : TypeId} {size n1 n2 : Nat} {v1 v2 : Value} {x1 x2 : List Value} (h : RowsTwo w0 e size v1 n1 x1 v2 n2 x2 w) : RowsTwo w0 e size v2 n2 x2 v1 n1 x1 w :=
  ⟨h.low, h.o2, h.o1, fun k hk he => h.ne k he hk⟩
theorem RowsTwo.grow2 {w0 w w' : World} {e : TypeId} {size n1 n2 m : Nat} {v1 v2 v2' : Value} {x1 x2 y : List Value} (h : RowsTwo w0 e size v1 n1 x1 v2 n2 x2 w) (hown : w'.ownsRow w0.heap.size e size v2' m y) (hg : w.grownBy w' v2.ownBlock)
    (hn : ∀ k, k < w.heap.size → some k ≠ v2.ownBlock → some k ≠ v2'.ownBlock) : RowsTwo w0 e size v1 n1 x1 v2' m y w' := (h.swap.grow1 hown hg hn).swap
/-- A second row begins. -/
theorem RowsTwo.new {w0 w : World} {e : TypeId} {size n1 : Nat} {v1 : Value} {x1 : List Value} (hb : Below w0.heap.size w0 w) (h : w.ownsRow w0.heap.size e size v1 n1 x1) :
    RowsTwo w0 e size v1 n1 x1 (.slice (some ⟨w.heap.size, 0, none⟩) 0 0) 0 [] (w.alloc (.cells #[] e)) :=
  ⟨hb.alloc hb.size _, h.alloc _, World.ownsRow_made w #[] 0 hb.size (Nat.zero_le _) (by simp), fun k hk he => by
    have := (h.lt k hk.symm).2
    injection he with he
    dsimp only at he
    omega⟩
end Go.Proofs.YtmpanikeeeoikaaGreat
