/- Package state: its small functions, at rows of statements. -/
import Derived.Test.YtmpanikeeeoikaaSynSort
import Derived.Test.YtmpanikeeeoikaaStSlices
import Derived.Shelf.Spec.SlicesGrow
namespace Go.Proofs.Ytmpanikeeeoikaa
open Go.RowKit Go.Shelf

/-- A row in order, each once. -/
def ord (l : List St) : List St := insAll [] l
theorem ord_asc (l : List St) : Asc (ord l) := insAll_asc l [] List.Pairwise.nil
theorem ord_mem (l : List St) (x : St) : x ∈ ord l ↔ x ∈ l := by unfold ord; rw [insAll_mem]; simp
theorem ord_ext {l m : List St} (h : ∀ x, x ∈ l ↔ x ∈ m) : ord l = ord m := asc_unique _ _ (ord_asc _) (ord_asc _) (fun x => by rw [ord_mem, ord_mem]; exact h x)
theorem asc_ord {l : List St} (h : Asc l) : ord l = l := asc_unique _ _ (ord_asc _) h (ord_mem l)
theorem ord_filter (l : List St) (p : St → Bool) : ord (l.filter p) = (ord l).filter p :=
  asc_unique _ _ (ord_asc _) ((ord_asc l).filter _) (fun x => by simp [ord_mem])
theorem insAll_len : ∀ (l acc : List St), (insAll acc l).length ≤ acc.length + l.length
  | [], acc => Nat.le_refl _
  | x :: r, acc => by
    have h1 := insAll_len r (insS acc x)
    have h2 := insS_len acc x
    show (insAll (insS acc x) r).length ≤ acc.length + (r.length + 1)
    omega
theorem ord_len (l : List St) : (ord l).length ≤ l.length := by have := insAll_len l []; simpa [ord] using this

set_option maxHeartbeats 1000000 in
theorem state_Has (va : Value) (l : List St) (s : St) (w : World) (ha : SlA w 9 va l.length (l.flatMap St.cells)) :
    Calls Try.prog 24 #[va, sv s] w fun e w' => e = .returned (.bool (hasS l s)) ∧ Below w.heap.size w w' := by
  have I := Lib.hid (fun W h => st_Contains va l s W h)
  have HA := Lib.hid ha
  generalize hasS l s = res at I ⊢
  obtain ⟨ks, ⟨h1, h2⟩, who, ⟨a1, a2⟩, ⟨b1', b2'⟩, via⟩ := s
  clear ha
  go_enter Try.func24, Try.ntmps24
  go_wp2_with fail
  refine (I.out _ (HA.out.below ((Below.refl _ _).alloc (Nat.le_refl _) _))).mono ?_
  rintro e w1 ⟨rfl, hb⟩
  have HB := Lib.hid (((Below.refl _ w).alloc (Nat.le_refl _) _).trans (hb.mono (by simp)) : Below w.heap.size w w1)
  clear hb
  go_wp2
  go_ret
  exact ⟨rfl, HB.out⟩
theorem state_Same (va vb : Value) (l m : List St) (w : World) (ha : SlA w 9 va l.length (l.flatMap St.cells)) (hb : SlA w 9 vb m.length (m.flatMap St.cells)) :
    Calls Try.prog 22 #[va, vb] w fun e w' => e = .returned (.bool (decide (l = m))) ∧ ∃ n, w' = w.drewN n := by
  have I := Lib.hid (st_Equal va vb l m w ha hb)
  generalize decide (l = m) = res at I ⊢
  clear ha hb
  go_enter Try.func22, Try.ntmps22
  go_wp2_with fail
  refine I.out.mono ?_
  rintro e w1 ⟨rfl, n, rfl⟩
  go_wp2
  go_ret
  exact ⟨rfl, n, rfl⟩

theorem filter_take {l : List St} {p : St → Bool} {k : Nat} (h : k < l.length) : (l.take (k + 1)).filter p = (l.take k).filter p ++ (if p l[k] = true then [l[k]] else []) := by
  rw [List.take_succ_eq_append_getElem h, List.filter_append]
  cases hp : p l[k] <;> simp [hp]
theorem filter_yes {l : List St} {p : St → Bool} {k : Nat} (h : k < l.length) (hp : p l[k] = true) : (l.take (k + 1)).filter p = (l.take k).filter p ++ [l[k]] := by
  rw [filter_take h, if_pos hp]
theorem filter_no {l : List St} {p : St → Bool} {k : Nat} (h : k < l.length) (hp : p l[k] = false) : (l.take (k + 1)).filter p = (l.take k).filter p := by
  rw [filter_take h, if_neg (by rw [hp]; exact Bool.false_ne_true), List.append_nil]
theorem flat_snoc (l : List St) (x : St) : (l ++ [x]).flatMap St.cells = l.flatMap St.cells ++ x.cells := by simp

set_option maxRecDepth 100000 in
set_option maxHeartbeats 4000000 in
/-- only: those of which something is so, in order; the test a function that makes memory at most. -/
theorem state_only (va : Value) (l : List St) (w : World) (ha : SlA w 9 va l.length (l.flatMap St.cells)) (hl : l.length ≤ 1000) (g : Nat) (cb : Array Value) (p : St → Bool)
    (eg : ∀ args w, (callFunc g args).run Try.prog w = .ok (.enter g args) w)
    (hp : ∀ x W, Below w.heap.size w W → Calls Try.prog g (#[sv x] ++ cb) W fun e w' => e = .returned (.bool (p x)) ∧ Below W.heap.size W w') :
    Calls Try.prog 37 #[va, .func (.func g) #[] cb] w fun e w' => ∃ v, e = .returned v ∧ Sl w' 9 v (ord (l.filter p)).length ((ord (l.filter p)).flatMap St.cells) ∧ Below w.heap.size w w' := by
  have HP := Lib.hid hp
  have HA := Lib.hid ha
  have hmax := ha.max
  have hlf : (l.filter p).length ≤ 1000 := Nat.le_trans (List.length_filter_le _ _) hl
  have SO := Lib.hid (fun v W h => syn_Sort v (l.filter p) W h hlf)
  obtain ⟨ao, cap, hva⟩ := ha.form
  subst hva
  clear ha hp
  go_enter Try.func37, Try.ntmps37
  go_wp2
  go_loopw [5, 10] (fun vo i wr => ∃ k : Nat, k ≤ l.length ∧ i = .int .i64 k ∧ Hid (Below w.heap.size w wr) ∧ Hid (wr.ownsRow w.heap.size 30 9 vo ((l.take k).filter p).length (((l.take k).filter p).flatMap St.cells))) (fun _ i _ => l.length - (intOf i).toNat)
  case atStart => exact ⟨0, by omega, rfl, Lib.hid (Below.refl _ _), Lib.hid (World.ownsRow_nil _ _ _ _)⟩
  case round =>
    obtain ⟨k, hk, rfl, HB, HO⟩ := hrel
    obtain ⟨oo, oc, rfl⟩ := own_form HO.out
    by_cases hlt : k < l.length
    · obtain ⟨b1, o1, c1, he1, hc1, hm1, hb1, hx1⟩ := HA.out.pos (by omega)
      simp only [Value.slice.injEq, true_and] at he1
      obtain ⟨rfl, rfl⟩ := he1
      obtain ⟨p0, p1, p2, p3, p4, p5, p6, p7, p8⟩ := st_cell (w := wr) (fun j u hu => (HB.out.cell (p := ⟨b1, o1 + j, none⟩) hb1).trans (hx1 j u hu)) k hlt
      have hbr : b1 < wr.heap.size := Nat.lt_of_lt_of_le hb1 HB.out.size
      have PC := Lib.hid (fun W h => HP.out l[k] W h)
      have FY := Lib.hid (fun h => filter_yes (p := p) hlt h)
      have FN := Lib.hid (fun h => filter_no (p := p) hlt h)
      have hlk : ((l.take k).filter p).length ≤ l.length := Nat.le_trans (List.length_filter_le _ _) (by simp; omega)
      have hek : l[k] = ⟨l[k].k, ⟨l[k].h.o, l[k].h.n⟩, l[k].who, ⟨l[k].a.o, l[k].a.n⟩, ⟨l[k].b.o, l[k].b.n⟩, l[k].via⟩ := rfl
      generalize l[k] = x at *
      obtain ⟨xk, ⟨x1, x2⟩, xw, ⟨x3, x4⟩, ⟨x5, x6⟩, xv⟩ := x
      generalize p ⟨xk, ⟨x1, x2⟩, xw, ⟨x3, x4⟩, ⟨x5, x6⟩, xv⟩ = px at PC FY FN
      clear hek hx1
      have HB1 := Lib.hid (HB.out.alloc HB.out.size (.cells #[.int .i64 xk, .string x1, .string x2, .string xw, .string x3, .string x4, .string x5, .string x6, .string xv] 30))
      go_wp2_with fail
      refine (PC.out _ HB1.out).mono ?_
      rintro e w2 ⟨rfl, hb2⟩
      have HB2 := Lib.hid (HB1.out.trans (hb2.mono HB1.out.size))
      have HBK := Lib.hid (keep1 hb2)
      have HO2 := Lib.hid (own_below (own_below HO.out ((Below.refl _ _).alloc (Nat.le_refl _) _)) hb2)
      obtain ⟨cx, fx, zx⟩ := HBK.out
      have hz2 := HB2.out.size
      clear hb2
      cases px with
      | false =>
        have e := Lib.hid (FN.out rfl)
        clear FY FN
        go_wp2_with fail
        exact ⟨⟨k + 1, by omega, by go_num, HB2, Lib.hid (by rw [e.out]; exact HO2.out)⟩, by simp [intOf]; omega⟩
      | true =>
        have e := Lib.hid (FY.out rfl)
        clear FY FN
        have hown := HO2.out
        go_wp2_with (at_builtin; refine halt_ ?_)
        unfold Halt_
        refine app_own Try.underlying22 st_info rfl (by decide) (by decide) rfl _ _ rfl w.heap.size rfl (hown.alloc _) [.int .i64 xk, .string x1, .string x2, .string xw, .string x3, .string x4, .string x5, .string x6, .string xv] rfl (heap_new1 _ _) rfl (st_one ⟨xk, ⟨x1, x2⟩, xw, ⟨x3, x4⟩, ⟨x5, x6⟩, xv⟩) ?_ ?_ ?_
        · omega
        · simp; omega
        intro a' cap' w3 hown' hgrow
        have HO3 := Lib.hid (show w3.ownsRow w.heap.size 30 9 _ (((l.take (k + 1)).filter p).length) (((l.take (k + 1)).filter p).flatMap St.cells) by rw [e.out, flat_snoc, List.length_append]; exact hown')
        have HB3 := Lib.hid (below_own (HB2.out.alloc HB2.out.size (.cells #[.int .i64 xk, .string x1, .string x2, .string xw, .string x3, .string x4, .string x5, .string x6, .string xv] 30)) (hown.alloc _) hgrow (by simp; omega) (Nat.le_refl _))
        clear hown' hgrow hown
        go_wp2_with fail
        refine ⟨⟨k + 1, by omega, by go_num, HB3, ?_⟩, by simp [intOf]; omega⟩
        rw [e.out, List.length_append] at HO3
        rw [e.out, List.length_append]
        exact HO3
    · have e := Lib.hid (show l.take k = l by rw [List.take_of_length_le (by omega)])
      have e2 := Lib.hid (show l.filter p = (l.take k).filter p by rw [e.out])
      clear e
      go_wp2_with fail
      refine (SO.out _ _ ?_).mono ?_
      · rw [e2.out]; exact (Sl.of_own HO.out).a
      rintro e w3 ⟨v3, rfl, hs3, hb3⟩
      have HS3 := Lib.hid hs3
      have HB3 := Lib.hid (HB.out.trans (hb3.mono HB.out.size))
      clear hs3 hb3
      go_wp2
      go_ret
      exact ⟨_, rfl, HS3.out, HB3.out⟩
end Go.Proofs.Ytmpanikeeeoikaa
