/- A policy and its text, in plain Lean: its lines, what a line adds to a policy, what a text is as one. Plain laws of a policy's lines: what a line adds may be, and how few. policy.Fits and crupperref05.Fits of a policy of any size. The reference's Tokens returns the tokens of a line, or what is wrong first, and where. The reference's Alike is true of two slices that read as the same tokens. slices.Equal, Grow and Concat at rows of roles (printed by gen_rlall.py out of StSlices, StUnion). slices.IndexFunc and slices.DeleteFunc at rows of roles. The statement StateParts: the walk of the law. How two policies differ, in plain Lean. Package delta: without, with, Back, Empty, Same. Two blocks of a call's own that stand whole. Whether two differences are the same (printed by gen_dlsame.py). policy.bound: the role of a line that begins with grow, or shrink. slices.Index and slices.Contains at texts (out of SimSat). The reader of package query: fail, want, kind, word. query.Words, and the reader's ask. -/
import Derived.Test.YtnhkgfgbhedphaaGreatDoorPart8
import Derived.Test.YtnhkgfgbhedphaaGreatDoorPart9
import Derived.Test.YtnhkgfgbhedphaaGreatDoorPart6
import Derived.Test.YtnhkgfgbhedphaaGreatDoorPart3
import Derived.Test.YtnhkgfgbhedphaaGreatDoorPart5
import Derived.Test.YtnhkgfgbhedphaaGreatDoorPart1
import Derived.Test.YtnhkgfgbhedphaaGreatDoorPart7
namespace Go.Proofs.YtnhkgfgbhedphaaGreatDoor
open Go.RowKit Go.Shelf

structure Pd where
  l : List St
  g : List Rl
  h : List Rl
  q : List Qd
def noPd : Pd := ⟨[], [], [], []⟩
def wGrow : ByteArray := ⟨#[103, 114, 111, 119]⟩
def wShrink : ByteArray := ⟨#[115, 104, 114, 105, 110, 107]⟩

def boundG : List Int → List Tok → Option Int
  | _, [] => none
  | [], t :: _ => some t.col
  | k :: ks, t :: l => if t.kind = k then boundG ks l else some t.col
def boundT (l : List Tok) (e : Int) : Rl × Int × Int := match boundG [2, 1, 3, 2] l with
  | some c => (noR, c, 2)
  | none => if l.length < 4 then (noR, e, 3) else (⟨txQ l 1, txQ l 3⟩, 0, 0)

def lineT (p : Pd) (s : ByteArray) (t : List Tok × Int × Int) : Pd × Int × Int :=
  if t.2.2 ≠ 0 then (p, t.2.1, t.2.2) else match t.1 with
  | [] => (p, t.2.1, 0)
  | x :: _ =>
    if x.tx = wAlways ∨ x.tx = wCan then ({ p with q := p.q ++ [(parseQ s).1] }, (parseQ s).2)
    else if x.tx = wGrow then ({ p with g := insAllR [] (p.g ++ [(boundT t.1 (endOf s)).1]) }, (boundT t.1 (endOf s)).2)
    else if x.tx = wShrink then ({ p with h := insAllR [] (p.h ++ [(boundT t.1 (endOf s)).1]) }, (boundT t.1 (endOf s)).2)
    else ({ p with l := insAll [] (p.l ++ [(parseS s).1]) }, (parseS s).2)
def lineP (p : Pd) (s : ByteArray) : Pd × Int × Int := lineT p s (tokens (bl s))

def qz (z : Qd × Value) : Qv := ⟨z.1.k, z.1.a, z.1.b, z.2⟩
def dq (d : Qd) : Qv := ⟨d.k, d.a, d.b, nilV⟩
def prinsD (p : Pd) : List ByteArray := newB ((allRoles p.l p.g p.h (p.q.map dq)).map Rl.o ++ p.l.flatMap whoS ++ p.q.flatMap Qd.us)
def namesD (p : Pd) : List ByteArray := newB ((allRoles p.l p.g p.h (p.q.map dq)).map Rl.n ++ p.l.flatMap viaS)
def fitsD (p : Pd) : Bool := decide (p.l.length ≤ 80) && (decide (p.g.length ≤ 40) && (decide (p.h.length ≤ 40) && (decide (p.q.length ≤ 16) && (decide ((prinsD p).length ≤ 16) && decide ((namesD p).length ≤ 12)))))

def goP (p : Pd) (i : Nat) : List ByteArray → Pd × Int × Int × Int
  | [] => (p, 0, 0, 0)
  | s :: r =>
    if (lineP p s).2.2 ≠ 0 then (noPd, (lineP p s).2.2, (i : Int) + 1, (lineP p s).2.1)
    else if fitsD (lineP p s).1 = true then goP (lineP p s).1 (i + 1) r else (noPd, 5, (i : Int) + 1, 1)
def parseP (s : ByteArray) : Pd × Int × Int × Int := if 8000 < s.size then (noPd, 4, 0, 0) else goP noPd 0 (linesB s)

structure OkP (p : Pd) : Prop where
  l : ∀ x ∈ p.l, rightS x = true
  g : ∀ x ∈ p.g, isRole x = true
  h : ∀ x ∈ p.h, isRole x = true
  q : ∀ x ∈ p.q, GoodQ x
structure RightD (p : Pd) : Prop where
  ok : OkP p
  l : p.l = insAll [] p.l
  g : p.g = insAllR [] p.g
  h : p.h = insAllR [] p.h
  f : fitsD p = true
theorem okP_no : OkP noPd := ⟨fun _ h => by simp [noPd] at h, fun _ h => by simp [noPd] at h, fun _ h => by simp [noPd] at h, fun _ h => by simp [noPd] at h⟩

def growT (r : Rl) : ByteArray := joinB [wGrow, roleT r] ⟨#[32]⟩
def shrinkT (r : Rl) : ByteArray := joinB [wShrink, roleT r] ⟨#[32]⟩
def linesD (p : Pd) : List ByteArray := p.l.map printS ++ p.g.map growT ++ p.h.map shrinkT ++ p.q.map textQ
def textP (p : Pd) : ByteArray := ⟨(joinN (linesD p)).toArray⟩

theorem allRoles_dq (l : List St) (g h : List Rl) (zs : List (Qd × Value)) : allRoles l g h (zs.map qz) = allRoles l g h ((zs.map (·.1)).map dq) := by
  unfold allRoles
  congr 1
  induction zs with
  | nil => rfl
  | cons z zs ih => simp only [List.map_cons, List.flatMap_cons]; rw [ih]; rfl
theorem whoD (zs : List (Qd × Value)) (F : Qv → List ByteArray) (hF : ∀ z ∈ zs, F (qz z) = z.1.us) : (zs.map qz).flatMap F = (zs.map (·.1)).flatMap Qd.us := by
  induction zs with
  | nil => rfl
  | cons z zs ih =>
    simp only [List.map_cons, List.flatMap_cons]
    rw [ih (fun x hx => hF x (List.mem_cons_of_mem _ hx)), hF z (List.mem_cons_self ..)]
theorem fitsD_of (p : Pd) (zs : List (Qd × Value)) (F : Qv → List ByteArray) (hz : zs.map (·.1) = p.q) (hF : ∀ z ∈ zs, F (qz z) = z.1.us) (hl : p.l.length ≤ 80) (hg : p.g.length ≤ 40) (hh : p.h.length ≤ 40) :
    fitsD p = fitsP p.l p.g p.h (zs.map qz) F := by
  unfold fitsD fitsP prinsD namesD allPrins allNames
  rw [decide_eq_true hl, decide_eq_true hg, decide_eq_true hh, allRoles_dq, whoD zs F hF, hz, List.length_map, ← hz, List.length_map]
  simp
theorem fits_few {p : Pd} (h : fitsD p = true) : p.l.length ≤ 80 ∧ p.g.length ≤ 40 ∧ p.h.length ≤ 40 ∧ p.q.length ≤ 16 := by
  unfold fitsD at h
  simp only [Bool.and_eq_true, decide_eq_true_eq] at h
  exact ⟨h.1, h.2.1, h.2.2.1, h.2.2.2.1⟩
theorem fits_noP : fitsD noPd = true := by decide
end Go.Proofs.YtnhkgfgbhedphaaGreatDoor
namespace Go.Proofs.YtnhkgfgbhedphaaGreatDoor
open Go.RowKit Go.Shelf

theorem rightS_le {s : St} (h : rightS s = true) : s.le 8 := by
  obtain ⟨k, ⟨h1, h2⟩, who, ⟨a1, a2⟩, ⟨b1, b2⟩, via⟩ := s
  have hP : ∀ {lo hi : Int} {x : ByteArray}, isP lo hi (bl x) = true → x.size ≤ 8 := fun h => by have := (isP_len h).2; rwa [bl_len] at this
  have h0 : emp.size ≤ 8 := by decide
  have hN : ∀ {x y : ByteArray}, (⟨x, y⟩ : Rl) = noR → x.size ≤ 8 ∧ y.size ≤ 8 := fun e => by cases e; exact ⟨h0, h0⟩
  simp only [rightS, Bool.and_eq_true, isRole_iff] at h
  obtain ⟨⟨ho, hn⟩, h⟩ := h
  refine ⟨⟨hP ho, hP hn⟩, ?_⟩
  show who.size ≤ 8 ∧ (a1.size ≤ 8 ∧ a2.size ≤ 8) ∧ (b1.size ≤ 8 ∧ b2.size ≤ 8) ∧ via.size ≤ 8
  by_cases k1 : k = 1
  · rw [if_pos k1] at h
    simp only [Bool.and_eq_true, eqRl, decide_eq_true_iff] at h
    obtain ⟨⟨⟨hw, ea⟩, eb⟩, rfl⟩ := h
    exact ⟨hP hw, hN ea, hN eb, h0⟩
  rw [if_neg k1] at h
  by_cases k2 : k = 2
  · rw [if_pos k2] at h
    simp only [Bool.and_eq_true, eqRl, decide_eq_true_iff, isRole_iff] at h
    obtain ⟨⟨⟨rfl, ha, hc⟩, eb⟩, rfl⟩ := h
    exact ⟨h0, ⟨hP ha, hP hc⟩, hN eb, h0⟩
  rw [if_neg k2] at h
  by_cases k3 : k = 3
  · rw [if_pos k3] at h
    simp only [Bool.and_eq_true, eqRl, decide_eq_true_iff, isRole_iff] at h
    obtain ⟨⟨⟨rfl, ha, hc⟩, eb⟩, hv⟩ := h
    exact ⟨h0, ⟨hP ha, hP hc⟩, hN eb, hP hv⟩
  rw [if_neg k3] at h
  by_cases k4 : k = 4
  · rw [if_pos k4] at h
    simp only [Bool.and_eq_true, decide_eq_true_iff, isRole_iff] at h
    obtain ⟨⟨⟨⟨rfl, ha, hc⟩, hd, he⟩, rfl⟩, _⟩ := h
    exact ⟨h0, ⟨hP ha, hP hc⟩, ⟨hP hd, hP he⟩, h0⟩
  · rw [if_neg k4] at h; cases h
theorem boundG_four {l : List Tok} (h : boundG [2, 1, 3, 2] l = none) (h4 : ¬ l.length < 4) : ∃ a b c d, l = [a, b, c, d] ∧ a.kind = 2 ∧ b.kind = 1 ∧ c.kind = 3 ∧ d.kind = 2 := by
  match l, h, h4 with
  | [], _, h4 => exact absurd (by simp) h4
  | [_], _, h4 => exact absurd (by simp) h4
  | [_, _], _, h4 => exact absurd (by simp) h4
  | [_, _, _], _, h4 => exact absurd (by simp) h4
  | [a, b, c, d], h, _ =>
    unfold boundG at h
    split at h
    · rename_i h0
      unfold boundG at h
      split at h
      · rename_i h1
        unfold boundG at h
        split at h
        · rename_i h2
          unfold boundG at h
          split at h
          · rename_i h3
            exact ⟨a, b, c, d, rfl, h0, h1, h2, h3⟩
          · simp at h
        · simp at h
      · simp at h
    · simp at h
  | a :: b :: c :: d :: x :: r, h, _ =>
    unfold boundG at h
    split at h
    · unfold boundG at h
      split at h
      · unfold boundG at h
        split at h
        · unfold boundG at h
          split at h
          · unfold boundG at h
            simp at h
          · simp at h
        · simp at h
      · simp at h
    · simp at h
theorem bound_role {l : List Tok} {e : Int} (ho : ∀ t ∈ l, okTok t) (h : (boundT l e).2.2 = 0) : isRole (boundT l e).1 = true := by
  unfold boundT at h ⊢
  cases hb : boundG [2, 1, 3, 2] l with
  | some c => rw [hb] at h; simp at h
  | none =>
    rw [hb] at h
    dsimp only at h ⊢
    by_cases h4 : l.length < 4
    · rw [if_pos h4] at h; simp at h
    · rw [if_neg h4]
      obtain ⟨a, b, c, d, rfl, _, h1, _, h3⟩ := boundG_four hb h4
      show isRole ⟨b.tx, d.tx⟩ = true
      exact okRole (ho b (by simp)) (ho d (by simp)) h1 h3
theorem lineP_ok {p : Pd} {s : ByteArray} (hok : OkP p) (h : (lineP p s).2.2 = 0) : OkP (lineP p s).1 := by
  have ht := tokens_ok (bl s)
  unfold lineP at h ⊢
  generalize tokens (bl s) = t at *
  unfold lineT at h ⊢
  by_cases h0 : t.2.2 ≠ 0
  · rw [if_pos h0]; exact hok
  · rw [if_neg h0] at h ⊢
    cases hl : t.1 with
    | nil => exact hok
    | cons x r =>
      rw [hl] at h
      dsimp only at h ⊢
      rw [← hl] at h ⊢
      by_cases h1 : x.tx = wAlways ∨ x.tx = wCan
      · rw [if_pos h1] at h ⊢
        refine ⟨hok.l, hok.g, hok.h, fun y hy => ?_⟩
        rcases List.mem_append.1 hy with hy | hy
        · exact hok.q y hy
        · obtain rfl := List.mem_singleton.1 hy
          exact (parse_goodQ s h).1
      · rw [if_neg h1] at h ⊢
        by_cases h2 : x.tx = wGrow
        · rw [if_pos h2] at h ⊢
          refine ⟨hok.l, fun y hy => ?_, hok.h, hok.q⟩
          rcases (insAll_memR _ _ _).1 hy with hy | hy
          · exact absurd hy (by simp)
          · rcases List.mem_append.1 hy with hy | hy
            · exact hok.g y hy
            · obtain rfl := List.mem_singleton.1 hy
              exact bound_role ht h
        · rw [if_neg h2] at h ⊢
          by_cases h3 : x.tx = wShrink
          · rw [if_pos h3] at h ⊢
            refine ⟨hok.l, hok.g, fun y hy => ?_, hok.q⟩
            rcases (insAll_memR _ _ _).1 hy with hy | hy
            · exact absurd hy (by simp)
            · rcases List.mem_append.1 hy with hy | hy
              · exact hok.h y hy
              · obtain rfl := List.mem_singleton.1 hy
                exact bound_role ht h
          · rw [if_neg h3] at h ⊢
            refine ⟨fun y hy => ?_, hok.g, hok.h, hok.q⟩
            rcases (insAll_mem _ _ _).1 hy with hy | hy
            · exact absurd hy (by simp)
            · rcases List.mem_append.1 hy with hy | hy
              · exact hok.l y hy
              · obtain rfl := List.mem_singleton.1 hy
                exact parse_right s h
theorem isRole_le {x : Rl} (h : isRole x = true) : x.le 8 := by
  obtain ⟨h1, h2⟩ := (isRole_iff x.o x.n).1 h
  exact ⟨isP_size' h1, isP_size' h2⟩
theorem good_us {q : Qd} (h : GoodQ q) : ∀ s ∈ q.us, s.size ≤ 8 := fun s hs => isP_size' (h.p s hs)
theorem good_a {q : Qd} (h : GoodQ q) : q.a.le 8 := isRole_le h.a
theorem good_b {q : Qd} (h : GoodQ q) : q.b.le 8 := by
  by_cases h5 : 5 ≤ q.k
  · exact isRole_le (h.two h5)
  · rw [h.one h5]; exact ⟨Nat.zero_le _, Nat.zero_le _⟩
end Go.Proofs.YtnhkgfgbhedphaaGreatDoor
namespace Go.Proofs.YtnhkgfgbhedphaaGreatDoor
open Go.RowKit Go.Shelf

noncomputable def whoAt (W : World) (v : Value) : List ByteArray := open Classical in if h : ∃ us : List ByteArray, SlA W 1 v us.length (strs us) then h.choose else []
theorem SlA.same {W : World} {v : Value} {a b : List ByteArray} (h : SlA W 1 v a.length (strs a)) (k : SlA W 1 v b.length (strs b)) : a = b := by
  have hl : a.length = b.length := by
    obtain ⟨x, c, e⟩ := h.form
    obtain ⟨y, d, e'⟩ := k.form
    rw [e] at e'
    simp only [Value.slice.injEq] at e'
    omega
  by_cases h0 : 0 < a.length
  · obtain ⟨b1, o1, c1, e1, _, _, _, hx1⟩ := h.pos h0
    obtain ⟨b2, o2, c2, e2, _, _, _, hx2⟩ := k.pos (by omega)
    rw [e1] at e2
    simp only [Value.slice.injEq, Option.some.injEq, Addr.mk.injEq] at e2
    obtain ⟨⟨rfl, rfl, _⟩, _⟩ := e2
    refine List.ext_getElem hl fun i h1 h2 => ?_
    have p1 := hx1 i _ (strs_get h1)
    have p2 := hx2 i _ (strs_get h2)
    rw [p1] at p2
    simpa using p2
  · rw [List.eq_nil_of_length_eq_zero (show a.length = 0 by omega), List.eq_nil_of_length_eq_zero (show b.length = 0 by omega)]
theorem whoAt_eq {W : World} {v : Value} {us : List ByteArray} (h : SlA W 1 v us.length (strs us)) : whoAt W v = us := by
  have hx : ∃ us : List ByteArray, SlA W 1 v us.length (strs us) := ⟨us, h⟩
  unfold whoAt
  rw [dif_pos hx]
  exact SlA.same hx.choose_spec h

structure PolD (w : World) (v0 v1 v2 v3 : Value) (p : Pd) (zs : List (Qd × Value)) : Prop where
  z : zs.map (·.1) = p.q
  rs : SlA w 9 v0 p.l.length (p.l.flatMap St.cells)
  rg : SlA w 2 v1 p.g.length (p.g.flatMap Rl.cells)
  rh : SlA w 2 v2 p.h.length (p.h.flatMap Rl.cells)
  rq : SlA w 6 v3 zs.length ((zs.map qz).flatMap Qv.cells)
  rw : ∀ z ∈ zs, SlA w 1 z.2 z.1.us.length (strs z.1.us)
theorem PolD.below {w w' : World} {v0 v1 v2 v3 : Value} {p : Pd} {zs : List (Qd × Value)} (h : PolD w v0 v1 v2 v3 p zs) (hb : Below w.heap.size w w') : PolD w' v0 v1 v2 v3 p zs :=
  ⟨h.z, h.rs.below hb, h.rg.below hb, h.rh.below hb, h.rq.below hb, fun z hz => (h.rw z hz).below hb⟩
structure LeP (p : Pd) (m n : Nat) : Prop where
  l : allLe p.l m
  g : ∀ x ∈ p.g, x.le m
  h : ∀ x ∈ p.h, x.le m
  qa : ∀ x ∈ p.q, x.a.le m
  qb : ∀ x ∈ p.q, x.b.le m
  qs : ∀ x ∈ p.q, ∀ s ∈ x.us, s.size ≤ m
  qn : ∀ x ∈ p.q, x.us.length ≤ n
theorem rl_le_mono {x : Rl} {m n : Nat} (h : x.le m) (hmn : m ≤ n) : x.le n := ⟨Nat.le_trans h.1 hmn, Nat.le_trans h.2 hmn⟩
theorem st_le_mono {x : St} {m n : Nat} (h : x.le m) (hmn : m ≤ n) : x.le n :=
  ⟨rl_le_mono h.1 hmn, Nat.le_trans h.2.1 hmn, rl_le_mono h.2.2.1 hmn, rl_le_mono h.2.2.2.1 hmn, Nat.le_trans h.2.2.2.2 hmn⟩
theorem LeP.mono {p : Pd} {m n k j : Nat} (h : LeP p m n) (hm : m ≤ k) (hn : n ≤ j) : LeP p k j :=
  ⟨fun x hx => st_le_mono (h.l x hx) hm, fun x hx => rl_le_mono (h.g x hx) hm, fun x hx => rl_le_mono (h.h x hx) hm, fun x hx => rl_le_mono (h.qa x hx) hm, fun x hx => rl_le_mono (h.qb x hx) hm, fun x hx s hs => Nat.le_trans (h.qs x hx s hs) hm, fun x hx => Nat.le_trans (h.qn x hx) hn⟩
theorem PolD.at {w : World} {v0 v1 v2 v3 : Value} {p : Pd} {zs : List (Qd × Value)} (h : PolD w v0 v1 v2 v3 p zs) {n : Nat} (hl : LeP p 9223372036854775807 n) : PolAt w v0 v1 v2 v3 p.l p.g p.h (zs.map qz) := by
  have hm : ∀ z ∈ zs, z.1 ∈ p.q := fun z hz => by rw [← h.z]; exact List.mem_map_of_mem hz
  refine ⟨h.rs, h.rg, h.rh, by rw [List.length_map]; exact h.rq, hl.l, hl.g, hl.h, fun x hx => ?_⟩
  obtain ⟨z, hz, rfl⟩ := List.mem_map.1 hx
  exact ⟨hl.qa _ (hm z hz), hl.qb _ (hm z hz), z.1.us, h.rw z hz, hl.qs _ (hm z hz)⟩
noncomputable def FAt (W : World) (q : Qv) : List ByteArray := whoAt W q.w
theorem PolD.F {w : World} {v0 v1 v2 v3 : Value} {p : Pd} {zs : List (Qd × Value)} (h : PolD w v0 v1 v2 v3 p zs) : ∀ z ∈ zs, FAt w (qz z) = z.1.us := fun z hz => whoAt_eq (h.rw z hz)
theorem PolD.who {w : World} {v0 v1 v2 v3 : Value} {p : Pd} {zs : List (Qd × Value)} (h : PolD w v0 v1 v2 v3 p zs) {m n : Nat} (hl : LeP p m n) (hn : n ≤ 40) : WhoF w (zs.map qz) (FAt w) := fun x hx => by
  obtain ⟨z, hz, rfl⟩ := List.mem_map.1 hx
  have hm : z.1 ∈ p.q := by rw [← h.z]; exact List.mem_map_of_mem hz
  rw [h.F z hz]
  exact ⟨h.rw z hz, Nat.le_trans (hl.qn _ hm) hn⟩
theorem PolD.qlen {w : World} {v0 v1 v2 v3 : Value} {p : Pd} {zs : List (Qd × Value)} (h : PolD w v0 v1 v2 v3 p zs) : (zs.map qz).length = p.q.length := by rw [List.length_map, ← h.z, List.length_map]
theorem okP_le {p : Pd} (h : OkP p) : LeP p 8 12 :=
  ⟨fun x hx => rightS_le (h.l x hx), fun x hx => isRole_le (h.g x hx), fun x hx => isRole_le (h.h x hx), fun x hx => good_a (h.q x hx), fun x hx => good_b (h.q x hx), fun x hx => good_us (h.q x hx), fun x hx => (h.q x hx).few⟩
theorem fitsD_few {p : Pd} (h : ¬ (p.l.length ≤ 80 ∧ p.g.length ≤ 40 ∧ p.h.length ≤ 40)) : fitsD p = false := by
  cases hf : fitsD p with
  | false => rfl
  | true =>
    have := fits_few hf
    omega
set_option maxRecDepth 100000 in
set_option maxHeartbeats 4000000 in
theorem policy_FitsD (v0 v1 v2 v3 : Value) (p : Pd) (zs : List (Qd × Value)) (w : World) (hp : PolD w v0 v1 v2 v3 p zs) (hle : LeP p 9223372036854775807 40) (hq : p.q.length ≤ 100) :
    Calls Tryz.prog 33 #[pv v0 v1 v2 v3] w fun e w' => e = .returned (.bool (fitsD p)) ∧ Below w.heap.size w w' := by
  by_cases h : p.l.length ≤ 80 ∧ p.g.length ≤ 40 ∧ p.h.length ≤ 40
  · rw [fitsD_of p zs (FAt w) hp.z hp.F h.1 h.2.1 h.2.2]
    exact policy_FitsL v0 v1 v2 v3 p.l p.g p.h (zs.map qz) w (hp.at hle) h.1 h.2.1 h.2.2 (by rw [hp.qlen]; exact hq) (FAt w) (hp.who hle (Nat.le_refl _))
  · have RES := Lib.hid (fitsD_few h)
    have hzl : zs.length = p.q.length := by rw [← hp.z, List.length_map]
    obtain ⟨a0, c0, rfl⟩ := hp.rs.form
    obtain ⟨a1, c1, rfl⟩ := hp.rg.form
    obtain ⟨a2, c2, rfl⟩ := hp.rh.form
    obtain ⟨a3, c3, rfl⟩ := hp.rq.form
    have HT := Lib.hid (show OneAt w #[.slice a0 p.l.length c0, .slice a1 p.g.length c1, .slice a2 p.h.length c2, .slice a3 zs.length c3] (w.alloc (.cells #[.slice a0 p.l.length c0, .slice a1 p.g.length c1, .slice a2 p.h.length c2, .slice a3 zs.length c3] 26)) from ⟨Blk.new w _ _, (Below.refl _ _).alloc (Nat.le_refl _) _⟩)
    generalize fitsD p = res at RES ⊢
    clear hp hle hzl hq
    by_cases t0 : p.l.length ≤ 80
    · have d0 : decide ((p.l.length : Int) ≤ 80) = true := decide_eq_true (by omega)
      by_cases t1 : p.g.length ≤ 40
      · have d1 : decide ((p.g.length : Int) ≤ 40) = true := decide_eq_true (by omega)
        have d2 : decide ((p.h.length : Int) ≤ 40) = false := decide_eq_false (by omega)
        go_enter Tryz.func33, Tryz.ntmps33
        go_wp2_with fail
        go_ret
        exact ⟨ret_b RES.out.symm, HT.out.low⟩
      · have d1 : decide ((p.g.length : Int) ≤ 40) = false := decide_eq_false (by omega)
        go_enter Tryz.func33, Tryz.ntmps33
        go_wp2_with fail
        go_ret
        exact ⟨ret_b RES.out.symm, HT.out.low⟩
    · have d0 : decide ((p.l.length : Int) ≤ 80) = false := decide_eq_false (by omega)
      go_enter Tryz.func33, Tryz.ntmps33
      go_wp2_with fail
      go_ret
      exact ⟨ret_b RES.out.symm, HT.out.low⟩
end Go.Proofs.YtnhkgfgbhedphaaGreatDoor
namespace Go.Proofs.YtnhkgfgbhedphaaGreatDoor
open Go.RowKit Go.Shelf

end Go.Proofs.YtnhkgfgbhedphaaGreatDoor
namespace Go.Proofs.YtnhkgfgbhedphaaGreatDoor
open Go.RowKit Go.Shelf

theorem tok_cell {w : World} {b off : Nat} {l : List Tok} (h : ∀ j u, (l.flatMap Tok.cells)[j]? = some u → w.cell? ⟨b, off + j, none⟩ = some u) (k : Nat) (hk : k < l.length) :
    w.cell? ⟨b, off + k * 3, none⟩ = some (.int .i64 l[k].kind) ∧ w.cell? ⟨b, off + k * 3 + 1, none⟩ = some (.string ⟨l[k].text.toArray⟩) ∧ w.cell? ⟨b, off + k * 3 + 2, none⟩ = some (.int .i64 l[k].col) := by
  have hx : l[k]? = some l[k] := List.getElem?_eq_getElem hk
  have h0 := h _ _ ((flat_get Tok.cells 3 Tok.cells_len l k 0 (by omega) _ hx).trans rfl)
  have h1 := h _ _ ((flat_get Tok.cells 3 Tok.cells_len l k 1 (by omega) _ hx).trans rfl)
  have h2 := h _ _ ((flat_get Tok.cells 3 Tok.cells_len l k 2 (by omega) _ hx).trans rfl)
  exact ⟨h0, h1, h2⟩

end Go.Proofs.YtnhkgfgbhedphaaGreatDoor
namespace Go.Proofs.YtnhkgfgbhedphaaGreatDoor
open Go.RowKit Go.Shelf

set_option maxRecDepth 100000 in
set_option maxHeartbeats 2000000 in
theorem rl_Equal (va vb : Value) (l m : List Rl) (w : World) (ha : SlA w 2 va l.length (l.flatMap Rl.cells)) (hb : SlA w 2 vb m.length (m.flatMap Rl.cells)) :
    Calls Tryz.prog 82 #[va, vb] w fun e w' => e = .returned (.bool (decide (l = m))) ∧ ∃ n, w' = w.drewN n := by
  have hmax := ha.max
  have hmax2 := hb.max
  by_cases hl : l.length = m.length
  case neg =>
    have R := Lib.hid (same_lenR hl)
    have d : ((l.length : Int) != (m.length : Int)) = true := by rw [bne_iff_ne]; omega
    obtain ⟨a1, c1, rfl⟩ := ha.form
    obtain ⟨a2, c2, rfl⟩ := hb.form
    clear ha hb hl
    go_enter Tryz.func82, Tryz.ntmps82
    go_wp2
    go_ret
    exact ⟨ret_b R.out.symm, 0, rfl⟩
  have hNe := role_neq
  have hne : ((l.length : Int) != (m.length : Int)) = false := by rw [hl]; simp
  by_cases h0 : 0 < l.length
  · obtain ⟨b1, o1, c1, rfl, hc1, hm1, _, hx1⟩ := ha.pos h0
    obtain ⟨b2, o2, c2, rfl, hc2, hm2, _, hx2⟩ := hb.pos (by omega)
    have HX1 := Lib.hid hx1
    have HX2 := Lib.hid hx2
    have HL := Lib.hid hl
    clear ha hb hx1 hx2 hl
    go_enter Tryz.func82, Tryz.ntmps82
    go_wp2
    go_loopw [13] (fun i wr => ∃ k n : Nat, k ≤ l.length ∧ i = .int .i64 k ∧ wr = w.drewN n ∧ Hid (l.take k = m.take k)) (fun i _ => l.length - (intOf i).toNat)
    case atStart => exact ⟨0, 0, by omega, rfl, rfl, Lib.hid (by simp)⟩
    case round =>
      obtain ⟨k, n, hk, rfl, rfl, HT⟩ := hrel
      by_cases hlt : k < l.length
      · have hlt2 : k < m.length := by have := HL.out; omega
        obtain ⟨p0, p1⟩ := rl_cell HX1.out k hlt
        obtain ⟨q0, q1⟩ := rl_cell HX2.out k hlt2
        by_cases he : l[k] = m[k]
        · have HN := Lib.hid (take_moreR HT.out hlt hlt2 he)
          have d1 : (!eqRl ⟨l[k].o, l[k].n⟩ ⟨m[k].o, m[k].n⟩) = false := by
            have := congrArg (!·) (decide_eq_true he); exact this
          clear he
          go_wp2_with fail
          go_big_quiet (fail)
          go_wp2
          exact ⟨⟨k + 1, n + nq, by omega, by go_num, rfl, HN⟩, by simp [intOf]; omega⟩
        · have R := Lib.hid (same_noR hlt hlt2 he)
          have d1 : (!eqRl ⟨l[k].o, l[k].n⟩ ⟨m[k].o, m[k].n⟩) = true := by
            have := congrArg (!·) (decide_eq_false he); exact this
          clear he
          go_wp2_with fail
          go_big_quiet (fail)
          go_wp2
          go_ret
          exact ⟨ret_b R.out.symm, n + nq, by simp [World.drewN, Nat.add_assoc]⟩
      · have R := Lib.hid (same_endR HT.out hlt (by have := HL.out; omega))
        go_wp2
        go_ret
        exact ⟨ret_b R.out.symm, n, rfl⟩
  · have R := Lib.hid (same_endR (l := l) (m := m) (k := 0) (by simp) h0 (by omega))
    obtain ⟨a1, c1, rfl⟩ := ha.form
    obtain ⟨a2, c2, rfl⟩ := hb.form
    have d0 : l.length = 0 := by omega
    have d02 : m.length = 0 := by omega
    clear ha hb h0 hmax hl hmax2
    go_enter Tryz.func82, Tryz.ntmps82
    go_wp2
    go_loopw [13] (fun i wr => i = .int .i64 0 ∧ wr = w) (fun _ _ => 0)
    case atStart => exact ⟨rfl, rfl⟩
    case round =>
      obtain ⟨rfl, rfl⟩ := hrel
      go_wp2
      go_ret
      exact ⟨ret_b R.out.symm, 0, rfl⟩
theorem rl_Grow (n : Nat) (w : World) (hn : n ≤ 2000) : Calls Tryz.prog 195 #[.slice none 0 0, .int .i64 n] w fun e w' =>
    ∃ a cap, e = .returned (.slice a 0 cap) ∧ w'.ownsRow w.heap.size 54 2 (.slice a 0 cap) 0 [] ∧ Below w.heap.size w w' := by
  by_cases h0 : 0 < n
  · obtain ⟨inf, hinf, hz0, hz1, hz2⟩ := info_parts rl_info'
    refine (Any8.slices_Grow_grow Tryz.growR inf _ hinf hz0 (by omega) none 0 0 n [] w (Nat.le_refl _) (by omega) (by rw [hz2]; omega) (by omega) (by simp) (fun _ => rfl) (fun a h => by cases h)).mono ?_
    rintro e w' ⟨rfl, rfl⟩
    have hge := grownCap_ge w (0 + n) 0 54
    have hle := grownCap_le_maxLen w (0 + n) 0 54 (by simp only [maxLen]; omega)
    refine ⟨_, _, rfl, World.ownsRow_made w.drew _ _ (Nat.le_refl _) hle ?_, (below_drew (Below.refl _ _)).alloc (Nat.le_refl _) _⟩
    rw [Nat.zero_add] at hge hle ⊢
    simp [Builtin.zeroCells, Value.cells]
    rw [show Tryz.growR_ren.t 25 = 54 from rfl]
    omega
  · obtain rfl : n = 0 := by omega
    refine (Any8.slices_Grow_room Tryz.growR none 0 0 0 w (Nat.le_refl _) (by omega) (by omega) (by omega)).mono ?_
    rintro e w' ⟨rfl, rfl⟩
    exact ⟨_, _, rfl, World.ownsRow_nil _ _ _ _, Below.refl _ _⟩
set_option maxRecDepth 100000 in
set_option maxHeartbeats 4000000 in
theorem rl_Concat (g : Nat) (va vb : Value) (l m : List Rl) (w : World) (hg : Blk w g #[va, vb]) (ha : SlA w 2 va l.length (l.flatMap Rl.cells)) (hb : SlA w 2 vb m.length (m.flatMap Rl.cells)) (hl : l.length ≤ 1000) (hm : m.length ≤ 1000) :
    Calls Tryz.prog 139 #[.slice (some ⟨g, 0, none⟩) 2 2] w fun e w' => ∃ v, e = .returned v ∧ Sl w' 2 v (l ++ m).length ((l ++ m).flatMap Rl.cells) ∧ Below w.heap.size w w' := by
  have HA := Lib.hid ha
  have HB := Lib.hid hb
  have HG := Lib.hid hg
  obtain ⟨ao, ac, hva⟩ := ha.form
  obtain ⟨bo, bc, hvb⟩ := hb.form
  subst hva hvb
  have GR : Hid (∀ W, Calls Tryz.prog 195 #[.slice none 0 0, .int .i64 ((l.length : Int) + (m.length : Int))] W fun e w' =>
      ∃ a cap, e = .returned (.slice a 0 cap) ∧ w'.ownsRow W.heap.size 54 2 (.slice a 0 cap) 0 [] ∧ Below W.heap.size W w') := Lib.hid (fun W => by
    have h := rl_Grow (l.length + m.length) W (by omega)
    rw [Int.natCast_add] at h
    exact h)
  have c0 : w.cell? ⟨g, 0, none⟩ = some (.slice ao l.length ac) := (hg.1 0).trans rfl
  have c1 : w.cell? ⟨g, 1, none⟩ = some (.slice bo m.length bc) := (hg.1 1).trans rfl
  have hgw : g < w.heap.size := hg.2.2
  clear ha hb hg
  go_enter Tryz.func139, Tryz.ntmps139
  go_wp2
  go_loop [3, 11] (fun n i => (n = .int .i64 0 ∧ i = .int .i64 0) ∨ (n = .int .i64 l.length ∧ i = .int .i64 1) ∨ (n = .int .i64 ((l.length : Int) + (m.length : Int)) ∧ i = .int .i64 2)) (fun _ i => 2 - (intOf i).toNat)
  case atStart => exact .inl ⟨rfl, rfl⟩
  case round =>
    obtain ⟨rfl, rfl⟩ | ⟨rfl, rfl⟩ | ⟨rfl, rfl⟩ := hrel
    · have d : decide ((l.length : Int) < 0) = false := by (rw [decide_eq_false_iff_not]; omega)
      have hw : IntKind.i64.wrap ((0 : Int) + (l.length : Int)) = (l.length : Int) := by rw [Int.zero_add]; exact Go.IntWalk.i64_in _ (by omega)
      go_wp2
      exact ⟨.inr (.inl ⟨rfl, rfl⟩), by simp [intOf]⟩
    · have d : decide ((l.length : Int) + (m.length : Int) < 0) = false := by (rw [decide_eq_false_iff_not]; omega)
      have hw : IntKind.i64.wrap ((l.length : Int) + (m.length : Int)) = (l.length : Int) + (m.length : Int) := Go.IntWalk.i64_in _ (by omega)
      go_wp2
      exact ⟨.inr (.inr ⟨rfl, rfl⟩), by simp [intOf]⟩
    · go_wp2_with fail
      refine (GR.out _).mono ?_
      rintro e w1 ⟨a1, cap1, rfl, hown, hb1⟩
      have HO := Lib.hid hown
      have HB1 := Lib.hid hb1
      clear hown hb1 c0 c1 hgw
      go_wp2_with fail
      go_loopw [6, 27] (fun vo i wr => Hid (Below w.heap.size w wr) ∧ ((i = .int .i64 0 ∧ Hid (wr.ownsRow w.heap.size 54 2 vo 0 [])) ∨ (i = .int .i64 1 ∧ Hid (wr.ownsRow w.heap.size 54 2 vo l.length (l.flatMap Rl.cells))) ∨ (i = .int .i64 2 ∧ Hid (wr.ownsRow w.heap.size 54 2 vo (l.length + m.length) ((l ++ m).flatMap Rl.cells))))) (fun _ i _ => 2 - (intOf i).toNat)
      case atStart => exact ⟨HB1, .inl ⟨rfl, HO⟩⟩
      case round =>
        obtain ⟨HBR, ⟨rfl, HOR⟩ | ⟨rfl, HOR⟩ | ⟨rfl, HOR⟩⟩ := hrel
        · have hbk := HG.out.below HBR.out
          have c0 : wr.cell? ⟨g, 0, none⟩ = some (.slice ao l.length ac) := (hbk.1 0).trans rfl
          have hgw : g < wr.heap.size := hbk.2.2
          obtain ⟨xo, xc, rfl⟩ := own_form HOR.out
          clear hbk
          go_wp2_with (at_builtin; refine halt_ ?_)
          unfold Halt_
          refine app_row Tryz.underlying23 rl_info' rfl (by decide) (by decide) rfl _ _ rfl w.heap.size rfl HOR.out rfl (HA.out.below HBR.out) (rls_one _) (by omega) HBR.out.size ?_
          intro a' cap' w3 hown' hgrow
          have HO3 := Lib.hid (show w3.ownsRow w.heap.size 54 2 (.slice a' l.length cap') l.length (l.flatMap Rl.cells) by simpa using hown')
          have HB3 := Lib.hid (below_own HBR.out HOR.out hgrow HBR.out.size (Nat.le_refl _))
          clear hown' hgrow
          go_wp2_with fail
          exact ⟨⟨HB3, .inr (.inl ⟨rfl, HO3⟩)⟩, by simp [intOf]⟩
        · have hbk := HG.out.below HBR.out
          have c1 : wr.cell? ⟨g, 1, none⟩ = some (.slice bo m.length bc) := (hbk.1 1).trans rfl
          have hgw : g < wr.heap.size := hbk.2.2
          obtain ⟨xo, xc, rfl⟩ := own_form HOR.out
          clear hbk
          go_wp2_with (at_builtin; refine halt_ ?_)
          unfold Halt_
          refine app_row Tryz.underlying23 rl_info' rfl (by decide) (by decide) rfl _ _ rfl w.heap.size rfl HOR.out rfl (HB.out.below HBR.out) (rls_one _) (by omega) HBR.out.size ?_
          intro a' cap' w3 hown' hgrow
          have HO3 := Lib.hid (show w3.ownsRow w.heap.size 54 2 (.slice a' (l.length + m.length) cap') (l.length + m.length) ((l ++ m).flatMap Rl.cells) by rw [rl_flat]; exact hown')
          have HB3 := Lib.hid (below_own HBR.out HOR.out hgrow HBR.out.size (Nat.le_refl _))
          clear hown' hgrow
          go_wp2_with fail
          exact ⟨⟨HB3, .inr (.inr ⟨rfl, HO3⟩)⟩, by simp [intOf]⟩
        · obtain ⟨xo, xc, rfl⟩ := own_form HOR.out
          have HS := Lib.hid (Sl.of_own HOR.out)
          go_wp2_with fail
          go_ret
          exact ⟨_, rfl, by rw [List.length_append]; exact HS.out, HBR.out⟩
end Go.Proofs.YtnhkgfgbhedphaaGreatDoor
namespace Go.Proofs.YtnhkgfgbhedphaaGreatDoor
open Go.RowKit Go.Shelf

end Go.Proofs.YtnhkgfgbhedphaaGreatDoor
namespace Go.Proofs.YtnhkgfgbhedphaaGreatDoor
open Go.RowKit Go.Shelf

end Go.Proofs.YtnhkgfgbhedphaaGreatDoor
namespace Go.Proofs.YtnhkgfgbhedphaaGreatDoor
open Go.RowKit Go.Shelf

end Go.Proofs.YtnhkgfgbhedphaaGreatDoor
namespace Go.Proofs.YtnhkgfgbhedphaaGreatDoor
open Go.RowKit Go.Shelf

end Go.Proofs.YtnhkgfgbhedphaaGreatDoor
namespace Go.Proofs.YtnhkgfgbhedphaaGreatDoor
open Go.RowKit Go.Shelf

structure TwoAt (w : World) (A B : Array Value) (wx : World) : Prop where
  a : Blk wx w.heap.size A
  b : Blk wx (w.heap.size + 1) B
  low : Below w.heap.size w wx
theorem TwoAt.later {w wx w' : World} {A B : Array Value} (h : TwoAt w A B wx) (hb : Below wx.heap.size wx w') : TwoAt w A B w' := ⟨h.a.below hb, h.b.below hb, h.low.trans (hb.mono h.low.size)⟩
end Go.Proofs.YtnhkgfgbhedphaaGreatDoor
namespace Go.Proofs.YtnhkgfgbhedphaaGreatDoor
open Go.RowKit Go.Shelf

theorem TwoAt.new (w : World) (A B : Array Value) (t u : TypeId) : TwoAt w A B ((w.alloc (.cells A t)).alloc (.cells B u)) :=
  ⟨(Blk.new w A t).alloc _, by have := Blk.new (w.alloc (.cells A t)) B u; simpa using this, ((Below.refl _ _).alloc (Nat.le_refl _) _).alloc (by simp) _⟩
theorem rl_EqualB (va vb : Value) (l m : List Rl) (w : World) (ha : SlA w 2 va l.length (l.flatMap Rl.cells)) (hb : SlA w 2 vb m.length (m.flatMap Rl.cells)) :
    Calls Tryz.prog 82 #[va, vb] w fun e w' => e = .returned (.bool (decide (l = m))) ∧ Below w.heap.size w w' :=
  (rl_Equal va vb l m w ha hb).mono fun e w' ⟨he, n, hn⟩ => ⟨he, by rw [hn]; exact below_of_drewN n⟩

end Go.Proofs.YtnhkgfgbhedphaaGreatDoor
namespace Go.Proofs.YtnhkgfgbhedphaaGreatDoor
open Go.RowKit Go.Shelf

def want4 : Nat → Int
  | 0 => 2
  | 1 => 1
  | 2 => 3
  | 3 => 2
  | _ => 0
theorem want_get {k : Nat} (h : k < 4) : (#[.int .i64 2, .int .i64 1, .int .i64 3, .int .i64 2] : Array Value)[k]? = some (.int .i64 (want4 k)) := by
  match k, h with
  | 0, _ => rfl
  | 1, _ => rfl
  | 2, _ => rfl
  | 3, _ => rfl
theorem drop_want4 {k : Nat} (h : k < 4) : ([2, 1, 3, 2] : List Int).drop k = want4 k :: ([2, 1, 3, 2] : List Int).drop (k + 1) := by
  match k, h with
  | 0, _ => rfl
  | 1, _ => rfl
  | 2, _ => rfl
  | 3, _ => rfl
theorem bound_go {l : List Tok} {k : Nat} (hlt : k < l.length) (h4 : k < 4) (he : l[k].kind = want4 k) : boundG (([2, 1, 3, 2] : List Int).drop k) (l.drop k) = boundG (([2, 1, 3, 2] : List Int).drop (k + 1)) (l.drop (k + 1)) := by
  rw [List.drop_eq_getElem_cons hlt, drop_want4 h4, boundG, if_pos he]
theorem bound_no {l : List Tok} {k : Nat} (hlt : k < l.length) (h4 : k < 4) (he : ¬ l[k].kind = want4 k) : boundG (([2, 1, 3, 2] : List Int).drop k) (l.drop k) = some l[k].col := by
  rw [List.drop_eq_getElem_cons hlt, drop_want4 h4, boundG, if_neg he]
theorem bound_many {l : List Tok} {k : Nat} (hlt : k < l.length) (h4 : ¬ k < 4) : boundG (([2, 1, 3, 2] : List Int).drop k) (l.drop k) = some l[k].col := by
  rw [List.drop_eq_getElem_cons hlt, List.drop_eq_nil_of_le (by simp; omega)]; rfl
theorem boundT_some {l : List Tok} {e c : Int} (h : boundG [2, 1, 3, 2] l = some c) : boundT l e = (noR, c, 2) := by unfold boundT; rw [h]
theorem boundT_few {l : List Tok} {e : Int} (h : boundG [2, 1, 3, 2] l = none) (h4 : l.length < 4) : boundT l e = (noR, e, 3) := by unfold boundT; rw [h]; exact if_pos h4
theorem boundT_yes {l : List Tok} {e : Int} (h : boundG [2, 1, 3, 2] l = none) (h4 : ¬ l.length < 4) : boundT l e = (⟨txQ l 1, txQ l 3⟩, 0, 0) := by unfold boundT; rw [h]; exact if_neg h4
theorem bound_nil (ks : List Int) : boundG ks [] = none := by cases ks <;> rfl
theorem txQ_at4 {l : List Tok} {i : Nat} (h : i < l.length) : txQ l i = ⟨l[i].text.toArray⟩ := by unfold txQ; rw [List.getD_eq_getElem?_getD, List.getElem?_eq_getElem h]; rfl
set_option maxRecDepth 100000 in
set_option maxHeartbeats 4000000 in
theorem policy_bound (s : ByteArray) (v : Value) (l : List Tok) (w : World) (hs : s.size < 4294967281) (hg : Gl w) (hv : Sl w 3 v l.length (l.flatMap Tok.cells)) :
    Calls Tryz.prog 109 #[.string s, v] w fun e w' => e = .returned (.tuple #[rv (boundT l (endOf s)).1, .int .i64 (boundT l (endOf s)).2.1, .int .i64 (boundT l (endOf s)).2.2]) ∧ Below w.heap.size w w' := by
  have HG := Lib.hid hg
  have hmax := hv.max
  have HC := Lib.hid (fun (W : World) (h : Gl W) => scan_cut s W hs h)
  have HT := Lib.hid (fun W => Tryz.strings_TrimRight_one (⟨(bare (bl s)).toArray⟩) 32 (by decide) W (by simp [ByteArray.size]; have := bare_le (bl s); rw [bl_len] at this; omega))
  have hend : endOf s ≤ 4294967282 := by have := trimRight_le (bare (bl s)) 32; have := bare_le (bl s); rw [bl_len] at this; unfold endOf; omega
  have hend0 : 0 ≤ endOf s := by unfold endOf; omega
  have hE : endOf s = ((Lib.trimRightB (bare (bl s)) 32).length : Int) + 1 := rfl
  generalize endOf s = en at *
  generalize hr : (⟨(Lib.trimRightB (bare (bl s)) 32).toArray⟩ : ByteArray) = tr at HT
  have htr : (tr.size : Int) + 1 = en := by rw [← hr, hE]; rfl
  clear hr hE
  have HV := Lib.hid hv
  have HT0 := Lib.hid (TwoAt.new w #[.string emp, .string emp] #[.int .i64 2, .int .i64 1, .int .i64 3, .int .i64 2] 54 3)
  have RES := Lib.hid (fun c (h : boundG [2, 1, 3, 2] l = some c) => boundT_some (e := en) h)
  have RES2 := Lib.hid (fun (h : boundG [2, 1, 3, 2] l = none) (h4 : l.length < 4) => boundT_few (e := en) h h4)
  have RES3 := Lib.hid (fun (h : boundG [2, 1, 3, 2] l = none) (h4 : ¬ l.length < 4) => boundT_yes (e := en) h h4)
  generalize boundT l en = res at RES RES2 RES3 ⊢
  obtain ⟨va, vc, rfl⟩ := hv.form
  clear hv hg
  go_enter Tryz.func109, Tryz.ntmps109
  go_wp2_with fail
  go_loopw [16] (fun i wr => ∃ k : Nat, k ≤ l.length ∧ k ≤ 4 ∧ i = .int .i64 k ∧ Hid (TwoAt w #[.string emp, .string emp] #[.int .i64 2, .int .i64 1, .int .i64 3, .int .i64 2] wr) ∧ Hid (boundG [2, 1, 3, 2] l = boundG (([2, 1, 3, 2] : List Int).drop k) (l.drop k))) (fun i _ => l.length - (intOf i).toNat)
  case atStart => exact ⟨0, by omega, by omega, rfl, HT0, Lib.hid rfl⟩
  case round =>
    obtain ⟨k, hk, hk4, rfl, TR, HB⟩ := hrel
    by_cases hlt : k < l.length
    · obtain ⟨b1, o1, c1, he1, hc1, hm1, hb1, hx1⟩ := HV.out.pos (by omega)
      simp only [Value.slice.injEq, true_and] at he1
      obtain ⟨rfl, rfl⟩ := he1
      obtain ⟨p0, p1, p2⟩ := tok_cell (w := wr) (Sl.cells_later TR.out.low hb1 hx1) k hlt
      obtain ⟨ca, fa, za⟩ := TR.out.a
      obtain ⟨cb, fb, zb⟩ := TR.out.b
      clear hx1
      have HLOW := Lib.hid TR.out.low
      by_cases h4 : k < 4
      · have d1 : decide ((4 : Int) ≤ (k : Int)) = false := by (rw [decide_eq_false_iff_not]; omega)
        have q0 : wr.cell? ⟨w.heap.size + 1, k, none⟩ = some (.int .i64 (want4 k)) := (cb k).trans (want_get h4)
        have hk4' : k < 4 := h4
        by_cases he : l[k].kind = want4 k
        · have HN := Lib.hid (HB.out.trans (bound_go hlt h4 he))
          have d3 : (l[k].kind != want4 k) = false := by simp [he]
          have TN := Lib.hid (fun n => TR.out.later ((((Below.refl wr.heap.size wr).alloc (Nat.le_refl _) (.cells #[.int .i64 l[k].kind, .string ⟨l[k].text.toArray⟩, .int .i64 l[k].col] 139))).trans ((below_of_drewN n).mono (by simp))))
          clear he cb fb ca fa za
          go_wp2_with fail
          go_big_quiet (fail)
          go_wp2
          exact ⟨⟨k + 1, by omega, by omega, by go_num, Lib.hid (TN.out _), HN⟩, by simp [intOf]; omega⟩
        · have HN := Lib.hid (RES.out _ (HB.out.trans (bound_no hlt h4 he)))
          have d3 : (l[k].kind != want4 k) = true := by simp [he]
          clear he cb fb
          go_wp2_with fail
          go_big_quiet (fail)
          go_wp2_with fail
          go_region
          go_wp2
          refine bodyPost_ret (v := .tuple #[rv noR, .int .i64 l[k].col, .int .i64 2]) (by simp [results, Tryz.results109, go_sem, ca, za, noR]) rfl ⟨by rw [HN.out], ?_⟩
          have hb4 := HLOW.out
          (repeat' (first | with_reducible exact Below.refl _ _ | with_reducible assumption | with_reducible (refine Below.setCell ?_ ?_ _) | with_reducible (refine Below.alloc ?_ ?_ _) | with_reducible (refine below_drew ?_) | with_reducible (refine below_drewN ?_ _) | with_reducible (refine Below.trans ?_ (Below.mono (by assumption) ?_)) | omega | (simp; done) | (simp; omega)))
      · obtain rfl : k = 4 := by omega
        have HN := Lib.hid (RES.out _ (HB.out.trans (bound_many hlt h4)))
        clear cb fb
        go_wp2_with fail
        go_big_quiet (fail)
        go_wp2_with fail
        go_region
        go_wp2
        refine bodyPost_ret (v := .tuple #[rv noR, .int .i64 l[4].col, .int .i64 2]) (by simp [results, Tryz.results109, go_sem, ca, za, noR]) rfl ⟨by rw [HN.out], ?_⟩
        have hb4 := HLOW.out
        (repeat' (first | with_reducible exact Below.refl _ _ | with_reducible assumption | with_reducible (refine Below.setCell ?_ ?_ _) | with_reducible (refine Below.alloc ?_ ?_ _) | with_reducible (refine below_drew ?_) | with_reducible (refine below_drewN ?_ _) | with_reducible (refine Below.trans ?_ (Below.mono (by assumption) ?_)) | omega | (simp; done) | (simp; omega)))
    · have HN : boundG [2, 1, 3, 2] l = none := HB.out.trans (by rw [show l.drop k = [] from List.drop_eq_nil_of_le (by omega)]; exact bound_nil _)
      have HLOW := Lib.hid TR.out.low
      obtain ⟨ca, fa, za⟩ := TR.out.a
      by_cases h4 : l.length < 4
      · have d1 : decide ((l.length : Int) < 4) = true := by (rw [decide_eq_true_iff]; omega)
        have RR := Lib.hid (RES2.out HN h4)
        have hGW := Lib.hid (HG.out.below HLOW.out)
        clear h4 HN
        go_wp2_with fail
        refine (HC.out wr hGW.out).mono ?_
        rintro e w' ⟨x, bb, rfl, n, rfl⟩
        go_wp2_with (go_at_call 152; refine (HT.out _).mono ?_; rintro e w' ⟨rfl, rfl⟩)
        refine bodyPost_ret (v := .tuple #[rv noR, .int .i64 en, .int .i64 3]) (by simp [results, Tryz.results109, go_sem, ca, noR]) rfl ⟨by rw [RR.out], ?_⟩
        have hb4 := HLOW.out
        (repeat' (first | with_reducible exact Below.refl _ _ | with_reducible assumption | with_reducible (refine Below.setCell ?_ ?_ _) | with_reducible (refine Below.alloc ?_ ?_ _) | with_reducible (refine below_drew ?_) | with_reducible (refine below_drewN ?_ _) | with_reducible (refine Below.trans ?_ (Below.mono (by assumption) ?_)) | omega | (simp; done) | (simp; omega)))
      · have d1 : decide ((l.length : Int) < 4) = false := by (rw [decide_eq_false_iff_not]; omega)
        have RR := Lib.hid (RES3.out HN h4)
        have h1 : 1 < l.length := by omega
        have h3 : 3 < l.length := by omega
        obtain ⟨b1, o1, c1, he1, hc1, hm1, hb1, hx1⟩ := HV.out.pos (by omega)
        simp only [Value.slice.injEq, true_and] at he1
        obtain ⟨rfl, rfl⟩ := he1
        obtain ⟨_, p1, _⟩ := tok_cell (w := wr) (Sl.cells_later HLOW.out hb1 hx1) 1 h1
        obtain ⟨_, p3, _⟩ := tok_cell (w := wr) (Sl.cells_later HLOW.out hb1 hx1) 3 h3
        rw [txQ_at4 h1, txQ_at4 h3] at RR
        generalize l[1].text = t1 at *
        generalize l[3].text = t3 at *
        clear h4 HN hx1
        go_wp2_with fail
        go_region
        go_wp2
        refine bodyPost_ret (v := .tuple #[rv ⟨⟨t1.toArray⟩, ⟨t3.toArray⟩⟩, .int .i64 0, .int .i64 0]) (by simp [results, Tryz.results109, go_sem, ca]) rfl ⟨by rw [RR.out], ?_⟩
        have hb4 := HLOW.out
        (repeat' (first | with_reducible exact Below.refl _ _ | with_reducible assumption | with_reducible (refine Below.setCell ?_ ?_ _) | with_reducible (refine Below.alloc ?_ ?_ _) | with_reducible (refine below_drew ?_) | with_reducible (refine below_drewN ?_ _) | with_reducible (refine Below.trans ?_ (Below.mono (by assumption) ?_)) | omega | (simp; done) | (simp; omega)))
end Go.Proofs.YtnhkgfgbhedphaaGreatDoor
namespace Go.Proofs.YtnhkgfgbhedphaaGreatDoor
open Go.RowKit Go.Shelf

set_option maxRecDepth 100000 in
set_option maxHeartbeats 2000000 in
theorem str_IndexC (va : Value) (l : List ByteArray) (s : ByteArray) (w : World) (ha : SlA w 1 va l.length (strs l)) :
    Calls Tryz.prog 254 #[va, .string s] w fun e w' => (∃ i : Int, e = .returned (.int .i64 i) ∧ hasB l s = decide (0 ≤ i)) ∧ w' = w := by
  have HA := Lib.hid ha
  have hmax := ha.max
  obtain ⟨ao, cap, hva⟩ := ha.form
  subst hva
  clear ha
  have HY := Lib.hid (fun k (hk : k < l.length) (e : l[k] = s) => hasB_yes hk e)
  have HN := Lib.hid (fun k (hk : ¬ k < l.length) h => hasB_end (l := l) (s := s) (k := k) hk h)
  generalize hasB l s = res at HY HN ⊢
  go_enter Tryz.func254, Tryz.ntmps254
  go_wp2
  go_loopw [8] (fun i wr => ∃ k : Nat, k ≤ l.length ∧ i = .int .i64 k ∧ Hid (∀ j (hj : j < l.length), j < k → ¬ l[j] = s) ∧ wr = w) (fun i _ => l.length - (intOf i).toNat)
  case atStart => exact ⟨0, by omega, rfl, Lib.hid (fun _ _ h => absurd h (by omega)), rfl⟩
  case round =>
    obtain ⟨k, hk, rfl, HJ, rfl⟩ := hrel
    by_cases hlt : k < l.length
    · obtain ⟨b1, o1, c1, he1, hc1, hm1, hb1, hx1⟩ := HA.out.pos (by omega)
      simp only [Value.slice.injEq, true_and] at he1
      obtain ⟨rfl, rfl⟩ := he1
      have p0 := hx1 k _ (strs_get hlt)
      have YES := Lib.hid (HY.out k hlt)
      have HJ2 : Hid (¬ l[k] = s → ∀ j (hj : j < l.length), j < k + 1 → ¬ l[j] = s) := Lib.hid (fun hpk j hj hjk => by
        by_cases h : j < k
        · exact HJ.out j hj h
        · obtain rfl : j = k := by omega
          exact hpk)
      clear hx1
      generalize l[k] = x at *
      by_cases e : x = s
      · have d : (s.toList == x.toList) = true := by rw [beq_str, e]; exact decide_eq_true rfl
        have d' : (x.toList == s.toList) = true := by rw [beq_str, e]; exact decide_eq_true rfl
        have R := Lib.hid (YES.out e)
        clear e
        go_wp2
        go_ret
        exact ⟨⟨(k : Int), rfl, by rw [R.out, decide_eq_true (Int.natCast_nonneg k)]⟩, rfl⟩
      · have d : (s.toList == x.toList) = false := by rw [beq_str]; exact decide_eq_false (fun h => e h.symm)
        have d' : (x.toList == s.toList) = false := by rw [beq_str]; exact decide_eq_false e
        have HJ3 := Lib.hid (HJ2.out e)
        clear e
        go_wp2
        exact ⟨⟨k + 1, by omega, by go_num, HJ3, by first | rfl | trivial⟩, by simp [intOf]; omega⟩
    · have R := Lib.hid (HN.out k hlt HJ.out)
      go_wp2
      go_ret
      exact ⟨⟨-1, rfl, by rw [R.out]; rfl⟩, rfl⟩
set_option maxHeartbeats 1000000 in
theorem str_ContainsC (va : Value) (l : List ByteArray) (s : ByteArray) (w : World) (ha : SlA w 1 va l.length (strs l)) :
    Calls Tryz.prog 214 #[va, .string s] w fun e w' => e = .returned (.bool (hasB l s)) ∧ w' = w := by
  have I := Lib.hid (str_IndexC va l s w ha)
  generalize hasB l s = res at I ⊢
  clear ha
  go_enter Tryz.func214, Tryz.ntmps214
  go_wp2_with fail
  refine I.out.mono ?_
  rintro e w1 ⟨⟨i, rfl, hi⟩, rfl⟩
  have HI := Lib.hid hi
  clear hi
  go_wp2
  go_ret
  exact ⟨ret_b HI.out.symm, rfl⟩
end Go.Proofs.YtnhkgfgbhedphaaGreatDoor
namespace Go.Proofs.YtnhkgfgbhedphaaGreatDoor
open Go.RowKit Go.Shelf

abbrev tkv (t : Tok) : Value := .agg #[.int .i64 t.kind, .string ⟨t.text.toArray⟩, .int .i64 t.col]
def Rd.failQ (r : Rd) (y : Int) : Rd := if r.why ≠ 0 then r else match r.l with | [] => ⟨[], r.e, r.e, y⟩ | t :: l => ⟨t :: l, r.e, t.col, y⟩
theorem failQ_why (r : Rd) (y : Int) (h : r.why ≠ 0) : r.failQ y = r := if_pos h
theorem failQ_nil (e p y : Int) : (Rd.mk [] e p 0).failQ y = ⟨[], e, e, y⟩ := rfl
theorem failQ_cons (t : Tok) (l : List Tok) (e p y : Int) : (Rd.mk (t :: l) e p 0).failQ y = ⟨t :: l, e, t.col, y⟩ := rfl
set_option maxRecDepth 100000 in
set_option maxHeartbeats 2000000 in
theorem qr_fail (r : Rd) (w0 w : World) (g : Nat) (y : Int) (h : RdAt w0 w g r) :
    Calls Tryz.prog 167 #[.pointer (some ⟨g, 0, none⟩), .int .i64 y] w fun e w' => e = .returned (.tuple #[]) ∧ RdAt w0 w' g (r.failQ y) ∧ w.grownBy w' (some g) := by
  have H := Lib.hid h
  obtain ⟨hlow, hbel, lv, hs, hblk⟩ := h
  obtain ⟨l, e, p, why⟩ := r
  have hg := hblk.2.2
  have c0 := hblk.cell 0 lv rfl
  have c1 := hblk.cell 1 (.int .i64 e) rfl
  have c2 := hblk.cell 2 (.int .i64 p) rfl
  have c3 := hblk.cell 3 (.int .i64 why) rfl
  have f0 := hblk.2.1
  by_cases hw : why = 0
  · subst hw
    have HS := Lib.hid hs
    have HB := Lib.hid hblk
    have HBE := Lib.hid hbel
    cases l with
    | nil =>
      have E := Lib.hid (failQ_nil e p y)
      obtain ⟨a, cap, rfl⟩ := hs.form
      clear hs hblk hbel
      go_enter Tryz.func167, Tryz.ntmps167
      go_wp2
      go_end0
      rw [E.out]
      exact ⟨rfl, ⟨hlow, (HBE.out.setCell hlow _).setCell hlow _, _, HS.out, ((HB.out.set 3 _ (by simp)).set 2 _ (by simp))⟩, gb_setCell (gb_setCell (World.grownBy.refl _ _) _) _⟩
    | cons t tl =>
      obtain ⟨b, off, cap, rfl, hc, hm, hlt, hx⟩ := hs.pos (by simp)
      obtain ⟨t0, t1, t2⟩ := tk_head (Sl.cells_later hbel hlt hx)
      have hbg : ¬ b = g := by omega
      have hbw : b < w.heap.size := by have := hbel.size; omega
      have E := Lib.hid (failQ_cons t tl e p y)
      clear hs hblk hbel hx
      have d1 : decide ((0 : Int) < (tl.length : Int) + 1) = true := by (rw [decide_eq_true_iff]; omega)
      go_enter Tryz.func167, Tryz.ntmps167
      go_wp2
      go_end0
      rw [E.out]
      exact ⟨rfl, ⟨hlow, ((HBE.out.setCell hlow _).setCell hlow _).setCell hlow _, _, HS.out, (((HB.out.set 3 _ (by simp)).set 2 _ (by simp)).set 2 _ (by simp))⟩, gb_setCell (gb_setCell (gb_setCell (World.grownBy.refl _ _) _) _) _⟩
  · have d : (why != 0) = true := by simp [hw]
    have E := Lib.hid (failQ_why ⟨l, e, p, why⟩ y hw)
    clear hw hs hblk hbel
    go_enter Tryz.func167, Tryz.ntmps167
    go_wp2
    exact bodyPost_ret (v := .tuple #[]) (by simp [results, Tryz.results167, go_sem]) rfl ⟨rfl, by rw [E.out]; exact H.out, World.grownBy.refl _ _⟩
theorem want_failQ (e p why : Int) (f : Tok → Bool) : ((Rd.mk [] e p why).want f) = (emp, (Rd.mk [] e p why).failQ 3) ∧ ¬ ((Rd.mk [] e p why).failQ 3).why = 0 := by
  by_cases hw : why = 0
  · subst hw; exact ⟨rfl, by rw [failQ_nil]; exact (by decide : ¬ (3 : Int) = 0)⟩
  · rw [failQ_why _ _ hw, want_why _ _ _ _ _ hw]; exact ⟨rfl, hw⟩
theorem want_noQ (t : Tok) (l : List Tok) (e p why : Int) (f : Tok → Bool) (h : f t = false) : ((Rd.mk (t :: l) e p why).want f) = (emp, (Rd.mk (t :: l) e p why).failQ 2) ∧ ¬ ((Rd.mk (t :: l) e p why).failQ 2).why = 0 := by
  by_cases hw : why = 0
  · subst hw; rw [want_no _ _ _ _ _ h]; exact ⟨rfl, by rw [failQ_cons]; exact (by decide : ¬ (2 : Int) = 0)⟩
  · rw [failQ_why _ _ hw, want_why _ _ _ _ _ hw]; exact ⟨rfl, hw⟩
set_option maxRecDepth 100000 in
set_option maxHeartbeats 4000000 in
theorem qr_want (r : Rd) (w0 w : World) (g fn : Nat) (cb : Array Value) (f : Tok → Bool) (h : RdAt w0 w g r)
    (eg : ∀ args w, (callFunc fn args).run Tryz.prog w = .ok (.enter fn args) w)
    (hp : ∀ t W, Below w.heap.size w W → Calls Tryz.prog fn (#[tkv t] ++ cb) W fun e w' => e = .returned (.bool (f t)) ∧ Below W.heap.size W w') :
    Calls Tryz.prog 212 #[.pointer (some ⟨g, 0, none⟩), .func (.func fn) #[] cb] w fun e w' => e = .returned (.string (r.want f).1) ∧ RdAt w0 w' g (r.want f).2 ∧ w.grownBy w' (some g) := by
  have H := Lib.hid h
  have HP := Lib.hid hp
  have FA := Lib.hid (fun y W (h : RdAt w0 W g r) => qr_fail r w0 W g y h)
  obtain ⟨hlow, hbel, lv, hs, hblk⟩ := h
  obtain ⟨l, e, p, why⟩ := r
  have hg := hblk.2.2
  have c0 := hblk.cell 0 lv rfl
  have c3 := hblk.cell 3 (.int .i64 why) rfl
  have f0 := hblk.2.1
  have HS := Lib.hid hs
  have HB := Lib.hid hblk
  have HBE := Lib.hid hbel
  clear hp
  cases l with
  | nil =>
    obtain ⟨E, E2⟩ := want_failQ e p why f
    rw [E]
    have FA := Lib.hid (fun W h => FA.out 3 W h)
    obtain ⟨a, cap, rfl⟩ := hs.form
    have hsz := hbel.size
    clear hs hblk hbel E
    generalize (Rd.mk [] e p why).failQ 3 = r1 at E2 FA ⊢
    go_enter Tryz.func212, Tryz.ntmps212
    go_wp2_with fail
    refine (FA.out _ H.out).mono ?_
    rintro e1 w1 ⟨rfl, hr1, hg1⟩
    have HR1 := Lib.hid hr1
    obtain ⟨l1, e1, p1, y1⟩ := r1
    obtain ⟨_, _, lv1, _, hb1⟩ := hr1
    have d3 := hb1.cell 3 (.int .i64 y1) rfl
    have dy : (y1 != 0) = true := by simpa using E2
    clear hb1 E2
    go_wp2
    go_ret
    exact ⟨rfl, HR1.out, hg1⟩
  | cons t tl =>
    obtain ⟨b, off, cap, rfl, hc, hm, hlt, hx⟩ := hs.pos (by simp)
    obtain ⟨t0, t1, t2⟩ := tk_head (Sl.cells_later hbel hlt hx)
    have HX := Lib.hid hx
    have HL := Lib.hid hc
    have hsz := hbel.size
    have hbw : b < w.heap.size := by omega
    have hbg : ¬ b = g := by omega
    have d1 : decide ((0 : Int) < (tl.length : Int) + 1) = true := by (rw [decide_eq_true_iff]; omega)
    clear hs hblk hbel hx
    cases hf : f t with
    | false =>
      obtain ⟨E, E2⟩ := want_noQ t tl e p why f hf
      rw [E]
      clear E
      have FA := Lib.hid (fun W h => FA.out 2 W h)
      generalize (Rd.mk (t :: tl) e p why).failQ 2 = r1 at E2 FA ⊢
      have HF := Lib.hid hf
      clear hf
      go_enter Tryz.func212, Tryz.ntmps212
      go_wp2_with fail
      refine (HP.out t _ (Below.refl _ _)).mono ?_
      rintro e1 w1 ⟨rfl, hb1⟩
      rw [HF.out]
      have HG1 := Lib.hid (gb_of_below (r := some g) hb1)
      have HT1 := Lib.hid (H.out.later hb1)
      clear hb1
      go_wp2_with fail
      refine (FA.out _ HT1.out).mono ?_
      rintro e2 w2 ⟨rfl, hr2, hg2⟩
      have HR2 := Lib.hid hr2
      have HG2 := Lib.hid (gb_trans HG1.out hg2)
      obtain ⟨l1, e1, p1, y1⟩ := r1
      obtain ⟨_, _, lv1, _, hb2⟩ := hr2
      have d3 := hb2.cell 3 (.int .i64 y1) rfl
      have dy : (y1 != 0) = true := by simpa using E2
      clear hb2 E2 hg2
      go_wp2
      go_ret
      exact ⟨rfl, HR2.out, HG2.out⟩
    | true =>
      have HF := Lib.hid hf
      by_cases hw : why = 0
      · subst hw
        have E := Lib.hid (want_yes t tl e p f hf)
        clear hf
        go_enter Tryz.func212, Tryz.ntmps212
        go_wp2_with fail
        refine (HP.out t _ (Below.refl _ _)).mono ?_
        rintro e1 w1 ⟨rfl, hb1⟩
        rw [HF.out]
        have HG1 := Lib.hid (gb_of_below (r := some g) hb1)
        have HT1 := Lib.hid (H.out.later hb1)
        have HB1 := Lib.hid (HB.out.below hb1)
        have t0 := (hb1.cell (p := ⟨b, off, none⟩) hbw).trans t0
        have t1 := (hb1.cell (p := ⟨b, off + 1, none⟩) hbw).trans t1
        have t2 := (hb1.cell (p := ⟨b, off + 2, none⟩) hbw).trans t2
        have c0 := HB1.out.cell 0 _ rfl
        have c3 := HB1.out.cell 3 _ rfl
        have f0 := HB1.out.2.1
        have hg := HB1.out.2.2
        have hbw : b < w1.heap.size := Nat.lt_of_lt_of_le hbw hb1.size
        have hsz1 := HT1.out.below.size
        clear hb1
        go_wp2
        · go_ret
          rw [E.out]
          refine ⟨rfl, ⟨hlow, ?_, _, ?_, ((HB1.out.set 0 _ (by simp)).alloc _)⟩, gb_trans HG1.out (gb_alloc (gb_setCell (World.grownBy.refl _ _) _) _)⟩
          · exact (HT1.out.below.setCell hlow _).alloc (by simpa [World.setCell] using hsz1) _
          · obtain rfl : tl = [] := List.eq_nil_of_length_eq_zero (by have := HL.out; simp at this; omega)
            exact ⟨rfl, by simp [maxLen], .inr ⟨b, off, 0, rfl, Nat.le_refl _, by simp [maxLen], hlt, fun j u hu => by simp at hu⟩⟩
        · go_ret
          rw [E.out]
          refine ⟨rfl, ⟨hlow, ?_, _, ?_, ((HB1.out.set 0 _ (by simp)).alloc _)⟩, gb_trans HG1.out (gb_alloc (gb_setCell (World.grownBy.refl _ _) _) _)⟩
          · exact (HT1.out.below.setCell hlow _).alloc (by simpa [World.setCell] using hsz1) _
          · exact Sl.tail HL.out hm hlt HX.out
      · have d : (why != 0) = true := by simp [hw]
        have E := Lib.hid (want_why (t :: tl) e p why f hw)
        clear hw hf
        go_enter Tryz.func212, Tryz.ntmps212
        go_wp2_with fail
        refine (HP.out t _ (Below.refl _ _)).mono ?_
        rintro e1 w1 ⟨rfl, hb1⟩
        rw [HF.out]
        have HG1 := Lib.hid (gb_of_below (r := some g) hb1)
        have HT1 := Lib.hid (H.out.later hb1)
        have c3 := (HB.out.below hb1).cell 3 _ rfl
        clear hb1
        go_wp2
        go_ret
        rw [E.out]
        exact ⟨rfl, HT1.out, HG1.out⟩

set_option maxRecDepth 100000 in
set_option maxHeartbeats 2000000 in
theorem qr_kind1 (t : Tok) (k : Int) (c : Nat) (w : World) (hc : w.cell? ⟨c, 0, none⟩ = some (.int .i64 k)) (hlt : c < w.heap.size) :
    Calls Tryz.prog 255 #[tkv t, .pointer (some ⟨c, 0, none⟩)] w fun e w' => e = .returned (.bool (decide (t.kind = k))) ∧ Below w.heap.size w w' := by
  have hd : (t.kind == k) = decide (t.kind = k) := by by_cases h : t.kind = k <;> simp [h]
  have HD := Lib.hid hd
  clear hd
  go_enter Tryz.func255, Tryz.ntmps255
  go_wp2
  go_ret
  exact ⟨ret_b HD.out, (Below.refl _ _).alloc (Nat.le_refl _) _⟩
theorem take_want (r : Rd) (k : Int) : r.take k = r.want (fun t => decide (t.kind = k)) := by
  unfold Rd.take Rd.want
  cases r.l with
  | nil => rfl
  | cons t l =>
    by_cases h : t.kind = k
    · simp only [h, decide_true, if_true]; rfl
    · simp only [h, decide_false, Bool.false_eq_true, if_false]
set_option maxRecDepth 100000 in
set_option maxHeartbeats 2000000 in
theorem qr_kind (r : Rd) (w0 w : World) (g : Nat) (k : Int) (h : RdAt w0 w g r) :
    Calls Tryz.prog 215 #[.pointer (some ⟨g, 0, none⟩), .int .i64 k] w fun e w' => e = .returned (.string (r.take k).1) ∧ RdAt w0 w' g (r.take k).2 ∧ w.grownBy w' (some g) := by
  have HW := Lib.hid (qr_want r w0 (w.alloc (.cells #[.int .i64 k] 3)) g 255 #[.pointer (some ⟨w.heap.size, 0, none⟩)] (fun t => decide (t.kind = k)) (h.alloc _) (enters_of Tryz.func255 (by kernel_rfl) rfl)
    (fun t W hb => qr_kind1 t k w.heap.size W (by
      rw [hb.cell (p := ⟨w.heap.size, 0, none⟩) (by simp)]
      exact (Blk.new w #[.int .i64 k] 3).cell 0 _ rfl) (Nat.lt_of_lt_of_le (by simp) hb.size)))
  rw [← take_want] at HW
  generalize r.take k = res at HW ⊢
  clear h
  go_enter Tryz.func215, Tryz.ntmps215
  go_wp2_with fail
  refine HW.out.mono ?_
  rintro e w1 ⟨rfl, hr1, hg1⟩
  have HR := Lib.hid hr1
  have HG := Lib.hid (gb_trans (gb_alloc (World.grownBy.refl w _) _) hg1)
  clear hr1 hg1
  go_wp2
  go_ret
  exact ⟨rfl, HR.out, HG.out⟩
set_option maxRecDepth 100000 in
set_option maxHeartbeats 2000000 in
theorem qr_word1 (t : Tok) (v : Value) (ws : List ByteArray) (c : Nat) (w : World) (hc : w.cell? ⟨c, 0, none⟩ = some v) (hlt : c < w.heap.size) (hv : SlA w 1 v ws.length (strs ws)) :
    Calls Tryz.prog 213 #[tkv t, .pointer (some ⟨c, 0, none⟩)] w fun e w' => e = .returned (.bool (wordIn ws t)) ∧ Below w.heap.size w w' := by
  have HC := Lib.hid (fun W (h : Below w.heap.size w W) => str_ContainsC v ws t.tx W (hv.below h))
  have HE := Lib.hid (show wordIn ws t = (decide (t.kind = 2) && hasB ws t.tx) from rfl)
  obtain ⟨a, cap, rfl⟩ := hv.form
  have HB := Lib.hid (show Below w.heap.size w (w.alloc (.cells #[.int .i64 t.kind, .string ⟨t.text.toArray⟩, .int .i64 t.col] 139)) from (Below.refl _ _).alloc (Nat.le_refl _) _)
  clear hv
  by_cases h2 : t.kind = 2
  · have d : (t.kind == 2) = true := by simp [h2]
    have HE := Lib.hid (show wordIn ws t = hasB ws t.tx by rw [HE.out, decide_eq_true h2]; rfl)
    generalize wordIn ws t = res at *
    generalize hasB ws t.tx = hb at *
    clear h2
    go_enter Tryz.func213, Tryz.ntmps213
    go_wp2_with fail
    refine (HC.out _ HB.out).mono ?_
    rintro e w1 ⟨rfl, rfl⟩
    go_wp2
    go_ret
    exact ⟨ret_b HE.out.symm, HB.out⟩
  · have d : (t.kind == 2) = false := by simp [h2]
    have HE := Lib.hid (show wordIn ws t = false by rw [HE.out, decide_eq_false h2]; rfl)
    generalize wordIn ws t = res at *
    clear h2
    go_enter Tryz.func213, Tryz.ntmps213
    go_wp2
    go_ret
    exact ⟨ret_b HE.out.symm, HB.out⟩
set_option maxRecDepth 100000 in
set_option maxHeartbeats 2000000 in
theorem qr_word (r : Rd) (w0 w : World) (g : Nat) (v : Value) (ws : List ByteArray) (h : RdAt w0 w g r) (hv : SlA w 1 v ws.length (strs ws)) :
    Calls Tryz.prog 163 #[.pointer (some ⟨g, 0, none⟩), v] w fun e w' => e = .returned (.string (r.word ws).1) ∧ RdAt w0 w' g (r.word ws).2 ∧ w.grownBy w' (some g) := by
  have HW := Lib.hid (qr_want r w0 (w.alloc (.cells #[v] 27)) g 213 #[.pointer (some ⟨w.heap.size, 0, none⟩)] (wordIn ws) (h.alloc _) (enters_of Tryz.func213 (by kernel_rfl) rfl)
    (fun t W hb => qr_word1 t v ws w.heap.size W (by
      rw [hb.cell (p := ⟨w.heap.size, 0, none⟩) (by simp)]
      exact (Blk.new w #[v] 27).cell 0 _ rfl) (Nat.lt_of_lt_of_le (by simp) hb.size) ((hv.below ((Below.refl _ _).alloc (Nat.le_refl _) _)).below hb)))
  rw [show r.want (wordIn ws) = r.word ws from rfl] at HW
  generalize r.word ws = res at HW ⊢
  obtain ⟨a, cap, rfl⟩ := hv.form
  clear h hv
  go_enter Tryz.func163, Tryz.ntmps163
  go_wp2_with fail
  refine HW.out.mono ?_
  rintro e w1 ⟨rfl, hr1, hg1⟩
  have HR := Lib.hid hr1
  have HG := Lib.hid (gb_trans (gb_alloc (World.grownBy.refl w _) _) hg1)
  clear hr1 hg1
  go_wp2
  go_ret
  exact ⟨rfl, HR.out, HG.out⟩
theorem qkind_pair {r : Rd} {k : Int} {x : ByteArray} {r' : Rd} (h : r.take k = (x, r')) (w0 w : World) (g : Nat) (ha : RdAt w0 w g r) :
    Calls Tryz.prog 215 #[.pointer (some ⟨g, 0, none⟩), .int .i64 k] w fun e w' => e = .returned (.string x) ∧ RdAt w0 w' g r' ∧ w.grownBy w' (some g) := by
  have := qr_kind r w0 w g k ha
  rw [h] at this
  exact this
set_option maxRecDepth 100000 in
set_option maxHeartbeats 1000000 in
theorem qr_role (r : Rd) (w0 w : World) (g : Nat) (h : RdAt w0 w g r) :
    Calls Tryz.prog 164 #[.pointer (some ⟨g, 0, none⟩)] w fun e w' => e = .returned (rv r.role.1) ∧ RdAt w0 w' g r.role.2 ∧ w.grownBy w' (some g) := by
  have hlt := h.lt
  have hlow := h.below.size
  have E := Lib.hid (show r.role = (⟨(r.take 1).1, (((r.take 1).2.take 3).2.take 2).1⟩, (((r.take 1).2.take 3).2.take 2).2) from rfl)
  cases h1 : r.take 1 with | mk x1 r1 =>
  rw [h1] at E; dsimp only at E
  cases h2 : r1.take 3 with | mk x2 r2 =>
  rw [h2] at E; dsimp only at E
  cases h3 : r2.take 2 with | mk x3 r3 =>
  rw [h3] at E; dsimp only at E
  have T1 := Lib.hid (qkind_pair h1 w0)
  have T2 := Lib.hid (qkind_pair h2 w0)
  have T3 := Lib.hid (qkind_pair h3 w0)
  clear h1 h2 h3
  have hne : some w.heap.size ≠ some g := fun e => by cases e; omega
  have hng : g ≠ w.heap.size := fun e => by omega
  go_enter Tryz.func164, Tryz.ntmps164
  go_wp2_with (first
    | (go_at_call 215; (with_reducible refine (T1.out _ g ?_).mono ?_); exact h.alloc _; rintro e w1 ⟨rfl, hr1, hg1⟩; have HB1 := (Blk.new _ _ _).grown hg1 hne; obtain ⟨ca, fa, za⟩ := id HB1)
    | (go_at_call 215; (with_reducible refine (T2.out _ g ?_).mono ?_); exact hr1.set _ hng hlow; rintro e w2 ⟨rfl, hr2, hg2⟩; have HB2 := (HB1.set 0 (.string x1) Nat.zero_lt_two).grown hg2 hne; obtain ⟨ca2, fa2, za2⟩ := id HB2)
    | (go_at_call 215; (with_reducible refine (T3.out _ g ?_).mono ?_); exact hr2; rintro e w3 ⟨rfl, hr3, hg3⟩; have HB3 := HB2.grown hg3 hne; obtain ⟨ca3, fa3, za3⟩ := id HB3))
  refine bodyPost_ret (v := rv ⟨x1, x3⟩) (by simp [results, Tryz.results164, go_sem, ca3]) rfl ⟨by rw [E.out], ?_, ?_⟩
  · rw [E.out]
    exact ((hr3.set _ hng hlow).set _ hng hlow).set _ hng hlow
  · refine gb_new (gb_new (gb_new ?_ (Nat.le_refl _) _) (Nat.le_refl _) _) (Nat.le_refl _) _
    exact gb_trans (gb_trans (gb_new (gb_trans (gb_alloc (World.grownBy.refl _ _) _) hg1) (Nat.le_refl _) _) hg2) hg3
end Go.Proofs.YtnhkgfgbhedphaaGreatDoor
namespace Go.Proofs.YtnhkgfgbhedphaaGreatDoor
open Go.RowKit Go.Shelf

def firstW (k : Int) : ByteArray := if k = 1 then wHas else if k = 2 then wHave else if k = 3 then wWithin else if k = 4 then wBe else if k = 5 then wApart else wIn
theorem six_of_int {k : Int} (h1 : 1 ≤ k) (h6 : k ≤ 6) : k = 1 ∨ k = 2 ∨ k = 3 ∨ k = 4 ∨ k = 5 ∨ k = 6 := by omega
theorem wordsL_one {k : Int} (h1 : 1 ≤ k) (h6 : k ≤ 6) (h4 : ¬ k = 4) : wordsL k = [firstW k] := by
  rcases six_of_int h1 h6 with rfl | rfl | rfl | rfl | rfl | rfl <;> first | rfl | exact absurd rfl h4
theorem kindW_first {k : Int} (h1 : 1 ≤ k) (h6 : k ≤ 6) : kindW (firstW k) = k := by
  rcases six_of_int h1 h6 with rfl | rfl | rfl | rfl | rfl | rfl <;> decide
theorem kindW_none {s : ByteArray} (h : ∀ i : Int, 1 ≤ i → i < 7 → ¬ firstW i = s) : kindW s = 0 := by
  have n : ∀ i : Int, 1 ≤ i → i < 7 → ¬ s = firstW i := fun i h1 h7 e => h i h1 h7 e.symm
  unfold kindW
  rw [if_neg (show ¬ s = wHas from n 1 (by decide) (by decide)), if_neg (show ¬ s = wHave from n 2 (by decide) (by decide)), if_neg (show ¬ s = wWithin from n 3 (by decide) (by decide)), if_neg (show ¬ s = wBe from n 4 (by decide) (by decide)), if_neg (show ¬ s = wApart from n 5 (by decide) (by decide)), if_neg (show ¬ s = wIn from n 6 (by decide) (by decide))]
def WordsR (k : Int) (w : World) (e : Ending) (w' : World) : Prop := ∃ b : Nat, w.heap.size ≤ b ∧ e = .returned (.slice (some ⟨b, 0, none⟩) (wordsL k).length (wordsL k).length) ∧ w'.heap[b]? = some (.cells (strs (wordsL k)).toArray 9 (0, 0)) ∧ Below w.heap.size w w'
set_option maxRecDepth 100000 in
set_option maxHeartbeats 2000000 in
theorem query_Words (q : Qv) (h1 : 1 ≤ q.k) (h6 : q.k ≤ 6) (w : World) : Calls Tryz.prog 122 #[qv q] w fun e w' => WordsR q.k w e w' := by
  obtain ⟨k, ⟨a1, a2⟩, ⟨b1, b2⟩, v⟩ := q
  dsimp only at h1 h6
  have fin : ∀ (cs : Array Value), Below w.heap.size w ((w.alloc (.cells #[.int .i64 k, .string a1, .string a2, .string b1, .string b2, v] 66)).alloc (.cells cs 9)) := fun cs => ((Below.refl _ _).alloc (Nat.le_refl _) _).alloc (by simp) _
  have new : ∀ (cs : Array Value), ((w.alloc (.cells #[.int .i64 k, .string a1, .string a2, .string b1, .string b2, v] 66)).alloc (.cells cs 9)).heap[w.heap.size + 1]? = some (.cells cs 9 (0, 0)) := fun cs => by
    have := heap_alloc_new (w.alloc (.cells #[.int .i64 k, .string a1, .string a2, .string b1, .string b2, v] 66)) (.cells cs 9)
    simpa using this
  have FIN := Lib.hid fin
  have NEW := Lib.hid new
  clear fin new
  rcases six_of_int h1 h6 with rfl | rfl | rfl | rfl | rfl | rfl
  all_goals (
    go_enter Tryz.func122, Tryz.ntmps122
    go_wp2
    go_ret
    exact ⟨w.heap.size + 1, by omega, rfl, NEW.out _, FIN.out _⟩)
set_option maxRecDepth 100000 in
set_option maxHeartbeats 8000000 in
theorem qr_ask (r : Rd) (u : Bool) (w0 w : World) (g : Nat) (h : RdAt w0 w g r) :
    Calls Tryz.prog 165 #[.pointer (some ⟨g, 0, none⟩), .bool u] w fun e w' => e = .returned (.int .i64 (r.ask u).1) ∧ RdAt w0 w' g (r.ask u).2 ∧ w.grownBy w' (some g) := by
  cases u with
  | false =>
    obtain ⟨W, hW⟩ : ∃ W, W = w.alloc (.cells #[.string wHave, .string wBe] 9) := ⟨_, rfl⟩
    have hb1 : Below w.heap.size w W := by rw [hW]; exact (Below.refl _ _).alloc (Nat.le_refl _) _
    have HWD := Lib.hid (qr_word r w0 W g (.slice (some ⟨w.heap.size, 0, none⟩) 2 2) [wHave, wBe] (h.later hb1) (by rw [hW]; exact (Sl.new1 w [.string wHave, .string wBe] 9 w.heap.size 2 rfl rfl (by decide)).a))
    have GB := Lib.hid (gb_of_below (r := some g) hb1)
    clear h hb1
    subst hW
    go_enter Tryz.func165, Tryz.ntmps165
    go_wp2_with fail
    refine HWD.out.mono ?_
    rintro e w1 ⟨rfl, hr1, hg1⟩
    have HR := Lib.hid hr1
    have HG := Lib.hid (gb_trans GB.out hg1)
    clear hr1 hg1 HWD GB
    have RES := Lib.hid (show (r.ask false) = (kindW (r.word (askW false)).1, if kindW (r.word (askW false)).1 = 4 then ((r.word (askW false)).2.word [wEmpty]).2 else (r.word (askW false)).2) from rfl)
    rw [show r.word [wHave, wBe] = r.word (askW false) from rfl] at HR ⊢
    generalize r.word (askW false) = p at HR RES ⊢
    obtain ⟨s, r1⟩ := p
    dsimp only at HR RES ⊢
    go_wp2_with fail
    go_loopw [7] (fun i wr => ∃ j : Int, 1 ≤ j ∧ j ≤ 7 ∧ i = .int .i64 j ∧ Hid (RdAt w0 wr g r1) ∧ Hid (w.grownBy wr (some g)) ∧ Hid (∀ i : Int, 1 ≤ i → i < j → ¬ firstW i = s)) (fun i _ => 7 - (intOf i).toNat)
    case atStart => exact ⟨1, by omega, by omega, rfl, HR, HG, Lib.hid (fun i h1 h2 => by omega)⟩
    case round =>
      clear HR HG
      obtain ⟨j, hj1, hj7, rfl, HR, HG, HN⟩ := hrel
      by_cases hj : j ≤ 6
      · have HW := Lib.hid (query_Words ⟨j, noR, noR, .slice none 0 0⟩ hj1 hj wr)
        go_wp2_with fail
        refine HW.out.mono ?_
        rintro e w2 ⟨b, hb, rfl, hcell, hbel⟩
        have HR2 := Lib.hid (HR.out.later hbel)
        have HG2 := Lib.hid (gb_trans HG.out (gb_of_below (r := some g) hbel))
        have hlt2 : b < w2.heap.size := (Array.getElem?_eq_some_iff.1 hcell).1
        clear HW hbel
        by_cases h4 : j = 4
        · subst h4
          have q0 : w2.cell? ⟨b, 0, none⟩ = some (.string (firstW 4)) := by rw [cell_of_row _ b 0 _ _ _ hcell]; rfl
          have q1 : w2.cell? ⟨b, 1, none⟩ = some (.string wEmpty) := by rw [cell_of_row _ b 1 _ _ _ hcell]; rfl
          rw [show (wordsL 4).length = 2 from rfl]
          clear hcell
          by_cases he : firstW 4 = s
          · have R2 := Lib.hid (show r.ask false = (4, (r1.word [wEmpty]).2) by rw [RES.out, ← he, kindW_first (by decide) (by decide)]; rfl)
            have d : ((firstW 4).toList == s.toList) = true := by rw [beq_str, he]; exact decide_eq_true rfl
            clear he RES
            go_wp2_with fail
            go_loopw [32] (fun i wr => (i = .int .i64 0 ∧ wr = w2) ∨ (i = .int .i64 1 ∧ RdAt w0 wr g (r1.word [wEmpty]).2 ∧ w.grownBy wr (some g))) (fun i _ => 2 - (intOf i).toNat)
            case atStart => exact .inl ⟨rfl, rfl⟩
            case round =>
              rcases hrel with ⟨rfl, rfl⟩ | ⟨rfl, hr, hgb⟩
              · have HB := Lib.hid (show Below wr.heap.size wr (wr.alloc (.cells #[.string wEmpty] 9)) from (Below.refl _ _).alloc (Nat.le_refl _) _)
                have HWD := Lib.hid (qr_word r1 w0 (wr.alloc (.cells #[.string wEmpty] 9)) g (.slice (some ⟨wr.heap.size, 0, none⟩) 1 1) [wEmpty] (HR2.out.later HB.out) (Sl.new1 wr [.string wEmpty] 9 wr.heap.size 1 rfl rfl (by decide)).a)
                go_wp2_with fail
                refine HWD.out.mono ?_
                rintro e w3 ⟨rfl, hr3, hg3⟩
                have HR3 := Lib.hid hr3
                have HG3 := Lib.hid (gb_trans (gb_trans HG2.out (gb_of_below (r := some g) HB.out)) hg3)
                clear hr3 hg3 HWD
                go_wp2
                exact ⟨.inr ⟨rfl, HR3.out, HG3.out⟩, by simp [intOf]⟩
              · have HR3 := Lib.hid hr
                have HG3 := Lib.hid hgb
                clear hr hgb
                go_wp2
                go_ret
                rw [R2.out]
                exact ⟨rfl, HR3.out, HG3.out⟩
          · have d : ((firstW 4).toList == s.toList) = false := by rw [beq_str]; exact decide_eq_false he
            have HN2 := Lib.hid (fun (i : Int) (h1 : 1 ≤ i) (h2 : i < 5) => show ¬ firstW i = s by
              by_cases h : i < 4
              · exact HN.out i h1 h
              · obtain rfl : i = 4 := by omega
                exact he)
            clear he
            go_wp2
            exact ⟨⟨5, by omega, by omega, rfl, HR2, HG2, HN2⟩, by simp [intOf]⟩
        · have q0 : w2.cell? ⟨b, 0, none⟩ = some (.string (firstW j)) := by rw [cell_of_row _ b 0 _ _ _ hcell]; rw [wordsL_one hj1 hj h4]; rfl
          rw [show (wordsL j).length = 1 by rw [wordsL_one hj1 hj h4]; rfl]
          clear hcell
          have KF := Lib.hid (kindW_first hj1 hj)
          by_cases he : firstW j = s
          · have R2 := Lib.hid (show r.ask false = (j, r1) by rw [RES.out, ← he, KF.out, if_neg h4])
            have d : ((firstW j).toList == s.toList) = true := by rw [beq_str, he]; exact decide_eq_true rfl
            clear he RES KF
            generalize firstW j = fw at *
            go_wp2_with fail
            go_loopw [32] (fun i wr => i = .int .i64 0 ∧ wr = w2) (fun i _ => 0)
            case atStart => exact ⟨rfl, rfl⟩
            case round =>
              obtain ⟨rfl, rfl⟩ := hrel
              go_wp2
              go_ret
              rw [R2.out]
              exact ⟨rfl, HR2.out, HG2.out⟩
          · have d : ((firstW j).toList == s.toList) = false := by rw [beq_str]; exact decide_eq_false he
            have HN2 := Lib.hid (fun (i : Int) (h1 : 1 ≤ i) (h2 : i < j + 1) => show ¬ firstW i = s by
              by_cases h : i < j
              · exact HN.out i h1 h
              · obtain rfl : i = j := by omega
                exact he)
            clear he KF
            generalize firstW j = fw at q0 d
            go_wp2
            exact ⟨⟨j + 1, by omega, by omega, rfl, HR2, HG2, HN2⟩, by simp [intOf]; omega⟩
      · obtain rfl : j = 7 := by omega
        have R2 := Lib.hid (show r.ask false = (0, r1) by rw [RES.out, kindW_none HN.out]; rfl)
        go_wp2
        go_ret
        rw [R2.out]
        exact ⟨rfl, HR.out, HG.out⟩
  | true =>
    obtain ⟨W0, hW0⟩ : ∃ W, W = w.alloc (.cells #[.string wHave, .string wBe] 9) := ⟨_, rfl⟩
    obtain ⟨W, hW⟩ : ∃ W, W = W0.alloc (.cells #[.string wHas, .string wWithin, .string wApart, .string wIn] 9) := ⟨_, rfl⟩
    have hb0 : Below w.heap.size w W0 := by rw [hW0]; exact (Below.refl _ _).alloc (Nat.le_refl _) _
    have hb1 : Below w.heap.size w W := by rw [hW]; exact hb0.alloc hb0.size _
    have hs0 : W0.heap.size = w.heap.size + 1 := by rw [hW0]; simp
    have HWD := Lib.hid (qr_word r w0 W g (.slice (some ⟨w.heap.size + 1, 0, none⟩) 4 4) [wHas, wWithin, wApart, wIn] (h.later hb1) (by rw [hW]; exact (Sl.new1 W0 [.string wHas, .string wWithin, .string wApart, .string wIn] 9 (w.heap.size + 1) 4 hs0.symm rfl (by decide)).a))
    have GB := Lib.hid (gb_of_below (r := some g) hb1)
    clear h hb1 hb0 hs0
    subst hW hW0
    go_enter Tryz.func165, Tryz.ntmps165
    go_wp2_with fail
    refine HWD.out.mono ?_
    rintro e w1 ⟨rfl, hr1, hg1⟩
    have HR := Lib.hid hr1
    have HG := Lib.hid (gb_trans GB.out hg1)
    clear hr1 hg1 HWD GB
    have RES := Lib.hid (show (r.ask true) = (kindW (r.word (askW true)).1, if kindW (r.word (askW true)).1 = 4 then ((r.word (askW true)).2.word [wEmpty]).2 else (r.word (askW true)).2) from rfl)
    rw [show r.word [wHas, wWithin, wApart, wIn] = r.word (askW true) from rfl] at HR ⊢
    generalize r.word (askW true) = p at HR RES ⊢
    obtain ⟨s, r1⟩ := p
    dsimp only at HR RES ⊢
    go_wp2_with fail
    go_loopw [7] (fun i wr => ∃ j : Int, 1 ≤ j ∧ j ≤ 7 ∧ i = .int .i64 j ∧ Hid (RdAt w0 wr g r1) ∧ Hid (w.grownBy wr (some g)) ∧ Hid (∀ i : Int, 1 ≤ i → i < j → ¬ firstW i = s)) (fun i _ => 7 - (intOf i).toNat)
    case atStart => exact ⟨1, by omega, by omega, rfl, HR, HG, Lib.hid (fun i h1 h2 => by omega)⟩
    case round =>
      clear HR HG
      obtain ⟨j, hj1, hj7, rfl, HR, HG, HN⟩ := hrel
      by_cases hj : j ≤ 6
      · have HW := Lib.hid (query_Words ⟨j, noR, noR, .slice none 0 0⟩ hj1 hj wr)
        go_wp2_with fail
        refine HW.out.mono ?_
        rintro e w2 ⟨b, hb, rfl, hcell, hbel⟩
        have HR2 := Lib.hid (HR.out.later hbel)
        have HG2 := Lib.hid (gb_trans HG.out (gb_of_below (r := some g) hbel))
        have hlt2 : b < w2.heap.size := (Array.getElem?_eq_some_iff.1 hcell).1
        clear HW hbel
        by_cases h4 : j = 4
        · subst h4
          have q0 : w2.cell? ⟨b, 0, none⟩ = some (.string (firstW 4)) := by rw [cell_of_row _ b 0 _ _ _ hcell]; rfl
          have q1 : w2.cell? ⟨b, 1, none⟩ = some (.string wEmpty) := by rw [cell_of_row _ b 1 _ _ _ hcell]; rfl
          rw [show (wordsL 4).length = 2 from rfl]
          clear hcell
          by_cases he : firstW 4 = s
          · have R2 := Lib.hid (show r.ask true = (4, (r1.word [wEmpty]).2) by rw [RES.out, ← he, kindW_first (by decide) (by decide)]; rfl)
            have d : ((firstW 4).toList == s.toList) = true := by rw [beq_str, he]; exact decide_eq_true rfl
            clear he RES
            go_wp2_with fail
            go_loopw [32] (fun i wr => (i = .int .i64 0 ∧ wr = w2) ∨ (i = .int .i64 1 ∧ RdAt w0 wr g (r1.word [wEmpty]).2 ∧ w.grownBy wr (some g))) (fun i _ => 2 - (intOf i).toNat)
            case atStart => exact .inl ⟨rfl, rfl⟩
            case round =>
              rcases hrel with ⟨rfl, rfl⟩ | ⟨rfl, hr, hgb⟩
              · have HB := Lib.hid (show Below wr.heap.size wr (wr.alloc (.cells #[.string wEmpty] 9)) from (Below.refl _ _).alloc (Nat.le_refl _) _)
                have HWD := Lib.hid (qr_word r1 w0 (wr.alloc (.cells #[.string wEmpty] 9)) g (.slice (some ⟨wr.heap.size, 0, none⟩) 1 1) [wEmpty] (HR2.out.later HB.out) (Sl.new1 wr [.string wEmpty] 9 wr.heap.size 1 rfl rfl (by decide)).a)
                go_wp2_with fail
                refine HWD.out.mono ?_
                rintro e w3 ⟨rfl, hr3, hg3⟩
                have HR3 := Lib.hid hr3
                have HG3 := Lib.hid (gb_trans (gb_trans HG2.out (gb_of_below (r := some g) HB.out)) hg3)
                clear hr3 hg3 HWD
                go_wp2
                exact ⟨.inr ⟨rfl, HR3.out, HG3.out⟩, by simp [intOf]⟩
              · have HR3 := Lib.hid hr
                have HG3 := Lib.hid hgb
                clear hr hgb
                go_wp2
                go_ret
                rw [R2.out]
                exact ⟨rfl, HR3.out, HG3.out⟩
          · have d : ((firstW 4).toList == s.toList) = false := by rw [beq_str]; exact decide_eq_false he
            have HN2 := Lib.hid (fun (i : Int) (h1 : 1 ≤ i) (h2 : i < 5) => show ¬ firstW i = s by
              by_cases h : i < 4
              · exact HN.out i h1 h
              · obtain rfl : i = 4 := by omega
                exact he)
            clear he
            go_wp2
            exact ⟨⟨5, by omega, by omega, rfl, HR2, HG2, HN2⟩, by simp [intOf]⟩
        · have q0 : w2.cell? ⟨b, 0, none⟩ = some (.string (firstW j)) := by rw [cell_of_row _ b 0 _ _ _ hcell]; rw [wordsL_one hj1 hj h4]; rfl
          rw [show (wordsL j).length = 1 by rw [wordsL_one hj1 hj h4]; rfl]
          clear hcell
          have KF := Lib.hid (kindW_first hj1 hj)
          by_cases he : firstW j = s
          · have R2 := Lib.hid (show r.ask true = (j, r1) by rw [RES.out, ← he, KF.out, if_neg h4])
            have d : ((firstW j).toList == s.toList) = true := by rw [beq_str, he]; exact decide_eq_true rfl
            clear he RES KF
            generalize firstW j = fw at *
            go_wp2_with fail
            go_loopw [32] (fun i wr => i = .int .i64 0 ∧ wr = w2) (fun i _ => 0)
            case atStart => exact ⟨rfl, rfl⟩
            case round =>
              obtain ⟨rfl, rfl⟩ := hrel
              go_wp2
              go_ret
              rw [R2.out]
              exact ⟨rfl, HR2.out, HG2.out⟩
          · have d : ((firstW j).toList == s.toList) = false := by rw [beq_str]; exact decide_eq_false he
            have HN2 := Lib.hid (fun (i : Int) (h1 : 1 ≤ i) (h2 : i < j + 1) => show ¬ firstW i = s by
              by_cases h : i < j
              · exact HN.out i h1 h
              · obtain rfl : i = j := by omega
                exact he)
            clear he KF
            generalize firstW j = fw at q0 d
            go_wp2
            exact ⟨⟨j + 1, by omega, by omega, rfl, HR2, HG2, HN2⟩, by simp [intOf]; omega⟩
      · obtain rfl : j = 7 := by omega
        have R2 := Lib.hid (show r.ask true = (0, r1) by rw [RES.out, kindW_none HN.out]; rfl)
        go_wp2
        go_ret
        rw [R2.out]
        exact ⟨rfl, HR.out, HG.out⟩
end Go.Proofs.YtnhkgfgbhedphaaGreatDoor
