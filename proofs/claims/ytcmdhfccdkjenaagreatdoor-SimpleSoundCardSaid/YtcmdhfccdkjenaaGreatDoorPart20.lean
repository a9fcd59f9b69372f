/- The reference's Reaches. The statement HighHolds: the walk of the law (printed by gen_law12h.py). What holds in the least, or the greatest, state is so in every state that is reached; what may not be in none. The statement SimpleSound: the walk of the law (printed by gen_law13h.py). Roles and statements among a law's arguments: opened to data, and read again in a later world. Rows of statements among a law's arguments: opened. Policies among a law's arguments: opened. What the proofs of tied cards over math/bits.deBruijn64tab share: the world of the witness, the table's cells, roles and queries opened. -/
import Derived.Test.YtcmdhfccdkjenaaGreatDoorPart19
import Derived.Test.YtcmdhfccdkjenaaGreatDoorPart18
import Derived.Test.YtcmdhfccdkjenaaGreatDoorPart5
import Derived.ProofKit
import Derived.OpenShut
import Derived.ChangeMaps5
import Derived.Deep.Strs
import Derived.Test.YtcmdhfccdkjenaaGreatDoorPart3
import Derived.Deep.Slices
import Derived.Test.YtcmdhfccdkjenaaGreatDoorCards
import Derived.Test.YtcmdhfccdkjenaaGreatDoorTie
import Derived.Test.YtcmdhfccdkjenaaGreatDoorPart13
import Derived.Lay
import Derived.Deep.DeepHandedRow
import Derived.Lib.LaidTab
import Derived.Shelf.Strings.Shaped
import Derived.HandedShaped
namespace Go.Proofs.YtcmdhfccdkjenaaGreatDoor
open Go.RowKit Go.Shelf

set_option maxRecDepth 100000 in
set_option maxHeartbeats 4000000 in
theorem ref10_Reaches (v0 v1 v2 v3 vc : Value) (l m : List St) (g h : List Rl) (qs : List Qv) (w : World) (hp : PolAt w v0 v1 v2 v3 l g h qs) (hc : SlA w 9 vc m.length (m.flatMap St.cells)) (hm : allLe m 4294967) :
    Calls Tryz.prog 20 #[pv v0 v1 v2 v3, vc] w fun e w' => e = .returned (.bool (reachS l g h m)) ∧ Below w.heap.size w w' := by
  have HP := Lib.hid hp
  have HC := Lib.hid hc
  have hmaxm := hc.max
  have hmaxl := hp.rs.max
  obtain ⟨a0, c0, rfl⟩ := hp.rs.form
  obtain ⟨a1, c1, rfl⟩ := hp.rg.form
  obtain ⟨a2, c2, rfl⟩ := hp.rh.form
  obtain ⟨a3, c3, rfl⟩ := hp.rq.form
  obtain ⟨ac, cc, rfl⟩ := hc.form
  have HT := Lib.hid (show OneAt w #[.slice a0 l.length c0, .slice a1 g.length c1, .slice a2 h.length c2, .slice a3 qs.length c3] (w.alloc (.cells #[.slice a0 l.length c0, .slice a1 g.length c1, .slice a2 h.length c2, .slice a3 qs.length c3] 26)) from ⟨Blk.new w _ _, (Below.refl _ _).alloc (Nat.le_refl _) _⟩)
  have RI := Lib.hid (fun k (hk : k < m.length) W => ref3_Right m[k] W (hm _ (List.getElem_mem hk)))
  have SI := Lib.hid (fun x W (hb : Below w.heap.size w W) => ref3_Has (.slice a0 l.length c0) l x W (hp.rs.below hb))
  have MI := Lib.hid (fun k (hk : k < m.length) W (hb : Below w.heap.size w W) => ref5_Has (.slice a1 g.length c1) g m[k].h W (hp.rg.below hb))
  have EN := Lib.hid (fun k (hk : k < m.length) (h : cOk l g m[k] = false) => all_no hk h)
  have EE := Lib.hid (fun (h : ∀ j (hj : j < m.length), cOk l g m[j] = true) => all_end' h)
  have HH := Lib.hid (fun x W (hb : Below w.heap.size w W) => ref5_Has (.slice a2 h.length c2) h x W (hp.rh.below hb))
  have HM := Lib.hid (fun x W (hb : Below w.heap.size w W) => ref3_Has (.slice ac m.length cc) m x W (hc.below hb))
  have NY := Lib.hid (fun k (hk : k < l.length) (hh : stays h m l[k] = true) => any_yes hk hh)
  have NE := Lib.hid (fun (hh : ∀ j (hj : j < l.length), stays h m l[j] = false) => any_end hh)
  unfold reachS
  generalize m.all (cOk l g) = r1 at EN EE ⊢
  generalize l.any (stays h m) = r2 at NY NE ⊢
  clear hp hc hm
  go_enter Tryz.func20, Tryz.ntmps20
  go_wp2_with fail
  go_loopw [11] (fun i wr => ∃ k : Nat, k ≤ m.length ∧ i = .int .i64 k ∧ Hid (OneAt w #[.slice a0 l.length c0, .slice a1 g.length c1, .slice a2 h.length c2, .slice a3 qs.length c3] wr) ∧ Hid (∀ j (hj : j < m.length), j < k → cOk l g m[j] = true)) (fun i _ => m.length - (intOf i).toNat)
  case atStart => exact ⟨0, by omega, rfl, HT, Lib.hid (fun _ _ h => absurd h (by omega))⟩
  case round =>
    clear HT
    obtain ⟨k, hk, rfl, HT, HJ⟩ := hrel
    by_cases hlt : k < m.length
    · obtain ⟨b1, o1, e1, he1, hc1, hm1, hb1, hx1⟩ := HC.out.pos (by omega)
      simp only [Value.slice.injEq, true_and] at he1
      obtain ⟨rfl, rfl⟩ := he1
      obtain ⟨p0, p1, p2, p3, p4, p5, p6, p7, p8⟩ := st_cell (w := wr) (fun j u hu => (HT.out.low.cell (p := ⟨b1, o1 + j, none⟩) hb1).trans (hx1 j u hu)) k hlt
      have hbr : b1 < wr.heap.size := Nat.lt_of_lt_of_le hb1 HT.out.low.size
      have RK := Lib.hid (fun W => RI.out k hlt W)
      have SK := Lib.hid (fun W hb => SI.out m[k] W hb)
      have MK := Lib.hid (fun W hb => MI.out k hlt W hb)
      have ENk := Lib.hid (fun h => EN.out k hlt h)
      have K1 := Lib.hid (fun (hh : rightS m[k] = false) => cOk_no1 (l := l) (g := g) hh)
      have K2 := Lib.hid (fun (hh : rightS m[k] = true) => cOk_eq (l := l) (g := g) hh)
      have HJ2 : Hid (cOk l g m[k] = true → ∀ j (hj : j < m.length), j < k + 1 → cOk l g m[j] = true) := Lib.hid (fun hpk j hj hjk => by
        by_cases h : j < k
        · exact HJ.out j hj h
        · obtain rfl : j = k := by omega
          exact hpk)
      have hek : m[k] = ⟨m[k].k, ⟨m[k].h.o, m[k].h.n⟩, m[k].who, ⟨m[k].a.o, m[k].a.n⟩, ⟨m[k].b.o, m[k].b.n⟩, m[k].via⟩ := rfl
      clear hx1
      generalize cOk l g m[k] = ck at ENk K1 K2 HJ2
      generalize m[k] = x at *
      obtain ⟨xk, ⟨x1, x2⟩, xw, ⟨x3, x4⟩, ⟨x5, x6⟩, xv⟩ := x
      clear hek
      generalize rightS ⟨xk, ⟨x1, x2⟩, xw, ⟨x3, x4⟩, ⟨x5, x6⟩, xv⟩ = rr at RK MK K1 K2
      generalize hasS l ⟨xk, ⟨x1, x2⟩, xw, ⟨x3, x4⟩, ⟨x5, x6⟩, xv⟩ = rs at SK K2
      generalize hasR g _ = rg at MK K2
      have HT1 := Lib.hid (HT.out.alloc (.cells #[.int .i64 xk, .string x1, .string x2, .string xw, .string x3, .string x4, .string x5, .string x6, .string xv] 35))
      have HBK := Lib.hid (Blk.new wr #[.int .i64 xk, .string x1, .string x2, .string xw, .string x3, .string x4, .string x5, .string x6, .string xv] 35)
      go_wp2_with fail
      refine (RK.out _).mono ?_
      rintro e w2 ⟨rfl, hb2⟩
      have HT2 := Lib.hid (HT1.out.later hb2)
      have HBK2 := Lib.hid (HBK.out.below hb2)
      obtain ⟨ca, fa, za⟩ := HT2.out.a
      obtain ⟨cx, fx, zx⟩ := HBK2.out
      clear hb2
      cases rr with
      | false =>
        have R := Lib.hid (ENk.out (K1.out rfl))
        go_wp2
        go_ret
        exact ⟨ret_b (by rw [R.out]; rfl), HT2.out.low⟩
      | true =>
        have K3 := Lib.hid (K2.out rfl)
        clear K1 K2
        go_wp2_with fail
        refine (SK.out _ HT2.out.low).mono ?_
        rintro e w3 ⟨rfl, hb3⟩
        have HT3 := Lib.hid (HT2.out.later hb3)
        have HBK3 := Lib.hid (HBK2.out.below hb3)
        obtain ⟨ca, fa, za⟩ := HT3.out.a
        obtain ⟨cx, fx, zx⟩ := HBK3.out
        clear hb3
        cases rs with
        | true =>
          have HJ3 := Lib.hid (HJ2.out (by rw [K3.out]; rfl))
          go_wp2
          exact ⟨⟨k + 1, by omega, by go_num, HT3, HJ3⟩, by simp [intOf]; omega⟩
        | false =>
          go_wp2_with fail
          refine (MK.out _ HT3.out.low).mono ?_
          rintro e w4 ⟨rfl, hb4⟩
          have HT4 := Lib.hid (HT3.out.later hb4)
          clear hb4
          cases rg with
          | true =>
            have R := Lib.hid (ENk.out (by rw [K3.out]; rfl))
            go_wp2
            go_ret
            exact ⟨ret_b (by rw [R.out]; rfl), HT4.out.low⟩
          | false =>
            have HJ3 := Lib.hid (HJ2.out (by rw [K3.out]; rfl))
            go_wp2
            exact ⟨⟨k + 1, by omega, by go_num, HT4, HJ3⟩, by simp [intOf]; omega⟩
    · have R := Lib.hid (EE.out (fun j hj => HJ.out j hj (by omega)))
      obtain ⟨ca, fa, za⟩ := HT.out.a
      clear EN EE RI SI MI HJ
      go_wp2_with fail
      clear ca fa za
      go_loopw [34] (fun i wr => ∃ k : Nat, k ≤ l.length ∧ i = .int .i64 k ∧ Hid (OneAt w #[.slice a0 l.length c0, .slice a1 g.length c1, .slice a2 h.length c2, .slice a3 qs.length c3] wr) ∧ Hid (∀ j (hj : j < l.length), j < k → stays h m l[j] = false)) (fun i _ => l.length - (intOf i).toNat)
      case atStart => exact ⟨0, by omega, rfl, HT, Lib.hid (fun _ _ h => absurd h (by omega))⟩
      case round =>
        clear HT
        obtain ⟨k, hk, rfl, HT, HJ⟩ := hrel
        by_cases hlt : k < l.length
        · obtain ⟨b1, o1, e1, he1, hc1, hm1, hb1, hx1⟩ := HP.out.rs.pos (by omega)
          simp only [Value.slice.injEq, true_and] at he1
          obtain ⟨rfl, rfl⟩ := he1
          obtain ⟨p0, p1, p2, p3, p4, p5, p6, p7, p8⟩ := st_cell (w := wr) (fun j u hu => (HT.out.low.cell (p := ⟨b1, o1 + j, none⟩) hb1).trans (hx1 j u hu)) k hlt
          have hbr : b1 < wr.heap.size := Nat.lt_of_lt_of_le hb1 HT.out.low.size
          have HK := Lib.hid (fun W hb => HH.out l[k].h W hb)
          have MK := Lib.hid (fun W hb => HM.out l[k] W hb)
          have NYk := Lib.hid (fun hh => NY.out k hlt hh)
          have ST := Lib.hid (show stays h m l[k] = (hasR h l[k].h && !hasS m l[k]) from rfl)
          have HJ2 : Hid (stays h m l[k] = false → ∀ j (hj : j < l.length), j < k + 1 → stays h m l[j] = false) := Lib.hid (fun hpk j hj hjk => by
            by_cases h : j < k
            · exact HJ.out j hj h
            · obtain rfl : j = k := by omega
              exact hpk)
          have hek : l[k] = ⟨l[k].k, ⟨l[k].h.o, l[k].h.n⟩, l[k].who, ⟨l[k].a.o, l[k].a.n⟩, ⟨l[k].b.o, l[k].b.n⟩, l[k].via⟩ := rfl
          clear hx1
          generalize stays h m l[k] = ck at NYk ST HJ2
          generalize l[k] = x at *
          obtain ⟨xk, ⟨x1, x2⟩, xw, ⟨x3, x4⟩, ⟨x5, x6⟩, xv⟩ := x
          clear hek
          generalize hasS m ⟨xk, ⟨x1, x2⟩, xw, ⟨x3, x4⟩, ⟨x5, x6⟩, xv⟩ = rs at MK ST
          generalize hasR h _ = rh at HK ST
          have HT1 := Lib.hid (HT.out.alloc (.cells #[.int .i64 xk, .string x1, .string x2, .string xw, .string x3, .string x4, .string x5, .string x6, .string xv] 35))
          have HBK := Lib.hid (Blk.new wr #[.int .i64 xk, .string x1, .string x2, .string xw, .string x3, .string x4, .string x5, .string x6, .string xv] 35)
          obtain ⟨ca, fa, za⟩ := HT.out.a
          go_wp2_with fail
          refine (HK.out _ HT1.out.low).mono ?_
          rintro e w2 ⟨rfl, hb2⟩
          have HT2 := Lib.hid (HT1.out.later hb2)
          have HBK2 := Lib.hid (HBK.out.below hb2)
          clear hb2 ca fa za
          cases rh with
          | false =>
            have HJ3 := Lib.hid (HJ2.out (by rw [ST.out]; rfl))
            go_wp2
            exact ⟨⟨k + 1, by omega, by go_num, HT2, HJ3⟩, by simp [intOf]; omega⟩
          | true =>
            obtain ⟨cx, fx, zx⟩ := HBK2.out
            go_wp2_with fail
            refine (MK.out _ HT2.out.low).mono ?_
            rintro e w3 ⟨rfl, hb3⟩
            have HT3 := Lib.hid (HT2.out.later hb3)
            clear hb3 cx fx zx
            cases rs with
            | true =>
              have HJ3 := Lib.hid (HJ2.out (by rw [ST.out]; rfl))
              go_wp2
              exact ⟨⟨k + 1, by omega, by go_num, HT3, HJ3⟩, by simp [intOf]; omega⟩
            | false =>
              have R2 := Lib.hid (NYk.out (by rw [ST.out]; rfl))
              go_wp2
              go_ret
              exact ⟨ret_b (by rw [R.out, R2.out]; rfl), HT3.out.low⟩
        · have R2 := Lib.hid (NE.out (fun j hj => HJ.out j hj (by omega)))
          go_wp2
          go_ret
          exact ⟨ret_b (by rw [R.out, R2.out]; rfl), HT.out.low⟩
end Go.Proofs.YtcmdhfccdkjenaaGreatDoor
namespace Go.Proofs.YtcmdhfccdkjenaaGreatDoor
open Go.RowKit Go.Shelf

theorem max_members {l c : List St} {g : List Rl} {A B : List ByteArray} {ps qs : List Pr} (hAB : ∀ s ∈ l, InAB A B s) (hg : ∀ r ∈ g, r.o ∈ A) (hD : LeastS (maxS l g A B) (fun r x => (r, x) ∈ ps)) (hE : LeastS c (fun r x => (r, x) ∈ qs))
    (hc : ∀ s ∈ c, s ∈ l ∨ s.h ∉ g) {a n : ByteArray} (ha : a ∈ A) (hn : n ∈ B) {y : ByteArray} (hy : y ∈ membersP qs ⟨a, n⟩) : hasB (membersP ps ⟨a, n⟩) (sig A y) = true := by
  rw [hasB_mem, membersP_mem]
  have := max_bounds hAB hg hD hE hc ⟨a, n⟩ y (membersP_mem.1 hy) hn
  dsimp only at this
  rwa [sig_in ha] at this
end Go.Proofs.YtcmdhfccdkjenaaGreatDoor
namespace Go.Proofs.YtcmdhfccdkjenaaGreatDoor
open Go.RowKit Go.Shelf

theorem inside_iff {a b : List ByteArray} : insideB a b = true ↔ ∀ x ∈ a, x ∈ b := by
  unfold insideB
  rw [List.all_eq_true]
  exact ⟨fun h x hx => (hasB_mem b x).1 (h x hx), fun h x hx => (hasB_mem b x).2 (h x hx)⟩
section
variable {M : Rl → List ByteArray} {q : Qv} {us : List ByteArray}
theorem sat_in (hk : q.k = 1 ∨ q.k = 2) : satQ M q us = true ↔ ∀ x ∈ us, x ∈ M q.a := by unfold satQ; rw [if_pos hk]; exact inside_iff
theorem sat_within (hk : q.k = 3) : satQ M q us = true ↔ ∀ x ∈ M q.a, x ∈ us := by unfold satQ; rw [if_neg (by omega), if_pos hk]; exact inside_iff
theorem sat_empty (hk : q.k = 4) : satQ M q us = true ↔ ∀ x, x ∉ M q.a := by
  unfold satQ; rw [if_neg (by omega), if_neg (by omega), if_pos hk, decide_eq_true_iff]
  constructor
  · intro h x hx
    rw [List.eq_nil_of_length_eq_zero h] at hx; cases hx
  · intro h
    rw [List.eq_nil_iff_forall_not_mem.2 h]; rfl
theorem sat_apart (hk : q.k = 5) : satQ M q us = true ↔ ∀ x ∈ M q.a, x ∉ M q.b := by
  unfold satQ; rw [if_neg (by omega), if_neg (by omega), if_neg (by omega), if_pos hk, Bool.not_eq_true', List.any_eq_false]
  exact ⟨fun h x hx hb => h x hx ((hasB_mem _ x).2 hb), fun h x hx hb => h x hx ((hasB_mem _ x).1 hb)⟩
end
section
variable {w : World} {v0 v1 v2 v3 : Value} {l c : List St} {g h : List Rl} {qs : List Qv} {q : Qv} {us PS NS : List ByteArray}
theorem SimIn.inAB (P : SimIn w v0 v1 v2 v3 l g h qs q us PS NS) : ∀ s ∈ l, InAB PS NS s := by
  intro s hs
  have := stmt_inAB (g := g) (h := h) (qs := [q]) (F := fun _ => us) hs
  rw [P.eP, P.eN] at this
  exact this
theorem SimIn.inR (P : SimIn w v0 v1 v2 v3 l g h qs q us PS NS) : ∀ r ∈ allRoles l g h [q], r.o ∈ PS ∧ r.n ∈ NS := by
  intro r hm
  rw [← P.eP, ← P.eN, new_mem, new_mem]
  unfold allPrins allNames
  exact ⟨List.mem_append.2 (.inl (List.mem_append.2 (.inl (List.mem_map.2 ⟨r, hm, rfl⟩)))), List.mem_append.2 (.inl (List.mem_map.2 ⟨r, hm, rfl⟩))⟩
theorem SimIn.inG (P : SimIn w v0 v1 v2 v3 l g h qs q us PS NS) : ∀ r ∈ g, r.o ∈ PS ∧ r.n ∈ NS := fun r hr => P.inR r (by
  unfold allRoles
  exact List.mem_append.2 (.inl (List.mem_append.2 (.inl (List.mem_append.2 (.inr hr))))))
theorem SimIn.inQ (P : SimIn w v0 v1 v2 v3 l g h qs q us PS NS) : ∀ r ∈ rolesQ q, r.o ∈ PS ∧ r.n ∈ NS := fun r hr => P.inR r (by
  unfold allRoles
  exact List.mem_append.2 (.inr (List.mem_flatMap.2 ⟨q, List.mem_singleton.2 rfl, hr⟩)))
theorem SimIn.inU (P : SimIn w v0 v1 v2 v3 l g h qs q us PS NS) : ∀ x ∈ us, x ∈ PS := fun x hx => by
  rw [← P.eP, new_mem]
  unfold allPrins
  exact List.mem_append.2 (.inr (List.mem_flatMap.2 ⟨q, List.mem_singleton.2 rfl, hx⟩))
theorem q_a (q : Qv) : q.a ∈ rolesQ q := by unfold rolesQ; split <;> simp
theorem q_b (hk : q.k = 5) : q.b ∈ rolesQ q := by unfold rolesQ; rw [if_pos (.inl hk)]; simp
theorem sim_law (P : SimIn w v0 v1 v2 v3 l g h qs q us PS NS) (hre : reachS l g h c = true) {ps es : List Pr} (hD : LeastS (decS q.k l g h PS NS) (fun r x => (r, x) ∈ ps)) (hE : LeastS c (fun r x => (r, x) ∈ es)) :
    (univB q.k = true → satQ (membersP ps) q us = true → satQ (membersP es) q us = true) ∧ (univB q.k = false → satQ (membersP ps) q us = false → satQ (membersP es) q us = false) := by
  have hk := (rightQ_parts P.rightQ).1
  have h6 := P.q6
  unfold decS at hD
  by_cases k1 : q.k = 1
  · rw [if_pos (.inl k1)] at hD
    refine ⟨fun _ hs => ?_, fun hu => by rw [k1] at hu; cases hu⟩
    rw [sat_in (.inl k1)] at hs ⊢
    exact fun x hx => inside_iff.1 (members_mono hD hE (min_in hre) q.a) x (hs x hx)
  by_cases k4 : q.k = 4
  · rw [if_pos (.inr k4)] at hD
    refine ⟨fun hu => (by rw [k4] at hu; cases hu), fun _ hs => ?_⟩
    rw [← Bool.not_eq_true, sat_empty k4] at hs ⊢
    exact fun hn => hs (fun x hx => hn x (inside_iff.1 (members_mono hD hE (min_in hre) q.a) x hx))
  rw [if_neg (by omega)] at hD
  have mm : ∀ r ∈ rolesQ q, ∀ y, y ∈ membersP es r → sig PS y ∈ membersP ps r := fun r hr y hy => by
    have := max_members P.inAB (fun r hr => (P.inG r hr).1) hD hE (fun s hs => ((reach_iff.1 hre).1 s hs).2) (a := r.o) (n := r.n) (P.inQ r hr).1 (P.inQ r hr).2 (y := y) hy
    exact (hasB_mem _ _).1 this
  by_cases k2 : q.k = 2
  · refine ⟨fun hu => (by rw [k2] at hu; cases hu), fun _ hs => ?_⟩
    rw [← Bool.not_eq_true, sat_in (.inr k2)] at hs ⊢
    refine fun hn => hs (fun x hx => ?_)
    have := mm q.a (q_a q) x (hn x hx)
    rwa [sig_in (P.inU x hx)] at this
  by_cases k3 : q.k = 3
  · refine ⟨fun _ hs => ?_, fun hu => (by rw [k3] at hu; cases hu)⟩
    rw [sat_within k3] at hs ⊢
    intro x hx
    have h1 := hs _ (mm q.a (q_a q) x hx)
    by_cases hp : x ∈ PS
    · rwa [sig_in hp] at h1
    · exfalso
      have e : sig PS x = freshB PS := if_neg (fun e => hp ((hasB_mem PS x).1 e))
      rw [e] at h1
      exact freshB_not PS (P.inU _ h1)
  have k5 : q.k = 5 := by omega
  refine ⟨fun _ hs => ?_, fun hu => (by rw [k5] at hu; cases hu)⟩
  rw [sat_apart k5] at hs ⊢
  exact fun x hx hb => hs _ (mm q.a (q_a q) x hx) (mm q.b (q_b k5) x hb)
end
end Go.Proofs.YtcmdhfccdkjenaaGreatDoor
namespace Go.Proofs.YtcmdhfccdkjenaaGreatDoor
open Go.RowKit Go.Shelf

set_option maxRecDepth 100000 in
set_option maxHeartbeats 16000000 in
theorem law13_SimpleSound (v0 v1 v2 v3 vc : Value) (l m : List St) (g h : List Rl) (qs : List Qv) (q : Qv) (w : World) (hp : PolAt w v0 v1 v2 v3 l g h qs) (hq : q.ok w) (hc : SlA w 9 vc m.length (m.flatMap St.cells)) (hm : allLe m 9223372036854775807) (hT : TB w) :
    Calls Tryz.prog 6 #[pv v0 v1 v2 v3, qv q, vc] w fun e w' => e = .returned (.bool true) ∧ Below w.heap.size w w' := by
  obtain ⟨us, hu, hz⟩ := hq.2.2
  have HL := Lib.hid (fun W hb => law13_lives W (hT.below (w' := W) hb))
  have SM := Lib.hid (fun W hb => law13_Small v0 v1 v2 v3 l g h qs q us W (hp.below (w' := W) hb) (hq.below hb) (hu.below hb) hz (hT.below hb))
  have HQK := Lib.hid hq
  have LC := Lib.hid (fun W hb => law10_Light vc m W (hc.below (w' := W) hb) hm)
  have HC := Lib.hid hc
  obtain ⟨a0, c0, rfl⟩ := hp.rs.form
  obtain ⟨a1, c1, rfl⟩ := hp.rg.form
  obtain ⟨a2, c2, rfl⟩ := hp.rh.form
  obtain ⟨a3, c3, rfl⟩ := hp.rq.form
  obtain ⟨cm, cc, rfl⟩ := hc.form
  obtain ⟨xk, ⟨x1, x2⟩, ⟨x3, x4⟩, wv⟩ := q
  obtain ⟨wo, wc, e1⟩ := hu.form
  dsimp only at e1
  obtain ⟨wn, hwn⟩ : ∃ n, n = us.length := ⟨_, rfl⟩
  rw [← hwn] at e1
  subst e1
  clear hp hT hq hz hu hwn hc hm
  have HT := Lib.hid (show TwoAt w #[.slice a0 l.length c0, .slice a1 g.length c1, .slice a2 h.length c2, .slice a3 qs.length c3] #[.int .i64 xk, .string x1, .string x2, .string x3, .string x4, .slice wo wn wc] ((w.alloc (.cells #[.slice a0 l.length c0, .slice a1 g.length c1, .slice a2 h.length c2, .slice a3 qs.length c3] 26)).alloc (.cells #[.int .i64 xk, .string x1, .string x2, .string x3, .string x4, .slice wo wn wc] 45))
    from ⟨(Blk.new w _ _).alloc _, (by have := Blk.new (w.alloc (.cells #[.slice a0 l.length c0, .slice a1 g.length c1, .slice a2 h.length c2, .slice a3 qs.length c3] 26)) #[.int .i64 xk, .string x1, .string x2, .string x3, .string x4, .slice wo wn wc] 45; simpa using this), ((Below.refl _ _).alloc (Nat.le_refl _) _).alloc (by simp) _⟩)
  go_enter Tryz.func6, Tryz.ntmps6
  go_upto_region 1 with fail
  obtain ⟨wk, hwk⟩ : ∃ W, W = ((w.alloc (.cells #[.slice a0 l.length c0, .slice a1 g.length c1, .slice a2 h.length c2, .slice a3 qs.length c3] 26)).alloc (.cells #[.int .i64 xk, .string x1, .string x2, .string x3, .string x4, .slice wo wn wc] 45)) := ⟨_, rfl⟩
  rw [← hwk] at HT ⊢
  clear hwk
  obtain ⟨ca, fa, za⟩ := HT.out.a
  obtain ⟨cb, fb, zb⟩ := HT.out.b
  go_wp2_with fail
  refine (SM.out _ HT.out.low).mono ?_
  rintro e w1 ⟨⟨bp, rfl, hlp⟩, hb1⟩
  have HLP := Lib.hid hlp
  have HS0 := Lib.hid HT.out.low
  have HT := Lib.hid (HT.out.later hb1)
  clear hlp SM ca fa za cb fb zb
  cases bp with
  | false =>
    have HL := HL
    go_wp2_with fail
    refine (HL.out _ HT.out.low).mono ?_
    rintro e w6 ⟨rfl, hb6⟩
    have T6 := Lib.hid (HT.out.later hb6)
    clear hb6
    go_wp2
    go_ret
    exact ⟨rfl, T6.out.low⟩
  | true =>
  obtain ⟨PS, NS, hsi, p6, n4⟩ := HLP.out (by first | rfl | trivial)
  clear HLP
  obtain ⟨cb, fb, zb⟩ := HT.out.b
  by_cases k6 : xk = 6
  · subst k6
    clear hsi
    go_wp2_with fail
    refine (HL.out _ HT.out.low).mono ?_
    rintro e w6 ⟨rfl, hb6⟩
    have T6 := Lib.hid (HT.out.later hb6)
    clear hb6
    go_wp2
    go_ret
    exact ⟨rfl, T6.out.low⟩
  have d6 : (xk == 6) = false := by simp [k6]
  have HSI := Lib.hid ((hsi k6).below hb1)
  clear hsi hb1 HS0
  go_wp2_with fail
  refine (LC.out _ HT.out.low).mono ?_
  rintro e w2 ⟨bc, rfl, hlc, hb2⟩
  have HT := Lib.hid (HT.out.later hb2)
  have HSI := Lib.hid (HSI.out.below hb2)
  have HLC := Lib.hid hlc
  clear hlc hb2 LC cb fb zb
  cases bc with
  | false =>
    go_wp2_with fail
    refine (HL.out _ HT.out.low).mono ?_
    rintro e w6 ⟨rfl, hb6⟩
    have T6 := Lib.hid (HT.out.later hb6)
    clear hb6
    go_wp2
    go_ret
    exact ⟨rfl, T6.out.low⟩
  | true =>
  obtain ⟨hm40, hmle⟩ := HLC.out (by first | rfl | trivial)
  have HM4 : Hid (allLe m 4294967) := Lib.hid (fun x hx => (hmle x hx).mono (by decide))
  have BD := Lib.hid (sound_bound hm40)
  clear HLC hmle
  obtain ⟨ca, fa, za⟩ := HT.out.a
  go_wp2_with fail
  refine (ref10_Reaches (.slice a0 l.length c0) (.slice a1 g.length c1) (.slice a2 h.length c2) (.slice a3 qs.length c3) _ l m g h qs _ HSI.out.at_ (HC.out.below HT.out.low) HM4.out).mono ?_
  rintro e w3 ⟨rfl, hb3⟩
  have HT := Lib.hid (HT.out.later hb3)
  have HSI := Lib.hid (HSI.out.below hb3)
  clear hb3 ca fa za
  cases hre : reachS l g h m with
  | false =>
    clear hre
    go_wp2_with fail
    refine (HL.out _ HT.out.low).mono ?_
    rintro e w6 ⟨rfl, hb6⟩
    have T6 := Lib.hid (HT.out.later hb6)
    clear hb6
    go_wp2
    go_ret
    exact ⟨rfl, T6.out.low⟩
  | true =>
  have HRE := Lib.hid hre
  clear hre
  obtain ⟨ca, fa, za⟩ := HT.out.a
  obtain ⟨cb, fb, zb⟩ := HT.out.b
  go_wp2_with fail
  refine (sim_Decide HSI.out).mono ?_
  rintro e w4 ⟨⟨va, vc, st, T, ps, rfl, hps, hT, hTE⟩, hb4⟩
  clear hT hTE
  have LAW := Lib.hid (fun es (hE : LeastS m (fun r x => (r, x) ∈ es)) => sim_law HSI.out HRE.out hps hE)
  have HT := Lib.hid (HT.out.later hb4)
  have HSI := Lib.hid (HSI.out.below hb4)
  clear hps hb4 ca fa za cb fb zb HRE HM4
  obtain ⟨cb, fb, zb⟩ := HT.out.b
  dsimp only at LAW ⊢
  generalize univB xk = u at *
  generalize satQ (membersP ps) ⟨xk, ⟨x1, x2⟩, ⟨x3, x4⟩, .slice wo wn wc⟩ us = ok at *
  rcases u with _ | _ <;> rcases ok with _ | _
  · rw [show kindV false false = 4 from rfl]
    go_wp2_with fail
    have hnw : Below w4.heap.size w4 (w4.alloc (.cells #[.int .i64 4, .slice va T.length vc, .int .i64 st, .int .i64 0] 48)) := (Below.refl _ _).alloc (Nat.le_refl _) _
    have HX := Lib.hid (Blk.new w4 #[.int .i64 4, .slice va T.length vc, .int .i64 st, .int .i64 0] 48)
    have HT := Lib.hid (HT.out.later hnw)
    have HSI := Lib.hid (HSI.out.below hnw)
    clear hnw cb fb zb
    refine (ref13_In (.slice cm m.length cc) m 1600 ⟨xk, ⟨x1, x2⟩, ⟨x3, x4⟩, .slice wo wn wc⟩ us _ (HC.out.below HT.out.low) (by omega) BD.out HSI.out.hu).mono ?_
    rintro e w5 ⟨es, rfl, hes, hb5⟩
    have HX := Lib.hid (HX.out.below hb5)
    have HT := Lib.hid (HT.out.later hb5)
    have LAW2 := Lib.hid (LAW.out es hes)
    clear hes hb5 LAW
    obtain ⟨cx, fx, zx⟩ := HX.out
    generalize satQ (membersP es) ⟨xk, ⟨x1, x2⟩, ⟨x3, x4⟩, .slice wo wn wc⟩ us = is at *
    cases is with
    | false =>
      go_wp2_with fail
      refine (HL.out _ HT.out.low).mono ?_
      rintro e w6 ⟨rfl, hb6⟩
      have HT := Lib.hid (HT.out.later hb6)
      clear hb6 cx fx zx
      go_wp2
      go_ret
      exact ⟨rfl, HT.out.low⟩
    | true =>
      exact absurd LAW2.out (by simp)
  · rw [show kindV false true = 3 from rfl]
    go_wp2_with fail
    have hnw : Below w4.heap.size w4 (w4.alloc (.cells #[.int .i64 3, .slice va T.length vc, .int .i64 st, .int .i64 0] 48)) := (Below.refl _ _).alloc (Nat.le_refl _) _
    have HX := Lib.hid (Blk.new w4 #[.int .i64 3, .slice va T.length vc, .int .i64 st, .int .i64 0] 48)
    have HT := Lib.hid (HT.out.later hnw)
    have HSI := Lib.hid (HSI.out.below hnw)
    clear hnw cb fb zb
    refine (ref13_In (.slice cm m.length cc) m 1600 ⟨xk, ⟨x1, x2⟩, ⟨x3, x4⟩, .slice wo wn wc⟩ us _ (HC.out.below HT.out.low) (by omega) BD.out HSI.out.hu).mono ?_
    rintro e w5 ⟨es, rfl, hes, hb5⟩
    have HX := Lib.hid (HX.out.below hb5)
    have HT := Lib.hid (HT.out.later hb5)
    have LAW2 := Lib.hid (LAW.out es hes)
    clear hes hb5 LAW
    obtain ⟨cx, fx, zx⟩ := HX.out
    generalize satQ (membersP es) ⟨xk, ⟨x1, x2⟩, ⟨x3, x4⟩, .slice wo wn wc⟩ us = is at *
    cases is with
    | false =>
      go_wp2_with fail
      refine (HL.out _ HT.out.low).mono ?_
      rintro e w6 ⟨rfl, hb6⟩
      have HT := Lib.hid (HT.out.later hb6)
      clear hb6 cx fx zx
      go_wp2
      go_ret
      exact ⟨rfl, HT.out.low⟩
    | true =>
      go_wp2_with fail
      refine (HL.out _ HT.out.low).mono ?_
      rintro e w6 ⟨rfl, hb6⟩
      have HT := Lib.hid (HT.out.later hb6)
      clear hb6 cx fx zx
      go_wp2
      go_ret
      exact ⟨rfl, HT.out.low⟩
  · rw [show kindV true false = 2 from rfl]
    go_wp2_with fail
    have hnw : Below w4.heap.size w4 (w4.alloc (.cells #[.int .i64 2, .slice va T.length vc, .int .i64 st, .int .i64 0] 48)) := (Below.refl _ _).alloc (Nat.le_refl _) _
    have HX := Lib.hid (Blk.new w4 #[.int .i64 2, .slice va T.length vc, .int .i64 st, .int .i64 0] 48)
    have HT := Lib.hid (HT.out.later hnw)
    have HSI := Lib.hid (HSI.out.below hnw)
    clear hnw cb fb zb
    refine (ref13_In (.slice cm m.length cc) m 1600 ⟨xk, ⟨x1, x2⟩, ⟨x3, x4⟩, .slice wo wn wc⟩ us _ (HC.out.below HT.out.low) (by omega) BD.out HSI.out.hu).mono ?_
    rintro e w5 ⟨es, rfl, hes, hb5⟩
    have HX := Lib.hid (HX.out.below hb5)
    have HT := Lib.hid (HT.out.later hb5)
    have LAW2 := Lib.hid (LAW.out es hes)
    clear hes hb5 LAW
    obtain ⟨cx, fx, zx⟩ := HX.out
    generalize satQ (membersP es) ⟨xk, ⟨x1, x2⟩, ⟨x3, x4⟩, .slice wo wn wc⟩ us = is at *
    cases is with
    | false =>
      go_wp2_with fail
      refine (HL.out _ HT.out.low).mono ?_
      rintro e w6 ⟨rfl, hb6⟩
      have HT := Lib.hid (HT.out.later hb6)
      clear hb6 cx fx zx
      go_wp2
      go_ret
      exact ⟨rfl, HT.out.low⟩
    | true =>
      go_wp2_with fail
      refine (HL.out _ HT.out.low).mono ?_
      rintro e w6 ⟨rfl, hb6⟩
      have HT := Lib.hid (HT.out.later hb6)
      clear hb6 cx fx zx
      go_wp2
      go_ret
      exact ⟨rfl, HT.out.low⟩
  · rw [show kindV true true = 1 from rfl]
    go_wp2_with fail
    have hnw : Below w4.heap.size w4 (w4.alloc (.cells #[.int .i64 1, .slice va T.length vc, .int .i64 st, .int .i64 0] 48)) := (Below.refl _ _).alloc (Nat.le_refl _) _
    have HX := Lib.hid (Blk.new w4 #[.int .i64 1, .slice va T.length vc, .int .i64 st, .int .i64 0] 48)
    have HT := Lib.hid (HT.out.later hnw)
    have HSI := Lib.hid (HSI.out.below hnw)
    clear hnw cb fb zb
    refine (ref13_In (.slice cm m.length cc) m 1600 ⟨xk, ⟨x1, x2⟩, ⟨x3, x4⟩, .slice wo wn wc⟩ us _ (HC.out.below HT.out.low) (by omega) BD.out HSI.out.hu).mono ?_
    rintro e w5 ⟨es, rfl, hes, hb5⟩
    have HX := Lib.hid (HX.out.below hb5)
    have HT := Lib.hid (HT.out.later hb5)
    have LAW2 := Lib.hid (LAW.out es hes)
    clear hes hb5 LAW
    obtain ⟨cx, fx, zx⟩ := HX.out
    generalize satQ (membersP es) ⟨xk, ⟨x1, x2⟩, ⟨x3, x4⟩, .slice wo wn wc⟩ us = is at *
    cases is with
    | false =>
      exact absurd LAW2.out (by simp)
    | true =>
      go_wp2_with fail
      refine (HL.out _ HT.out.low).mono ?_
      rintro e w6 ⟨rfl, hb6⟩
      have HT := Lib.hid (HT.out.later hb6)
      clear hb6 cx fx zx
      go_wp2
      go_ret
      exact ⟨rfl, HT.out.low⟩
end Go.Proofs.YtcmdhfccdkjenaaGreatDoor
namespace Go.Proofs.YtcmdhfccdkjenaaGreatDoor
open Go.ChangeShapes Go.WideShapes Go.ChangeAt Go.RowKit

section
variable {H : Type} {enc : TypeId × Value → H} {w : World} {base fuel n : Nat} {sp : Nat → Bool} {held : Bool} {cs : List Value} {x : DataW H × List MemPlace} {v : Value} {d : DataW H} {ps : List MemPlace}
def dStr (H : Type) (s : ByteArray) : DataW H := .lit (.string s.data.toList)
def dRl (H : Type) (r : Rl) : DataW H := .agg [dStr H r.o, dStr H r.n]
def dSt (H : Type) (s : St) : DataW H := .agg [.lit (.int .i64 s.k), dRl H s.h, dStr H s.who, dRl H s.a, dRl H s.b, dStr H s.via]
def St.fits (s : St) : Prop := s.le maxLen ∧ (Lit.int IntKind.i64 s.k).wf = true

theorem two_of (h : cs.length = 2) : ∃ a b, cs = [a, b] := by
  match cs, h with
  | [a, b], _ => exact ⟨a, b, rfl⟩
theorem trod_role (h : DataW.trod enc Tryz.prog w base sp held fuel 28 cs = some x) : ∃ r : Rl, cs = r.cells ∧ x = (dRl H r, []) ∧ r.le maxLen := by
  obtain ⟨xs, n, _, rfl, hl, hlen, hf⟩ := DataW.trod_struct Tryz.underlying28 h
  have hc : Tryz.prog.cellsOf 28 = 2 := by kernel_rfl
  have hs : Tryz.prog.cellsOf 9 = 1 := by kernel_rfl
  rw [hc] at hl
  obtain ⟨a, b, rfl⟩ := two_of hl
  have f0 : DataW.trod enc Tryz.prog w base sp held n 9 [a] = xs[0]? := by simpa [hs] using hf 0 _ rfl
  have f1 : DataW.trod enc Tryz.prog w base sp held n 9 [b] = xs[1]? := by simpa [hs] using hf 1 _ rfl
  match xs, hlen with
  | [y0, y1], _ =>
    simp only [List.getElem?_cons_zero, List.getElem?_cons_succ] at f0 f1
    obtain ⟨s0, e0, g0, l0⟩ := DataW.trod_string Tryz.underlying9 f0
    obtain ⟨s1, e1, g1, l1⟩ := DataW.trod_string Tryz.underlying9 f1
    simp only [List.cons.injEq, and_true] at e0 e1
    subst e0 e1 g0 g1
    exact ⟨⟨s0, s1⟩, rfl, rfl, l0, l1⟩
theorem nine_of (h : cs.length = 9) : ∃ a b c d e f g i j, cs = [a, b, c, d, e, f, g, i, j] := by
  match cs, h with
  | [a, b, c, d, e, f, g, i, j], _ => exact ⟨a, b, c, d, e, f, g, i, j, rfl⟩
theorem trod_stmt (h : DataW.trod enc Tryz.prog w base sp held fuel 35 cs = some x) : ∃ s : St, cs = s.cells ∧ x = (dSt H s, []) ∧ s.fits := by
  obtain ⟨xs, n, _, rfl, hl, hlen, hf⟩ := DataW.trod_struct Tryz.underlying35 h
  have hc : Tryz.prog.cellsOf 35 = 9 := by kernel_rfl
  have hr : Tryz.prog.cellsOf 28 = 2 := by kernel_rfl
  have hi : Tryz.prog.cellsOf 3 = 1 := by kernel_rfl
  have hs : Tryz.prog.cellsOf 9 = 1 := by kernel_rfl
  rw [hc] at hl
  obtain ⟨c0, c1, c2, c3, c4, c5, c6, c7, c8, rfl⟩ := nine_of hl
  have f0 : DataW.trod enc Tryz.prog w base sp held n 3 [c0] = xs[0]? := by simpa [hi] using hf 0 _ rfl
  have f1 : DataW.trod enc Tryz.prog w base sp held n 28 [c1, c2] = xs[1]? := by simpa [hr] using hf 1 _ rfl
  have f2 : DataW.trod enc Tryz.prog w base sp held n 9 [c3] = xs[2]? := by simpa [hs] using hf 2 _ rfl
  have f3 : DataW.trod enc Tryz.prog w base sp held n 28 [c4, c5] = xs[3]? := by simpa [hr] using hf 3 _ rfl
  have f4 : DataW.trod enc Tryz.prog w base sp held n 28 [c6, c7] = xs[4]? := by simpa [hr] using hf 4 _ rfl
  have f5 : DataW.trod enc Tryz.prog w base sp held n 9 [c8] = xs[5]? := by simpa [hs] using hf 5 _ rfl
  match xs, hlen with
  | [y0, y1, y2, y3, y4, y5], _ =>
    simp only [List.getElem?_cons_zero, List.getElem?_cons_succ] at f0 f1 f2 f3 f4 f5
    obtain ⟨k, e0, g0, l0⟩ := DataW.trod_int Tryz.underlying3 f0
    obtain ⟨r1, e1, g1, l1⟩ := trod_role f1
    obtain ⟨s2, e2, g2, l2⟩ := DataW.trod_string Tryz.underlying9 f2
    obtain ⟨r3, e3, g3, l3⟩ := trod_role f3
    obtain ⟨r4, e4, g4, l4⟩ := trod_role f4
    obtain ⟨s5, e5, g5, l5⟩ := DataW.trod_string Tryz.underlying9 f5
    simp only [Rl.cells, List.cons.injEq, and_true] at e0 e1 e2 e3 e4 e5
    obtain ⟨rfl, rfl⟩ := e1
    obtain ⟨rfl, rfl⟩ := e3
    obtain ⟨rfl, rfl⟩ := e4
    subst e0 e2 e5 g0 g1 g2 g3 g4 g5
    exact ⟨⟨k, r1, s2, r3, r4, s5⟩, rfl, rfl, ⟨l1, l2, l3, l4, l5⟩, l0⟩
end
end Go.Proofs.YtcmdhfccdkjenaaGreatDoor
namespace Go.Proofs.YtcmdhfccdkjenaaGreatDoor
open Go.ChangeShapes Go.WideShapes Go.ChangeAt Go.RowKit Go.Deep

theorem laid_out : laidOutB Tryz.prog = true := by kernel_rfl
set_option maxRecDepth 100000 in
theorem open_sts {H : Type} {enc : TypeId × Value → H} {w : World} {base b0 : Nat} {held : Bool} {r : Reach} {v : Value} {d : DataW H} {ps : List MemPlace} (hval : Value.okWide Tryz.prog w r b0 22 v)
    (hd : DataW.Trod enc Tryz.prog w base (fun _ => true) held 22 v d ps) : ∃ l : List St, SlA w 9 v l.length (l.flatMap St.cells) ∧ ∀ s ∈ l, s.fits := by
  obtain ⟨a0, len, cap, rfl⟩ := okWide_slice Tryz.underlying22 hval
  obtain ⟨fuel, hf⟩ := hd
  have hc : Tryz.prog.cellsOf 35 = 9 := by kernel_rfl
  rcases open_slice Tryz.underlying22 hf with ⟨hcs, _⟩ | ⟨a, len', cap', m, n, D, Pl, hcs, _, hl, hm, hmm, _, hx⟩
  · simp [Value.cells] at hcs
    obtain ⟨rfl, rfl, rfl⟩ := hcs
    exact ⟨[], (Sl.nil _ _).a, fun s hs => by cases hs⟩
  · simp [Value.cells] at hcs
    obtain ⟨rfl, rfl, rfl⟩ := hcs
    simp only [if_true] at hmm
    subst hmm
    rw [hc] at hx
    have hex : ∀ i, i < m → ∃ s : St, w.cells? base (a.add (i * 9)) 9 = some s.cells ∧ s.fits := by
      intro i hi
      obtain ⟨cs', h1, h2⟩ := hx i hi
      obtain ⟨s, rfl, _, hs⟩ := trod_stmt h2
      exact ⟨s, h1, hs⟩
    obtain ⟨S, hS⟩ := choose_lt hex
    obtain ⟨b, off, spot⟩ := a
    by_cases h0 : 0 < len
    · have c0 := (World.cells?_some (hS 0 (by omega)).1).2.2 0 (by omega)
      have hspot : spot = none := by simpa [Addr.add] using World.cell?_spot (c0.trans rfl)
      subst hspot
      have hlen : ((List.range len).map S).length = len := by simp
      have hcell : ∀ j u, (((List.range len).map S).flatMap St.cells)[j]? = some u → w.cell? ⟨b, off + j, none⟩ = some u := by
        intro j u hu
        have hj : j < len * 9 := by
          have := (List.getElem?_eq_some_iff.1 hu).1
          rwa [flat_len St.cells 9 St.cells_len, hlen] at this
        have hf9 : j % 9 < 9 := Nat.mod_lt _ (by decide)
        have hi : j / 9 < len := by omega
        have e : j = j / 9 * 9 + j % 9 := by omega
        rw [e, flat_get St.cells 9 St.cells_len _ (j / 9) (j % 9) hf9 (S (j / 9)) (by simp [hi])] at hu
        have h1 := (World.cells?_some (hS (j / 9) (by omega)).1).2.2 (j % 9) hf9
        rw [add_add, add_plain, ← e] at h1
        exact h1.trans hu
      refine ⟨(List.range len).map S, .inl ?_, fun s hs => ?_⟩
      · rw [hlen]
        refine ⟨by rw [flat_len St.cells 9 St.cells_len, hlen], by omega, .inr ⟨b, off, m, rfl, hl, hm, ?_, hcell⟩⟩
        have h2 := hcell 0 (.int .i64 (S 0).k) (by
          have := flat_get St.cells 9 St.cells_len ((List.range len).map S) 0 0 (by omega) (S 0) (by simp [h0])
          have e : (0 : Nat) * 9 + 0 = 0 := rfl
          rw [e] at this
          exact this.trans rfl)
        exact World.block_lt_of_cell? _ _ h2
      · obtain ⟨i, hi, rfl⟩ := List.mem_map.1 hs
        exact (hS i (by have := List.mem_range.1 hi; omega)).2
    · have hl0 : len = 0 := by omega
      subst hl0
      exact ⟨[], .inr ⟨⟨_, _, rfl⟩, rfl, rfl⟩, fun s hs => by cases hs⟩
end Go.Proofs.YtcmdhfccdkjenaaGreatDoor
namespace Go.Proofs.YtcmdhfccdkjenaaGreatDoor
open Go.ChangeShapes Go.WideShapes Go.ChangeAt Go.RowKit Go.Deep

section
variable {H : Type} {enc : TypeId × Value → H} {w : World} {base : Nat} {held : Bool}
theorem open_rowOf {α : Type} [Inhabited α] (cells : α → List Value) (k : Nat) (hk : 0 < k) (hlen : ∀ x, (cells x).length = k) {t e : TypeId} (ht : Tryz.prog.underlying t = some (.slice e)) (hc : Tryz.prog.cellsOf e = k) (p : α → Prop)
    (each : ∀ n cs y, DataW.trod enc Tryz.prog w base (fun _ => true) held n e cs = some y → ∃ x : α, cs = cells x ∧ p x) {fuel : Nat} {c : Value} {y : DataW H × List MemPlace}
    (hf : DataW.trod enc Tryz.prog w base (fun _ => true) held fuel t [c] = some y) : ∃ l : List α, SlA w k c l.length (l.flatMap cells) ∧ ∀ x ∈ l, p x := by
  rcases open_slice ht hf with ⟨hcs, _⟩ | ⟨a, len, cap, m, n, D, Pl, hcs, _, hl, hm, hmm, _, hx⟩
  · simp only [List.cons.injEq, and_true] at hcs
    subst hcs
    exact ⟨[], (Sl.nil _ _).a, fun s hs => by cases hs⟩
  · simp only [List.cons.injEq, and_true] at hcs
    subst hcs
    simp only [if_true] at hmm
    subst hmm
    rw [hc] at hx
    have hex : ∀ i, i < m → ∃ s : α, w.cells? base (a.add (i * k)) k = some (cells s) ∧ p s := by
      intro i hi
      obtain ⟨cs', h1, h2⟩ := hx i hi
      obtain ⟨s, rfl, hs⟩ := each _ _ _ h2
      exact ⟨s, h1, hs⟩
    obtain ⟨S, hS⟩ := choose_lt hex
    obtain ⟨b, off, spot⟩ := a
    by_cases h0 : 0 < len
    · have hk0 : 0 < (cells (S 0)).length := by rw [hlen]; exact hk
      have c0 := (World.cells?_some (hS 0 (by omega)).1).2.2 0 hk
      rw [List.getElem?_eq_getElem hk0] at c0
      have hspot : spot = none := by simpa [Addr.add] using World.cell?_spot c0
      subst hspot
      have hlenl : ((List.range len).map S).length = len := by simp
      have hcell : ∀ j u, (((List.range len).map S).flatMap cells)[j]? = some u → w.cell? ⟨b, off + j, none⟩ = some u := by
        intro j u hu
        have hj : j < len * k := by
          have := (List.getElem?_eq_some_iff.1 hu).1
          rwa [flat_len cells k hlen, hlenl] at this
        have hf9 : j % k < k := Nat.mod_lt _ hk
        have hi : j / k < len := Nat.div_lt_of_lt_mul (by rwa [Nat.mul_comm])
        have e : j = j / k * k + j % k := by rw [Nat.mul_comm]; exact (Nat.div_add_mod j k).symm
        rw [e, flat_get cells k hlen _ (j / k) (j % k) hf9 (S (j / k)) (by simp [hi])] at hu
        have h1 := (World.cells?_some (hS (j / k) (by omega)).1).2.2 (j % k) hf9
        rw [add_add, add_plain, ← e] at h1
        exact h1.trans hu
      refine ⟨(List.range len).map S, .inl ?_, fun s hs => ?_⟩
      · rw [hlenl]
        refine ⟨by rw [flat_len cells k hlen, hlenl], by omega, .inr ⟨b, off, m, rfl, hl, hm, ?_, hcell⟩⟩
        rw [add_add, add_plain] at c0
        exact World.block_lt_of_cell? _ _ c0
      · obtain ⟨i, hi, rfl⟩ := List.mem_map.1 hs
        exact (hS i (by have := List.mem_range.1 hi; omega)).2
    · have hl0 : len = 0 := by omega
      subst hl0
      exact ⟨[], .inr ⟨⟨_, _, rfl⟩, rfl, rfl⟩, fun s hs => by cases hs⟩

theorem maxLen_eq : maxLen = 9223372036854775807 := by decide
theorem le_max {s : St} (h : s.fits) : s.le 9223372036854775807 := by have := h.1; rwa [maxLen_eq] at this
theorem rle_max {r : Rl} (h : r.le maxLen) : r.le 9223372036854775807 := by rwa [maxLen_eq] at h
instance : Inhabited Rl := ⟨noR⟩
theorem open_stsC {fuel : Nat} {c : Value} {y : DataW H × List MemPlace} (hf : DataW.trod enc Tryz.prog w base (fun _ => true) held fuel 22 [c] = some y) :
    ∃ l : List St, SlA w 9 c l.length (l.flatMap St.cells) ∧ allLe l 9223372036854775807 :=
  open_rowOf St.cells 9 (by decide) St.cells_len Tryz.underlying22 (by kernel_rfl) (fun s => s.le 9223372036854775807)
    (fun _ _ _ h => by obtain ⟨s, e, _, hs⟩ := trod_stmt h; exact ⟨s, e, le_max hs⟩) hf
theorem open_rls {fuel : Nat} {c : Value} {y : DataW H × List MemPlace} (hf : DataW.trod enc Tryz.prog w base (fun _ => true) held fuel 23 [c] = some y) :
    ∃ l : List Rl, SlA w 2 c l.length (l.flatMap Rl.cells) ∧ ∀ x ∈ l, x.le 9223372036854775807 :=
  open_rowOf Rl.cells 2 (by decide) Rl.cells_len Tryz.underlying23 (by kernel_rfl) (fun s => s.le 9223372036854775807)
    (fun _ _ _ h => by obtain ⟨s, e, _, hs⟩ := trod_role h; exact ⟨s, e, rle_max hs⟩) hf
theorem strs_flat (l : List ByteArray) : (l.flatMap fun s => [Value.string s]) = strs l := by
  induction l with
  | nil => rfl
  | cons a r ih => rw [List.flatMap_cons, ih]; rfl
theorem open_strsC {fuel : Nat} {c : Value} {y : DataW H × List MemPlace} (hf : DataW.trod enc Tryz.prog w base (fun _ => true) held fuel 38 [c] = some y) :
    ∃ l : List ByteArray, SlA w 1 c l.length (strs l) ∧ ∀ x ∈ l, x.size ≤ 9223372036854775807 := by
  obtain ⟨l, h1, h2⟩ := open_rowOf (fun s : ByteArray => [Value.string s]) 1 (by decide) (fun _ => rfl) Tryz.underlying38 (by kernel_rfl) (fun s => s.size ≤ 9223372036854775807)
    (fun _ cs _ h => by obtain ⟨s, e, _, hs⟩ := DataW.trod_string Tryz.underlying9 h; exact ⟨s, e, by rwa [maxLen_eq] at hs⟩) hf
  exact ⟨l, by rwa [strs_flat] at h1, h2⟩

theorem six_of {cs : List Value} (h : cs.length = 6) : ∃ a b c d e f, cs = [a, b, c, d, e, f] := by
  match cs, h with
  | [a, b, c, d, e, f], _ => exact ⟨a, b, c, d, e, f, rfl⟩
theorem trod_query {fuel : Nat} {cs : List Value} {x : DataW H × List MemPlace} (h : DataW.trod enc Tryz.prog w base (fun _ => true) held fuel 45 cs = some x) : ∃ q : Qv, cs = q.cells ∧ q.ok w := by
  obtain ⟨xs, n, _, rfl, hl, hlen, hf⟩ := DataW.trod_struct Tryz.underlying45 h
  have hc : Tryz.prog.cellsOf 45 = 6 := by kernel_rfl
  have hr : Tryz.prog.cellsOf 28 = 2 := by kernel_rfl
  have hi : Tryz.prog.cellsOf 3 = 1 := by kernel_rfl
  have hs : Tryz.prog.cellsOf 38 = 1 := by kernel_rfl
  rw [hc] at hl
  obtain ⟨c0, c1, c2, c3, c4, c5, rfl⟩ := six_of hl
  have f0 : DataW.trod enc Tryz.prog w base (fun _ => true) held n 3 [c0] = xs[0]? := by simpa [hi] using hf 0 _ rfl
  have f1 : DataW.trod enc Tryz.prog w base (fun _ => true) held n 28 [c1, c2] = xs[1]? := by simpa [hr] using hf 1 _ rfl
  have f2 : DataW.trod enc Tryz.prog w base (fun _ => true) held n 28 [c3, c4] = xs[2]? := by simpa [hr] using hf 2 _ rfl
  have f3 : DataW.trod enc Tryz.prog w base (fun _ => true) held n 38 [c5] = xs[3]? := by simpa [hs] using hf 3 _ rfl
  match xs, hlen with
  | [y0, y1, y2, y3], _ =>
    simp only [List.getElem?_cons_zero, List.getElem?_cons_succ] at f0 f1 f2 f3
    obtain ⟨k, e0, _, _⟩ := DataW.trod_int Tryz.underlying3 f0
    obtain ⟨r1, e1, _, l1⟩ := trod_role f1
    obtain ⟨r2, e2, _, l2⟩ := trod_role f2
    obtain ⟨ss, s3, l3⟩ := open_strsC f3
    simp only [Rl.cells, List.cons.injEq, and_true] at e0 e1 e2
    obtain ⟨rfl, rfl⟩ := e1
    obtain ⟨rfl, rfl⟩ := e2
    subst e0
    exact ⟨⟨k, r1, r2, c5⟩, rfl, rle_max l1, rle_max l2, ss, s3, l3⟩
theorem open_qs {fuel : Nat} {c : Value} {y : DataW H × List MemPlace} (hf : DataW.trod enc Tryz.prog w base (fun _ => true) held fuel 24 [c] = some y) :
    ∃ l : List Qv, SlA w 6 c l.length (l.flatMap Qv.cells) ∧ ∀ x ∈ l, x.ok w :=
  open_rowOf Qv.cells 6 (by decide) Qv.cells_len Tryz.underlying24 (by kernel_rfl) (fun q => q.ok w) (fun _ _ _ h => trod_query h) hf
theorem four_of {cs : List Value} (h : cs.length = 4) : ∃ a b c d, cs = [a, b, c, d] := by
  match cs, h with
  | [a, b, c, d], _ => exact ⟨a, b, c, d, rfl⟩
set_option maxRecDepth 100000 in
theorem open_pol {r : Reach} {b0 : Nat} {v : Value} {d : DataW H} {ps : List MemPlace} (hval : Value.okWide Tryz.prog w r b0 26 v) (hd : DataW.Trod enc Tryz.prog w base (fun _ => true) held 26 v d ps) :
    ∃ v0 v1 v2 v3 l g h qs, v = pv v0 v1 v2 v3 ∧ PolAt w v0 v1 v2 v3 l g h qs := by
  obtain ⟨cs, rfl, _⟩ := okWide_struct Tryz.underlying26 hval
  obtain ⟨fuel, hf⟩ := hd
  obtain ⟨xs, n, _, _, hl, hlen, hf'⟩ := DataW.trod_struct Tryz.underlying26 hf
  have hc : Tryz.prog.cellsOf 26 = 4 := by kernel_rfl
  have h0 : Tryz.prog.cellsOf 22 = 1 := by kernel_rfl
  have h1 : Tryz.prog.cellsOf 23 = 1 := by kernel_rfl
  have h2 : Tryz.prog.cellsOf 24 = 1 := by kernel_rfl
  rw [hc] at hl
  obtain ⟨c0, c1, c2, c3, hcs⟩ := four_of hl
  rw [hcs] at hf'
  have f0 : DataW.trod enc Tryz.prog w base (fun _ => true) held n 22 [c0] = xs[0]? := by simpa [h0] using hf' 0 _ rfl
  have f1 : DataW.trod enc Tryz.prog w base (fun _ => true) held n 23 [c1] = xs[1]? := by simpa [h1] using hf' 1 _ rfl
  have f2 : DataW.trod enc Tryz.prog w base (fun _ => true) held n 23 [c2] = xs[2]? := by simpa [h1] using hf' 2 _ rfl
  have f3 : DataW.trod enc Tryz.prog w base (fun _ => true) held n 24 [c3] = xs[3]? := by simpa [h2] using hf' 3 _ rfl
  match xs, hlen with
  | [y0, y1, y2, y3], _ =>
    simp only [List.getElem?_cons_zero, List.getElem?_cons_succ] at f0 f1 f2 f3
    obtain ⟨l, s0, l0⟩ := open_stsC f0
    obtain ⟨g, s1, l1⟩ := open_rls f1
    obtain ⟨h, s2, l2⟩ := open_rls f2
    obtain ⟨qs, s3, l3⟩ := open_qs f3
    refine ⟨c0, c1, c2, c3, l, g, h, qs, ?_, ⟨s0, s1, s2, s3, l0, l1, l2, l3⟩⟩
    obtain ⟨cl⟩ := cs
    simp only [Value.cells] at hcs
    have : cl = [c0, c1, c2, c3] := by simpa using hcs
    rw [this]
end
end Go.Proofs.YtcmdhfccdkjenaaGreatDoor
namespace Go.Proofs.YtcmdhfccdkjenaaGreatDoor
open Go.ChangeShapes Go.WideShapes Go.ChangeAt Go.RowKit

def bruijnL : List (String × DataW Unit) := [("math/bits.deBruijn64tab", Rows.laid_math_bits_deBruijn64tab)]
theorem bruijn_tab : (Rows.laid_math_bits_deBruijn64tab : DataW Unit) = Lib.tabData .u8 (Lib.deBruijn64tab.map fun (n : Nat) => (n : Int)) := by rfl
noncomputable def laidWorld (os : Os) : World := World.laidAll Tryz.prog os bruijnL
theorem laid_met (os : Os) (args : Array Value) : laidMet Tryz.prog bruijnL ((laidWorld os).forCall (fun _ _ => 0) ⟨#[], args, []⟩).memory := laidMet_laidAll args (by kernel_rfl) (by kernel_rfl)
theorem tb_of_laid {W : World} (h : laidMet Tryz.prog bruijnL W) : TB W := by
  unfold bruijnL at h
  rw [bruijn_tab] at h
  have ht := Lib.tabIs_of_head (t := 231) (e := 5) (n := 64) (g := 0) (by kernel_rfl) (by kernel_rfl) Tryz.underlying231 Tryz.underlying5 (by kernel_rfl) (by kernel_rfl) h
  intro j hj
  have := ht.cell (g := 0) (by kernel_rfl) j (by rw [List.length_map]; exact hj)
  rw [this, List.getD_eq_getElem?_getD, List.getElem?_map, List.getD_eq_getElem?_getD, List.getElem?_eq_getElem hj]
  rfl
theorem ownK : ownKnob Tryz.prog.godebug = none := by kernel_rfl
section
variable {H : Type} {enc : TypeId × Value → H} {w : World} {base b0 : Nat} {held : Bool} {r : Reach} {v : Value} {d : DataW H} {ps : List MemPlace}
set_option maxRecDepth 100000 in
theorem open_query (hval : Value.okWide Tryz.prog w r b0 45 v) (hd : DataW.Trod enc Tryz.prog w base (fun _ => true) held 45 v d ps) : ∃ q : Qv, v = qv q ∧ q.ok w := by
  obtain ⟨cs, rfl, _⟩ := okWide_struct Tryz.underlying45 hval
  obtain ⟨fuel, hf⟩ := hd
  obtain ⟨q, h, hq⟩ := trod_query hf
  refine ⟨q, ?_, hq⟩
  obtain ⟨l⟩ := cs
  simp only [Value.cells] at h
  rw [show l = q.cells from by simpa using h]; rfl
end
end Go.Proofs.YtcmdhfccdkjenaaGreatDoor
