/- policy.Print: the lines of a policy that may be; nothing of another one (printed by gen_polprint.py). '==' of faults. crupperlaw05.lives: the document's example is as it says. What lines of a policy come to, one behind the other, in plain Lean. A policy's text is parsed as that policy, in plain Lean. Lines with blanks and comments are what the bare lines are, in plain Lean. A policy's lines turned round, doubled, with comments and blanks, are that policy, in plain Lean. Light of texts, told whole. Light of queries and policies, with the lengths of the queries' roles (turned by gen_lights.py). -/
import Derived.Test.YtnhkgfgbhedphaaGreatDoorPart13
import Derived.Test.YtnhkgfgbhedphaaGreatDoorPart2
import Derived.Test.YtnhkgfgbhedphaaGreatDoorPart9
import Derived.Test.YtnhkgfgbhedphaaGreatDoorPart10
import Derived.Test.YtnhkgfgbhedphaaGreatDoorPart11
import Derived.Test.YtnhkgfgbhedphaaGreatDoorPart5
namespace Go.Proofs.YtnhkgfgbhedphaaGreatDoor
open Go.RowKit Go.Shelf

theorem rightD_iff {p : Pd} {zs : List (Qd × Value)} {F : Qv → List ByteArray} (hz : zs.map (·.1) = p.q) (hF : ∀ z ∈ zs, F (qz z) = z.1.us) (hl : p.l.length ≤ 80) (hg : p.g.length ≤ 40) (hh : p.h.length ≤ 40) : RightP p.l p.g p.h (zs.map qz) F ↔ RightD p := by
  have hq : (∀ q ∈ zs.map qz, rightQ q (F q) = true) ↔ ∀ x ∈ p.q, GoodQ x := by
    constructor
    · intro h x hx
      rw [← hz] at hx
      obtain ⟨z, hz, rfl⟩ := List.mem_map.1 hx
      have h1 := h (qz z) (List.mem_map_of_mem hz)
      rw [hF z hz] at h1
      exact right_iff.1 h1
    · intro h q hq
      obtain ⟨z, hz', rfl⟩ := List.mem_map.1 hq
      rw [hF z hz']
      exact right_iff.2 (h z.1 (by rw [← hz]; exact List.mem_map_of_mem hz'))
  unfold RightP
  rw [hq, ← fitsD_of p zs F hz hF hl hg hh]
  constructor
  · rintro ⟨h1, h2, h3, h4, h5, h6, h7⟩
    exact ⟨⟨h1, fun x hx => h2 x (List.mem_append.2 (.inl hx)), fun x hx => h2 x (List.mem_append.2 (.inr hx)), h3⟩, h4, h5, h6, h7⟩
  · rintro ⟨⟨h1, h2, h2', h3⟩, h4, h5, h6, h7⟩
    exact ⟨h1, fun x hx => (List.mem_append.1 hx).elim (h2 x) (h2' x), h3, h4, h5, h6, h7⟩
def PrintR (p : Pd) (e : Ending) : Prop := ∃ t, e = .returned (.string t) ∧ (RightD p → t = textP p) ∧ (¬ RightD p → t = emp)
theorem joinN_app (a b : List ByteArray) : joinN (a ++ b) = joinN a ++ joinN b := by unfold joinN; rw [List.flatMap_append]
theorem joinN_one (x : ByteArray) : joinN [x] = bl x ++ [10] := by simp [joinN]
theorem take_snocP {α β : Type} (f : α → β) (l : List α) {k : Nat} (h : k < l.length) : (l.map f).take (k + 1) = (l.map f).take k ++ [f l[k]] := by
  rw [List.take_succ_eq_append_getElem (by simpa using h)]; simp
theorem printS_size {s : St} (h : rightS s = true) : (printS s).size ≤ 100 := by
  obtain ⟨⟨l1, l2⟩, l3, ⟨l4, l5⟩, ⟨l6, l7⟩, l8⟩ := rightS_le h
  unfold printS
  rw [if_pos h]
  have e1 : (⟨#[46]⟩ : ByteArray).size = 1 := rfl
  have e4 : (⟨#[32, 60, 45, 32]⟩ : ByteArray).size = 4 := rfl
  have e3 : (⟨#[32, 38, 32]⟩ : ByteArray).size = 3 := rfl
  have : ∀ x : ByteArray, x.size ≤ 50 → (roleT s.h ++ ⟨#[32, 60, 45, 32]⟩ ++ x).size ≤ 100 := fun x hx => by
    simp only [roleT, ByteArray.size_append, e1, e4]; omega
  refine this _ ?_
  (repeat' split) <;> (try simp only [roleT, ByteArray.size_append, e1, e3]) <;> omega

theorem growT_bl (r : Rl) : bl (growT r) = bl wGrow ++ 32 :: bl (roleT r) := by simp [growT, joinB, Lib.join, bl]
theorem shrinkT_bl (r : Rl) : bl (shrinkT r) = bl wShrink ++ 32 :: bl (roleT r) := by simp [shrinkT, joinB, Lib.join, bl]
theorem growT_size {r : Rl} (h : isRole r = true) : (growT r).size ≤ 100 := by
  have h1 := congrArg List.length (growT_bl r)
  have h2 := role_size h
  rw [List.length_append, List.length_cons, bl_len, bl_len, bl_len] at h1
  have : wGrow.size = 4 := rfl
  omega
theorem shrinkT_size {r : Rl} (h : isRole r = true) : (shrinkT r).size ≤ 100 := by
  have h1 := congrArg List.length (shrinkT_bl r)
  have h2 := role_size h
  rw [List.length_append, List.length_cons, bl_len, bl_len, bl_len] at h1
  have : wShrink.size = 6 := rfl
  omega
set_option maxRecDepth 100000 in
set_option maxHeartbeats 8000000 in
theorem policy_Print (v0 v1 v2 v3 : Value) (p : Pd) (zs : List (Qd × Value)) (w : World) (hp : PolD w v0 v1 v2 v3 p zs) (hle : LeP p 4294967 40) (hl : p.l.length ≤ 80) (hg : p.g.length ≤ 40) (hh : p.h.length ≤ 40) (hq : p.q.length ≤ 100) :
    Calls Tryz.prog 30 #[pv v0 v1 v2 v3] w fun e w' => PrintR p e ∧ Below w.heap.size w w' := by
  have hzl : zs.length = p.q.length := by rw [← hp.z, List.length_map]
  have hm : ∀ z ∈ zs, z.1 ∈ p.q := fun z hz => by rw [← hp.z]; exact List.mem_map_of_mem hz
  have RI := rightD_iff (p := p) (zs := zs) hp.z hp.F hl hg hh
  have RT := Lib.hid (fun W (hb : Below w.heap.size w W) => policy_RightL v0 v1 v2 v3 p.l p.g p.h (zs.map qz) W ((hp.at (hle.mono (by decide) (Nat.le_refl _))).below hb) hl hg hh (by rw [hp.qlen]; exact hq) (fun x hx => hle.l x hx) (fun x hx => (List.mem_append.1 hx).elim (hle.g x) (hle.h x)) (fun q hq => by obtain ⟨z, hz, rfl⟩ := List.mem_map.1 hq; exact ⟨hle.qa _ (hm z hz), hle.qb _ (hm z hz)⟩) (FAt w) ((hp.who hle (Nat.le_refl _)).below hb) (fun q hq s hs => by
    obtain ⟨z, hz, rfl⟩ := List.mem_map.1 hq
    rw [hp.F z hz] at hs
    have := hle.qs _ (hm z hz) s hs
    omega))
  have HP := Lib.hid hp
  have HM := Lib.hid hm
  obtain ⟨a0, c0, rfl⟩ := hp.rs.form
  obtain ⟨a1, c1, rfl⟩ := hp.rg.form
  obtain ⟨a2, c2, rfl⟩ := hp.rh.form
  obtain ⟨a3, c3, rfl⟩ := hp.rq.form
  have HT := Lib.hid (show OneAt w #[.slice a0 p.l.length c0, .slice a1 p.g.length c1, .slice a2 p.h.length c2, .slice a3 zs.length c3] (w.alloc (.cells #[.slice a0 p.l.length c0, .slice a1 p.g.length c1, .slice a2 p.h.length c2, .slice a3 zs.length c3] 26)) from ⟨Blk.new w _ _, (Below.refl _ _).alloc (Nat.le_refl _) _⟩)
  have HQ := Lib.hid hzl
  have hz100 : zs.length ≤ 100 := by omega
  clear hp hle hzl hm
  go_enter Tryz.func30, Tryz.ntmps30
  go_wp2_with fail
  refine (RT.out _ HT.out.low).mono ?_
  rintro e w1 ⟨⟨b, rfl, hb⟩, hb1⟩
  have HT := Lib.hid (HT.out.later hb1)
  have HRI := Lib.hid (hb.trans RI)
  clear hb1 hb RT RI
  cases b with
  | false =>
    go_wp2_with fail
    go_ret
    exact ⟨⟨emp, rfl, fun h => absurd (HRI.out.2 h) (by decide), fun _ => rfl⟩, HT.out.low⟩
  | true =>
    have HR := Lib.hid (HRI.out.1 rfl)
    clear HRI
    have HTX := Lib.hid (show textP p = ⟨(joinN (p.l.map printS ++ p.g.map growT ++ p.h.map shrinkT ++ p.q.map textQ)).toArray⟩ from rfl)
    have HS0 := Lib.hid (sb_new w1 w1.heap.size (Nat.le_refl _))
    have HB0 := Lib.hid ((Below.refl w1.heap.size w1).alloc (Nat.le_refl _) (.cells #[.pointer none, .slice none 0 0] 92))
    obtain ⟨ca, fa, za⟩ := HT.out.a
    have hR0 : w.heap.size < w1.heap.size := za
    go_wp2_with fail
    go_loopw [20] (fun i wr => ∃ (k : Nat) (acc : List UInt8), k ≤ p.l.length ∧ i = .int .i64 k ∧ Hid (acc = joinN ([] ++ (p.l.map printS).take k)) ∧ acc.length ≤ 0 + k * 300 ∧ Hid (SbAt w1.heap.size w1.heap.size acc wr) ∧ Hid (Below w1.heap.size w1 wr) ∧ w1.heap.size ≤ wr.heap.size) (fun i _ => p.l.length - (intOf i).toNat)
    case atStart => exact ⟨0, [], by omega, rfl, Lib.hid rfl, by simp, HS0, HB0, HB0.out.size⟩
    case round =>
      skip
      obtain ⟨k, acc, hk, rfl, HA, hacc, HS, HB, hsz⟩ := hrel
      have HW := Lib.hid (HT.out.low.trans (HB.out.mono HT.out.low.size))
      obtain ⟨ca, fa, za⟩ : Blk wr w.heap.size #[.slice a0 p.l.length c0, .slice a1 p.g.length c1, .slice a2 p.h.length c2, .slice a3 zs.length c3] := ⟨fun o => (HB.out.cell (p := ⟨w.heap.size, o, none⟩) hR0).trans (HT.out.a.1 o), fun o => (HB.out.frozen (p := ⟨w.heap.size, o, none⟩) hR0).trans (HT.out.a.2.1 o), Nat.lt_of_lt_of_le hR0 hsz⟩
      by_cases hlt : k < p.l.length
      · obtain ⟨b3, o3, e3, he3, hc3, hm3, hb3, hx3⟩ := (HP.out.rs.below HW.out).pos (by omega)
        simp only [Value.slice.injEq, true_and] at he3
        obtain ⟨rfl, rfl⟩ := he3
        obtain ⟨p0, p1, p2, p3, p4, p5, p6, p7, p8⟩ := st_cell (w := wr) hx3 k hlt
        have hr := HR.out.ok.l _ (List.getElem_mem hlt)
        have SP := Lib.hid (fun W => syn_Print p.l[k] W (st_le_mono (rightS_le hr) (by decide)))
        have hps := printS_size hr
        have HN := Lib.hid (show acc ++ (bl (printS p.l[k]) ++ [10]) = joinN ([] ++ (p.l.map printS).take (k + 1)) by
          rw [HA.out, take_snocP _ _ hlt]
          simp only [joinN_app, joinN_one, List.nil_append])
        have HLEN := Lib.hid (show (bl (printS p.l[k])).length ≤ 100 by rw [bl_len]; exact hps)
        clear hx3 HA
        have PT := Lib.hid (fun v W (h : SlA W 1 v [printS p.l[k]].length (strs [printS p.l[k]])) (hs : SbAt w1.heap.size w1.heap.size acc W) (hB : w1.heap.size ≤ W.heap.size) => policy_Print1 v [printS p.l[k]] w1.heap.size w1.heap.size acc W h (by simp) (by rw [joinB_one]; omega) hs (by omega) hB)
        simp only [joinB_one] at PT
        generalize printS p.l[k] = x at *
        generalize p.l[k] = st at *
        obtain ⟨k0, ⟨h1, h2⟩, who, ⟨A1, A2⟩, ⟨B1, B2⟩, via⟩ := st
        go_wp2_with fail
        refine (SP.out _).mono ?_
        rintro e w4 ⟨rfl, hb4⟩
        have hba : Below wr.heap.size wr (wr.alloc (.cells #[.int .i64 k0, .string h1, .string h2, .string who, .string A1, .string A2, .string B1, .string B2, .string via] 63)) := (Below.refl _ _).alloc (Nat.le_refl _) _
        have hb40 := hba.trans (hb4.mono hba.size)
        have HS4 := Lib.hid (sb_below HS.out hb40)
        have HB4 := Lib.hid (HB.out.trans (hb40.mono HB.out.size))
        have hsz4 := HB4.out.size
        clear hb4 hba hb40 SP
        go_wp2_with fail
        have hbq : Below w4.heap.size w4 (w4.alloc (.cells #[.string x] 9)) := (Below.refl _ _).alloc (Nat.le_refl _) _
        have HN1 := Lib.hid (show Sl (w4.alloc (.cells #[.string x] 9)) 1 (.slice (some ⟨w4.heap.size, 0, none⟩) 1 1) 1 (strs [x]) from Sl.new w4 [.string x] 9 1 1 w4.heap.size rfl rfl (by simp [maxLen]))
        have hsz5 : w1.heap.size ≤ (w4.alloc (.cells #[.string x] 9)).heap.size := by simp; omega
        refine (PT.out _ _ HN1.out.a (sb_below HS4.out hbq) hsz5).mono ?_
        rintro e w5 ⟨rfl, hs5, hb5⟩
        have HS5 := Lib.hid hs5
        have hb5' := HB4.out.trans (hbq.mono HB4.out.size)
        have HB5 := Lib.hid (hb5'.trans hb5)
        have hsz5 := HB5.out.size
        clear hs5 hb5 hb5' hbq PT
        go_wp2
        exact ⟨⟨k + 1, acc ++ (bl x ++ [10]), by omega, by go_num, HN, by have := HLEN.out; simp; omega, HS5, HB5, hsz5⟩, by simp [intOf]; omega⟩
      · have HX0 := Lib.hid (show acc = joinN (p.l.map printS) by
          have h := HA.out
          rw [List.take_of_length_le (by simp; omega)] at h
          exact h)
        have hk0 : k = p.l.length := by omega
        subst hk0
        clear hlt
        obtain ⟨wr0, rfl⟩ : ∃ X, X = wr := ⟨_, rfl⟩
        go_wp2_with fail
        go_loopw [33] (fun i wr => ∃ (k : Nat) (acc : List UInt8), k ≤ p.g.length ∧ i = .int .i64 k ∧ Hid (acc = joinN (p.l.map printS ++ (p.g.map growT).take k)) ∧ acc.length ≤ 30000 + k * 300 ∧ Hid (SbAt w1.heap.size w1.heap.size acc wr) ∧ Hid (Below w1.heap.size w1 wr) ∧ w1.heap.size ≤ wr.heap.size) (fun i _ => p.g.length - (intOf i).toNat)
        case atStart => exact ⟨0, acc, by omega, rfl, Lib.hid (by rw [HX0.out]; simp), by omega, HS, HB, hsz⟩
        case round =>
          skip
          obtain ⟨k, acc, hk, rfl, HA, hacc, HS, HB, hsz⟩ := hrel
          have HW := Lib.hid (HT.out.low.trans (HB.out.mono HT.out.low.size))
          obtain ⟨ca, fa, za⟩ : Blk wr w.heap.size #[.slice a0 p.l.length c0, .slice a1 p.g.length c1, .slice a2 p.h.length c2, .slice a3 zs.length c3] := ⟨fun o => (HB.out.cell (p := ⟨w.heap.size, o, none⟩) hR0).trans (HT.out.a.1 o), fun o => (HB.out.frozen (p := ⟨w.heap.size, o, none⟩) hR0).trans (HT.out.a.2.1 o), Nat.lt_of_lt_of_le hR0 hsz⟩
          by_cases hlt : k < p.g.length
          · obtain ⟨b3, o3, e3, he3, hc3, hm3, hb3, hx3⟩ := (HP.out.rg.below HW.out).pos (by omega)
            simp only [Value.slice.injEq, true_and] at he3
            obtain ⟨rfl, rfl⟩ := he3
            obtain ⟨p0, p1⟩ := rl_cell (w := wr) hx3 k hlt
            have hr := HR.out.ok.g _ (List.getElem_mem hlt)
            have SP := Lib.hid (fun W => syn_PrintRole p.g[k] W (rl_le_mono (isRole_le hr) (by decide)))
            have hps := growT_size hr
            have HN := Lib.hid (show acc ++ (bl (growT p.g[k]) ++ [10]) = joinN (p.l.map printS ++ (p.g.map growT).take (k + 1)) by
              rw [HA.out, take_snocP _ _ hlt]
              simp only [joinN_app, joinN_one, List.append_assoc])
            have HLEN := Lib.hid (show (bl (growT p.g[k])).length ≤ 100 by rw [bl_len]; exact hps)
            clear hx3 HA
            have PT := Lib.hid (fun v W (h : SlA W 1 v [wGrow, roleT p.g[k]].length (strs [wGrow, roleT p.g[k]])) (hs : SbAt w1.heap.size w1.heap.size acc W) (hB : w1.heap.size ≤ W.heap.size) => policy_Print1 v [wGrow, roleT p.g[k]] w1.heap.size w1.heap.size acc W h (by simp) (by show (growT p.g[k]).size ≤ 1000000; omega) hs (by omega) hB)
            have hjt : joinB [wGrow, roleT p.g[k]] ⟨#[32]⟩ = growT p.g[k] := rfl
            simp only [hjt] at PT
            clear hjt
            generalize growT p.g[k] = y at *
            generalize roleT p.g[k] = x at *
            generalize p.g[k] = st at *
            obtain ⟨h1, h2⟩ := st
            go_wp2_with fail
            refine (SP.out _).mono ?_
            rintro e w4 ⟨rfl, hb4⟩
            have hba : Below wr.heap.size wr (wr.alloc (.cells #[.string h1, .string h2] 54)) := (Below.refl _ _).alloc (Nat.le_refl _) _
            have hb40 := hba.trans (hb4.mono hba.size)
            have HS4 := Lib.hid (sb_below HS.out hb40)
            have HB4 := Lib.hid (HB.out.trans (hb40.mono HB.out.size))
            have hsz4 := HB4.out.size
            clear hb4 hba hb40 SP
            go_wp2_with fail
            have hbq : Below w4.heap.size w4 (w4.alloc (.cells #[.string wGrow, .string x] 9)) := (Below.refl _ _).alloc (Nat.le_refl _) _
            have HN1 := Lib.hid (show Sl (w4.alloc (.cells #[.string wGrow, .string x] 9)) 1 (.slice (some ⟨w4.heap.size, 0, none⟩) 2 2) 2 (strs [wGrow, x]) from Sl.new w4 [.string wGrow, .string x] 9 1 2 w4.heap.size rfl rfl (by simp [maxLen]))
            have hsz5 : w1.heap.size ≤ (w4.alloc (.cells #[.string wGrow, .string x] 9)).heap.size := by simp; omega
            refine (PT.out _ _ HN1.out.a (sb_below HS4.out hbq) hsz5).mono ?_
            rintro e w5 ⟨rfl, hs5, hb5⟩
            have HS5 := Lib.hid hs5
            have hb5' := HB4.out.trans (hbq.mono HB4.out.size)
            have HB5 := Lib.hid (hb5'.trans hb5)
            have hsz5 := HB5.out.size
            clear hs5 hb5 hb5' hbq PT
            go_wp2
            exact ⟨⟨k + 1, acc ++ (bl y ++ [10]), by omega, by go_num, HN, by have := HLEN.out; simp; omega, HS5, HB5, hsz5⟩, by simp [intOf]; omega⟩
          · have HX1 := Lib.hid (show acc = joinN (p.l.map printS ++ p.g.map growT) by
              have h := HA.out
              rw [List.take_of_length_le (by simp; omega)] at h
              exact h)
            have hk0 : k = p.g.length := by omega
            subst hk0
            clear hlt
            obtain ⟨wr1, rfl⟩ : ∃ X, X = wr := ⟨_, rfl⟩
            go_wp2_with fail
            go_loopw [46] (fun i wr => ∃ (k : Nat) (acc : List UInt8), k ≤ p.h.length ∧ i = .int .i64 k ∧ Hid (acc = joinN (p.l.map printS ++ p.g.map growT ++ (p.h.map shrinkT).take k)) ∧ acc.length ≤ 60000 + k * 300 ∧ Hid (SbAt w1.heap.size w1.heap.size acc wr) ∧ Hid (Below w1.heap.size w1 wr) ∧ w1.heap.size ≤ wr.heap.size) (fun i _ => p.h.length - (intOf i).toNat)
            case atStart => exact ⟨0, acc, by omega, rfl, Lib.hid (by rw [HX1.out]; simp), by omega, HS, HB, hsz⟩
            case round =>
              skip
              obtain ⟨k, acc, hk, rfl, HA, hacc, HS, HB, hsz⟩ := hrel
              have HW := Lib.hid (HT.out.low.trans (HB.out.mono HT.out.low.size))
              obtain ⟨ca, fa, za⟩ : Blk wr w.heap.size #[.slice a0 p.l.length c0, .slice a1 p.g.length c1, .slice a2 p.h.length c2, .slice a3 zs.length c3] := ⟨fun o => (HB.out.cell (p := ⟨w.heap.size, o, none⟩) hR0).trans (HT.out.a.1 o), fun o => (HB.out.frozen (p := ⟨w.heap.size, o, none⟩) hR0).trans (HT.out.a.2.1 o), Nat.lt_of_lt_of_le hR0 hsz⟩
              by_cases hlt : k < p.h.length
              · obtain ⟨b3, o3, e3, he3, hc3, hm3, hb3, hx3⟩ := (HP.out.rh.below HW.out).pos (by omega)
                simp only [Value.slice.injEq, true_and] at he3
                obtain ⟨rfl, rfl⟩ := he3
                obtain ⟨p0, p1⟩ := rl_cell (w := wr) hx3 k hlt
                have hr := HR.out.ok.h _ (List.getElem_mem hlt)
                have SP := Lib.hid (fun W => syn_PrintRole p.h[k] W (rl_le_mono (isRole_le hr) (by decide)))
                have hps := shrinkT_size hr
                have HN := Lib.hid (show acc ++ (bl (shrinkT p.h[k]) ++ [10]) = joinN (p.l.map printS ++ p.g.map growT ++ (p.h.map shrinkT).take (k + 1)) by
                  rw [HA.out, take_snocP _ _ hlt]
                  simp only [joinN_app, joinN_one, List.append_assoc])
                have HLEN := Lib.hid (show (bl (shrinkT p.h[k])).length ≤ 100 by rw [bl_len]; exact hps)
                clear hx3 HA
                have PT := Lib.hid (fun v W (h : SlA W 1 v [wShrink, roleT p.h[k]].length (strs [wShrink, roleT p.h[k]])) (hs : SbAt w1.heap.size w1.heap.size acc W) (hB : w1.heap.size ≤ W.heap.size) => policy_Print1 v [wShrink, roleT p.h[k]] w1.heap.size w1.heap.size acc W h (by simp) (by show (shrinkT p.h[k]).size ≤ 1000000; omega) hs (by omega) hB)
                have hjt : joinB [wShrink, roleT p.h[k]] ⟨#[32]⟩ = shrinkT p.h[k] := rfl
                simp only [hjt] at PT
                clear hjt
                generalize shrinkT p.h[k] = y at *
                generalize roleT p.h[k] = x at *
                generalize p.h[k] = st at *
                obtain ⟨h1, h2⟩ := st
                go_wp2_with fail
                refine (SP.out _).mono ?_
                rintro e w4 ⟨rfl, hb4⟩
                have hba : Below wr.heap.size wr (wr.alloc (.cells #[.string h1, .string h2] 54)) := (Below.refl _ _).alloc (Nat.le_refl _) _
                have hb40 := hba.trans (hb4.mono hba.size)
                have HS4 := Lib.hid (sb_below HS.out hb40)
                have HB4 := Lib.hid (HB.out.trans (hb40.mono HB.out.size))
                have hsz4 := HB4.out.size
                clear hb4 hba hb40 SP
                go_wp2_with fail
                have hbq : Below w4.heap.size w4 (w4.alloc (.cells #[.string wShrink, .string x] 9)) := (Below.refl _ _).alloc (Nat.le_refl _) _
                have HN1 := Lib.hid (show Sl (w4.alloc (.cells #[.string wShrink, .string x] 9)) 1 (.slice (some ⟨w4.heap.size, 0, none⟩) 2 2) 2 (strs [wShrink, x]) from Sl.new w4 [.string wShrink, .string x] 9 1 2 w4.heap.size rfl rfl (by simp [maxLen]))
                have hsz5 : w1.heap.size ≤ (w4.alloc (.cells #[.string wShrink, .string x] 9)).heap.size := by simp; omega
                refine (PT.out _ _ HN1.out.a (sb_below HS4.out hbq) hsz5).mono ?_
                rintro e w5 ⟨rfl, hs5, hb5⟩
                have HS5 := Lib.hid hs5
                have hb5' := HB4.out.trans (hbq.mono HB4.out.size)
                have HB5 := Lib.hid (hb5'.trans hb5)
                have hsz5 := HB5.out.size
                clear hs5 hb5 hb5' hbq PT
                go_wp2
                exact ⟨⟨k + 1, acc ++ (bl y ++ [10]), by omega, by go_num, HN, by have := HLEN.out; simp; omega, HS5, HB5, hsz5⟩, by simp [intOf]; omega⟩
              · have HX2 := Lib.hid (show acc = joinN (p.l.map printS ++ p.g.map growT ++ p.h.map shrinkT) by
                  have h := HA.out
                  rw [List.take_of_length_le (by simp; omega)] at h
                  exact h)
                have hk0 : k = p.h.length := by omega
                subst hk0
                clear hlt
                obtain ⟨wr2, rfl⟩ : ∃ X, X = wr := ⟨_, rfl⟩
                go_wp2_with fail
                go_loopw [59] (fun i wr => ∃ (k : Nat) (acc : List UInt8), k ≤ zs.length ∧ i = .int .i64 k ∧ Hid (acc = joinN (p.l.map printS ++ p.g.map growT ++ p.h.map shrinkT ++ (p.q.map textQ).take k)) ∧ acc.length ≤ 90000 + k * 300 ∧ Hid (SbAt w1.heap.size w1.heap.size acc wr) ∧ Hid (Below w1.heap.size w1 wr) ∧ w1.heap.size ≤ wr.heap.size) (fun i _ => zs.length - (intOf i).toNat)
                case atStart => exact ⟨0, acc, by omega, rfl, Lib.hid (by rw [HX2.out]; simp), by omega, HS, HB, hsz⟩
                case round =>
                  skip
                  obtain ⟨k, acc, hk, rfl, HA, hacc, HS, HB, hsz⟩ := hrel
                  have HW := Lib.hid (HT.out.low.trans (HB.out.mono HT.out.low.size))
                  obtain ⟨ca, fa, za⟩ : Blk wr w.heap.size #[.slice a0 p.l.length c0, .slice a1 p.g.length c1, .slice a2 p.h.length c2, .slice a3 zs.length c3] := ⟨fun o => (HB.out.cell (p := ⟨w.heap.size, o, none⟩) hR0).trans (HT.out.a.1 o), fun o => (HB.out.frozen (p := ⟨w.heap.size, o, none⟩) hR0).trans (HT.out.a.2.1 o), Nat.lt_of_lt_of_le hR0 hsz⟩
                  by_cases hlt : k < zs.length
                  · obtain ⟨b3, o3, e3, he3, hc3, hm3, hb3, hx3⟩ := (HP.out.rq.below HW.out).pos (by omega)
                    simp only [Value.slice.injEq, true_and] at he3
                    obtain ⟨rfl, rfl⟩ := he3
                    have hlt' : k < (zs.map qz).length := by simpa using hlt
                    have hqe : (zs.map qz)[k] = qz zs[k] := by simp
                    obtain ⟨p0, p1, p2, p3, p4, p5⟩ := q_cell (w := wr) (l := zs.map qz) hx3 k hlt'
                    rw [hqe] at p0 p1 p2 p3 p4 p5
                    have hzm := HM.out _ (List.getElem_mem hlt)
                    have hr := HR.out.ok.q _ hzm
                    have hus := (HP.out.below HW.out).rw _ (List.getElem_mem hlt)
                    have SP := Lib.hid (fun W (hb : Below wr.heap.size wr W) => query_Print (qz zs[k]) zs[k].1.us W (rl_le_mono (good_a hr) (by decide)) (rl_le_mono (good_b hr) (by decide)) (hus.below hb) (fun s hs => Nat.le_trans (good_us hr s hs) (by decide)))
                    rw [show printQ (qz zs[k]) zs[k].1.us = textQ zs[k].1 from if_pos (right_iff.2 hr)] at SP
                    have hps := textQ_size _ hr
                    have HN := Lib.hid (show acc ++ (bl (textQ zs[k].1) ++ [10]) = joinN (p.l.map printS ++ p.g.map growT ++ p.h.map shrinkT ++ (p.q.map textQ).take (k + 1)) by
                      rw [HA.out, show (p.q.map textQ).take (k + 1) = (p.q.map textQ).take k ++ [textQ zs[k].1] from (by rw [← HP.out.z, List.map_map]; exact take_snocP (fun z => textQ z.1) zs hlt)]
                      simp only [joinN_app, joinN_one, List.append_assoc])
                    have HLEN := Lib.hid (show (bl (textQ zs[k].1)).length ≤ 200 by rw [bl_len]; exact hps)
                    clear hx3 HA
                    have PT := Lib.hid (fun v W (h : SlA W 1 v [textQ zs[k].1].length (strs [textQ zs[k].1])) (hs : SbAt w1.heap.size w1.heap.size acc W) (hB : w1.heap.size ≤ W.heap.size) => policy_Print1 v [textQ zs[k].1] w1.heap.size w1.heap.size acc W h (by simp) (by rw [joinB_one]; omega) hs (by omega) hB)
                    simp only [joinB_one] at PT
                    clear hr hzm
                    generalize textQ zs[k].1 = x at *
                    generalize zs[k] = z at *
                    obtain ⟨⟨k0, ⟨x1, x2⟩, ⟨x3, x4⟩, us⟩, zv⟩ := z
                    dsimp only [qz] at hus p0 p1 p2 p3 p4 p5 SP
                    obtain ⟨wo, wc, rfl⟩ := hus.form
                    clear hus hqe
                    go_wp2_with fail
                    have hba : Below wr.heap.size wr (wr.alloc (.cells #[.int .i64 k0, .string x1, .string x2, .string x3, .string x4, .slice wo us.length wc] 66)) := (Below.refl _ _).alloc (Nat.le_refl _) _
                    refine (SP.out _ hba).mono ?_
                    rintro e w4 ⟨rfl, hb4⟩
                    have hb40 := hba.trans (hb4.mono hba.size)
                    have HS4 := Lib.hid (sb_below HS.out hb40)
                    have HB4 := Lib.hid (HB.out.trans (hb40.mono HB.out.size))
                    have hsz4 := HB4.out.size
                    clear hb4 hba hb40 SP
                    go_wp2_with fail
                    have hbq : Below w4.heap.size w4 (w4.alloc (.cells #[.string x] 9)) := (Below.refl _ _).alloc (Nat.le_refl _) _
                    have HN1 := Lib.hid (show Sl (w4.alloc (.cells #[.string x] 9)) 1 (.slice (some ⟨w4.heap.size, 0, none⟩) 1 1) 1 (strs [x]) from Sl.new w4 [.string x] 9 1 1 w4.heap.size rfl rfl (by simp [maxLen]))
                    have hsz5 : w1.heap.size ≤ (w4.alloc (.cells #[.string x] 9)).heap.size := by simp; omega
                    refine (PT.out _ _ HN1.out.a (sb_below HS4.out hbq) hsz5).mono ?_
                    rintro e w5 ⟨rfl, hs5, hb5⟩
                    have HS5 := Lib.hid hs5
                    have hb5' := HB4.out.trans (hbq.mono HB4.out.size)
                    have HB5 := Lib.hid (hb5'.trans hb5)
                    have hsz5 := HB5.out.size
                    clear hs5 hb5 hb5' hbq PT
                    go_wp2
                    exact ⟨⟨k + 1, acc ++ (bl x ++ [10]), by omega, by go_num, HN, by have := HLEN.out; simp; omega, HS5, HB5, hsz5⟩, by simp [intOf]; omega⟩
                  · have HX3 := Lib.hid (show acc = joinN (p.l.map printS ++ p.g.map growT ++ p.h.map shrinkT ++ p.q.map textQ) by
                      have h := HA.out
                      rw [List.take_of_length_le (by rw [List.length_map, ← HQ.out]; omega)] at h
                      exact h)
                    have hk0 : k = zs.length := by omega
                    subst hk0
                    clear hlt
                    obtain ⟨wr3, rfl⟩ : ∃ X, X = wr := ⟨_, rfl⟩
                    go_wp2_with (go_at_call 74; refine (Tryz.Builder_String_any_k w1.heap.size w1.heap.size acc _ HS.out hsz).mono ?_; rintro e w9 ⟨rfl, _, hb9, _⟩)
                    have HB9 := Lib.hid (HB.out.trans hb9)
                    clear hb9
                    go_ret
                    exact ⟨⟨_, rfl, fun _ => by rw [HTX.out, HX3.out], fun h => absurd HR.out h⟩, HT.out.low.trans (HB9.out.mono HT.out.low.size)⟩
end Go.Proofs.YtnhkgfgbhedphaaGreatDoor
namespace Go.Proofs.YtnhkgfgbhedphaaGreatDoor
open Go.RowKit Go.Shelf

def eqF (a b c a' b' c' : Int) : Bool := decide (a = a' ∧ b = b' ∧ c = c')
set_option maxRecDepth 100000 in
set_option maxHeartbeats 1000000 in
theorem fault_equalIn (d : Nat) (a b c a' b' c' : Int) (w : World) : (Op.equalIn (d + 2) 48 (.agg #[.int .i64 a, .int .i64 b, .int .i64 c]) (.agg #[.int .i64 a', .int .i64 b', .int .i64 c'])).run Tryz.prog w = .ok (eqF a b c a' b' c') w := by
  have hS : Tryz.prog.underlying 48 = some (.struct (Tryz.prog.fieldsOf 48)) := by kernel_rfl
  have hp : Tryz.prog.stoodInHeld 48 = false := by kernel_rfl
  rw [run_equalIn_agg w (d + 1) 48 _ _ hS hp]
  simp only [Program.fieldsOf, Tryz.underlying48]
  go_simp
  by_cases h1 : a = a' <;> by_cases h2 : b = b' <;> by_cases h3 : c = c' <;> simp [h1, h2, h3, eqF]
theorem fault_eql (a b c a' b' c' : Int) (w : World) : (binOp .eql 48 (.agg #[.int .i64 a, .int .i64 b, .int .i64 c]) (.agg #[.int .i64 a', .int .i64 b', .int .i64 c'])).run Tryz.prog w = .ok (.bool (eqF a b c a' b' c')) w := by
  rw [run_eql_struct, show (10000 : Nat) = 9998 + 2 from rfl, fault_equalIn 9998]
  rfl
theorem eqF_same (a b c : Int) : eqF a b c a b c = true := decide_eq_true ⟨rfl, rfl, rfl⟩
end Go.Proofs.YtnhkgfgbhedphaaGreatDoor
namespace Go.Proofs.YtnhkgfgbhedphaaGreatDoor
open Go.RowKit Go.Shelf

def ex5T : ByteArray := ⟨#[103, 114, 111, 119, 32, 65, 46, 114, 10, 65, 46, 114, 32, 60, 45, 32, 66, 10, 65, 46, 114, 32, 60, 45, 32, 66, 32, 35, 32, 116, 119, 105, 99, 101, 10]⟩
def ex5R : Rl := ⟨⟨#[65]⟩, ⟨#[114]⟩⟩
def ex5P : Pd := ⟨[⟨1, ex5R, ⟨#[66]⟩, noR, noR, emp⟩], [ex5R], [], []⟩
def ex5O : ByteArray := ⟨#[65, 46, 114, 32, 60, 45, 32, 66, 10, 103, 114, 111, 119, 32, 65, 46, 114, 10]⟩
set_option maxRecDepth 100000 in
theorem ex5_parse : parseP ex5T = (ex5P, 0, 0, 0) := by kernel_rfl
theorem ex5_fits : fitsD ex5P = true := by kernel_rfl
theorem ex5_right : RightD ex5P := by
  refine ⟨⟨fun x hx => ?_, fun x hx => ?_, fun x hx => ?_, fun x hx => ?_⟩, by kernel_rfl, by kernel_rfl, rfl, ex5_fits⟩
  · obtain rfl := List.mem_singleton.1 hx
    kernel_rfl
  · obtain rfl := List.mem_singleton.1 hx
    kernel_rfl
  · exact absurd hx (by simp [ex5P])
  · exact absurd hx (by simp [ex5P])
theorem ex5_text : textP ex5P = ex5O := by kernel_rfl
set_option maxRecDepth 100000 in
set_option maxHeartbeats 4000000 in
theorem law5_lives (w : World) (hg : Gl w) : Calls Tryz.prog 23 #[] w fun e w' => e = .returned (.bool true) ∧ Below w.heap.size w w' := by
  have P := Lib.hid (policy_Parse ex5T w hg (by decide))
  rw [ex5_parse] at P
  have hEq := fault_eql
  have hSelf := eqF_same
  go_enter Tryz.func23, Tryz.ntmps23
  go_wp2_with fail
  refine P.out.mono ?_
  rintro e w1 ⟨v0, v1, v2, v3, zs, rfl, hpo, hb1⟩
  have hp := hpo.pol
  have hz : zs = [] := List.map_eq_nil_iff.1 hp.z
  subst hz
  have PR := Lib.hid (fun W (hb : Below w1.heap.size w1 W) => policy_RightL v0 v1 v2 v3 ex5P.l ex5P.g ex5P.h ([].map qz) W ((hp.at ((okP_le ex5_right.ok).mono (by decide) (by decide : (12 : Nat) ≤ 40))).below hb) (by decide) (by decide) (by decide) (by decide) (fun x hx => ((okP_le ex5_right.ok).mono (by decide) (by decide : (12 : Nat) ≤ 40)).l x hx) (fun x hx => (List.mem_append.1 hx).elim (fun h => rl_le_mono ((okP_le ex5_right.ok).g x h) (by decide)) (fun h => rl_le_mono ((okP_le ex5_right.ok).h x h) (by decide))) (fun q hq => by simp at hq) (FAt w1) (fun q hq => by simp at hq) (fun q hq => by simp at hq))
  have PP := Lib.hid (fun W (hb : Below w1.heap.size w1 W) => policy_Print v0 v1 v2 v3 ex5P [] W (hp.below hb) ((okP_le ex5_right.ok).mono (by decide) (by decide)) (by decide) (by decide) (by decide) (by decide))
  obtain ⟨a0, c0, rfl⟩ : ∃ a c, v0 = .slice a 1 c := hp.rs.form
  obtain ⟨a1, c1, rfl⟩ : ∃ a c, v1 = .slice a 1 c := hp.rg.form
  obtain ⟨a2, c2, rfl⟩ : ∃ a c, v2 = .slice a 0 c := hp.rh.form
  obtain ⟨a3, c3, rfl⟩ : ∃ a c, v3 = .slice a 0 c := hp.rq.form
  have HT := Lib.hid (TwoAt.new w1 #[.slice a0 1 c0, .slice a1 1 c1, .slice a2 0 c2, .slice a3 0 c3] #[.int .i64 0, .int .i64 0, .int .i64 0] 26 48)
  have HB1 := Lib.hid hb1
  have RI := Lib.hid (rightD_iff (p := ex5P) (zs := []) hp.z hp.F (by decide) (by decide) (by decide))
  clear hpo hp hb1 P
  go_wp2_with fail
  refine (PR.out _ HT.out.low).mono ?_
  rintro e w2 ⟨⟨b, rfl, hb⟩, hb2⟩
  obtain rfl : b = true := hb.2 (RI.out.2 ex5_right)
  have HT := Lib.hid (HT.out.later hb2)
  clear hb hb2 PR RI
  obtain ⟨ca, fa, za⟩ := HT.out.a
  go_wp2_with fail
  refine (PP.out _ HT.out.low).mono ?_
  rintro e w3 ⟨⟨t, rfl, ht, _⟩, hb3⟩
  obtain rfl : t = ex5O := (ht ex5_right).trans ex5_text
  have HT := Lib.hid (HT.out.later hb3)
  have HO := Lib.hid (tx_eq (a := ex5O) (b := ex5O) rfl)
  clear ht hb3 PP ca fa za
  have d1 : (ex5O.toList == [65, 46, 114, 32, 60, 45, 32, 66, 10, 103, 114, 111, 119, 32, 65, 46, 114, 10]) = true := HO.out
  go_wp2
  go_ret
  exact ⟨rfl, HB1.out.trans (HT.out.low.mono HB1.out.size)⟩
end Go.Proofs.YtnhkgfgbhedphaaGreatDoor
namespace Go.Proofs.YtnhkgfgbhedphaaGreatDoor
open Go.RowKit Go.Shelf

inductive Item where
  | ask (q : Qd)
  | grow (r : Rl)
  | shrink (r : Rl)
  | stmt (x : St)
  | none
def addI (p : Pd) : Item → Pd
  | .ask q => { p with q := p.q ++ [q] }
  | .grow r => { p with g := insAllR [] (p.g ++ [r]) }
  | .shrink r => { p with h := insAllR [] (p.h ++ [r]) }
  | .stmt x => { p with l := insAll [] (p.l ++ [x]) }
  | .none => p
def IsI (s : ByteArray) (it : Item) : Prop := ∀ p : Pd, (lineP p s).1 = addI p it ∧ (lineP p s).2.2 = 0
structure AscP (p : Pd) : Prop where
  l : Asc p.l
  g : AscR p.g
  h : AscR p.h
structure SubP (a b : Pd) : Prop where
  l : ∀ x ∈ a.l, x ∈ b.l
  g : ∀ x ∈ a.g, x ∈ b.g
  h : ∀ x ∈ a.h, x ∈ b.h
  q : ∀ x ∈ a.q, x ∈ b.q
  n : a.q.length ≤ b.q.length
theorem SubP.refl (a : Pd) : SubP a a := ⟨fun _ h => h, fun _ h => h, fun _ h => h, fun _ h => h, Nat.le_refl _⟩
theorem SubP.trans {a b c : Pd} (h : SubP a b) (k : SubP b c) : SubP a c :=
  ⟨fun x hx => k.l x (h.l x hx), fun x hx => k.g x (h.g x hx), fun x hx => k.h x (h.h x hx), fun x hx => k.q x (h.q x hx), Nat.le_trans h.n k.n⟩
theorem sub_add (p : Pd) (it : Item) : SubP p (addI p it) := by
  cases it with
  | ask q => exact ⟨fun _ h => h, fun _ h => h, fun _ h => h, fun _ h => List.mem_append.2 (.inl h), by simp [addI]⟩
  | grow r => exact ⟨fun _ h => h, fun x h => (insAll_memR _ _ _).2 (.inr (List.mem_append.2 (.inl h))), fun _ h => h, fun _ h => h, Nat.le_refl _⟩
  | shrink r => exact ⟨fun _ h => h, fun _ h => h, fun x h => (insAll_memR _ _ _).2 (.inr (List.mem_append.2 (.inl h))), fun _ h => h, Nat.le_refl _⟩
  | stmt y => exact ⟨fun x h => (insAll_mem _ _ _).2 (.inr (List.mem_append.2 (.inl h))), fun _ h => h, fun _ h => h, fun _ h => h, Nat.le_refl _⟩
  | none => exact SubP.refl p
theorem asc_add {p : Pd} (h : AscP p) (it : Item) : AscP (addI p it) := by
  cases it with
  | ask q => exact ⟨h.l, h.g, h.h⟩
  | grow r => exact ⟨h.l, insAll_ascR _ _ List.Pairwise.nil, h.h⟩
  | shrink r => exact ⟨h.l, h.g, insAll_ascR _ _ List.Pairwise.nil⟩
  | stmt y => exact ⟨insAll_asc _ _ List.Pairwise.nil, h.g, h.h⟩
  | none => exact h
def foldI (p : Pd) (L : List (ByteArray × Item)) : Pd := L.foldl (fun p x => addI p x.2) p
theorem foldI_cons (p : Pd) (x : ByteArray × Item) (L : List (ByteArray × Item)) : foldI p (x :: L) = foldI (addI p x.2) L := rfl
theorem sub_fold : ∀ (L : List (ByteArray × Item)) (p : Pd), SubP p (foldI p L)
  | [], p => SubP.refl p
  | x :: L, p => (sub_add p x.2).trans (sub_fold L _)
theorem asc_fold : ∀ (L : List (ByteArray × Item)) {p : Pd}, AscP p → AscP (foldI p L)
  | [], _, h => h
  | x :: L, _, h => asc_fold L (asc_add h x.2)
theorem asc_no : AscP noPd := ⟨List.Pairwise.nil, List.Pairwise.nil, List.Pairwise.nil⟩
theorem asc_ndS {l : List St} (h : Asc l) : l.Nodup := by
  refine List.Pairwise.imp (fun {a b} hab e => ?_) h
  subst e
  exact absurd hab (lt_irrefl' a)
theorem asc_ndR {l : List Rl} (h : AscR l) : l.Nodup := by
  refine List.Pairwise.imp (fun {a b} hab e => ?_) h
  subst e
  exact absurd hab (lt_irrefl'R a)
theorem asc_ndB {l : List ByteArray} (h : AscB l) : l.Nodup := by
  refine List.Pairwise.imp (fun {a b} hab e => ?_) h
  subst e
  have := (cmpS_zero a a).2 rfl
  omega
theorem new_mono {a b : List ByteArray} (h : ∀ x ∈ a, x ∈ b) : (newB a).length ≤ (newB b).length :=
  nodup_le _ _ (asc_ndB (new_asc a)) fun x hx => (new_mem b x).2 (h x ((new_mem a x).1 hx))
theorem roles_sub {a b : Pd} (h : SubP a b) : ∀ x ∈ allRoles a.l a.g a.h (a.q.map dq), x ∈ allRoles b.l b.g b.h (b.q.map dq) := by
  intro x hx
  unfold allRoles at hx ⊢
  simp only [List.mem_append, List.mem_flatMap, List.mem_map] at hx ⊢
  rcases hx with ((⟨s, hs, hx⟩ | hx) | hx) | ⟨y, ⟨q, hq, rfl⟩, hx⟩
  · exact .inl (.inl (.inl ⟨s, h.l s hs, hx⟩))
  · exact .inl (.inl (.inr (h.g x hx)))
  · exact .inl (.inr (h.h x hx))
  · exact .inr ⟨_, ⟨q, h.q q hq, rfl⟩, hx⟩
theorem fits_sub {a b : Pd} (ha : AscP a) (h : SubP a b) (hf : fitsD b = true) : fitsD a = true := by
  unfold fitsD at hf ⊢
  simp only [Bool.and_eq_true, decide_eq_true_eq] at hf ⊢
  obtain ⟨h1, h2, h3, h4, h5, h6⟩ := hf
  have l1 := nodup_le _ _ (asc_ndS ha.l) h.l
  have l2 := nodup_le _ _ (asc_ndR ha.g) h.g
  have l3 := nodup_le _ _ (asc_ndR ha.h) h.h
  have l4 := h.n
  have l5 : (prinsD a).length ≤ (prinsD b).length := new_mono fun x hx => by
    simp only [List.mem_append, List.mem_map, List.mem_flatMap] at hx ⊢
    rcases hx with (⟨r, hr, e⟩ | ⟨s, hs, e⟩) | ⟨q, hq, e⟩
    · exact .inl (.inl ⟨r, roles_sub h r hr, e⟩)
    · exact .inl (.inr ⟨s, h.l s hs, e⟩)
    · exact .inr ⟨q, h.q q hq, e⟩
  have l6 : (namesD a).length ≤ (namesD b).length := new_mono fun x hx => by
    simp only [List.mem_append, List.mem_map, List.mem_flatMap] at hx ⊢
    rcases hx with ⟨r, hr, e⟩ | ⟨s, hs, e⟩
    · exact .inl ⟨r, roles_sub h r hr, e⟩
    · exact .inr ⟨s, h.l s hs, e⟩
  exact ⟨by omega, by omega, by omega, by omega, by omega, by omega⟩
theorem goP_items : ∀ (L : List (ByteArray × Item)) (p z : Pd) (i : Nat), (∀ x ∈ L, IsI x.1 x.2) → AscP p → SubP (foldI p L) z → fitsD z = true → goP p i (L.map (·.1)) = (foldI p L, 0, 0, 0)
  | [], p, _, i, _, _, _, _ => rfl
  | x :: L, p, z, i, hI, ha, hs, hf => by
    obtain ⟨h1, h2⟩ := hI x (List.mem_cons_self ..) p
    rw [List.map_cons]
    unfold goP
    rw [if_neg (by rw [h2]; exact fun h => h rfl), h1]
    have hfit : fitsD (addI p x.2) = true := fits_sub (asc_add ha x.2) ((sub_fold L _).trans hs) hf
    rw [if_pos hfit, foldI_cons]
    exact goP_items L (addI p x.2) z (i + 1) (fun y hy => hI y (List.mem_cons_of_mem _ hy)) (asc_add ha x.2) hs hf
theorem fold_l (x : St) : ∀ (L : List (ByteArray × Item)) (p : Pd), x ∈ (foldI p L).l ↔ x ∈ p.l ∨ ∃ y ∈ L, y.2 = .stmt x
  | [], p => by simp [foldI]
  | y :: L, p => by
    rw [foldI_cons, fold_l x L]
    obtain ⟨s, it⟩ := y
    cases it <;> simp [addI, insAll_mem]
    rename_i z
    constructor
    · rintro ((h | rfl) | h)
      · exact .inl h
      · exact .inr (.inl rfl)
      · exact .inr (.inr h)
    · rintro (h | rfl | h)
      · exact .inl (.inl h)
      · exact .inl (.inr rfl)
      · exact .inr h
theorem fold_g (x : Rl) : ∀ (L : List (ByteArray × Item)) (p : Pd), x ∈ (foldI p L).g ↔ x ∈ p.g ∨ ∃ y ∈ L, y.2 = .grow x
  | [], p => by simp [foldI]
  | y :: L, p => by
    rw [foldI_cons, fold_g x L]
    obtain ⟨s, it⟩ := y
    cases it <;> simp [addI, insAll_memR]
    rename_i z
    constructor
    · rintro ((h | rfl) | h)
      · exact .inl h
      · exact .inr (.inl rfl)
      · exact .inr (.inr h)
    · rintro (h | rfl | h)
      · exact .inl (.inl h)
      · exact .inl (.inr rfl)
      · exact .inr h
theorem fold_h (x : Rl) : ∀ (L : List (ByteArray × Item)) (p : Pd), x ∈ (foldI p L).h ↔ x ∈ p.h ∨ ∃ y ∈ L, y.2 = .shrink x
  | [], p => by simp [foldI]
  | y :: L, p => by
    rw [foldI_cons, fold_h x L]
    obtain ⟨s, it⟩ := y
    cases it <;> simp [addI, insAll_memR]
    rename_i z
    constructor
    · rintro ((h | rfl) | h)
      · exact .inl h
      · exact .inr (.inl rfl)
      · exact .inr (.inr h)
    · rintro (h | rfl | h)
      · exact .inl (.inl h)
      · exact .inl (.inr rfl)
      · exact .inr h
def askOf : Item → List Qd
  | .ask q => [q]
  | _ => []
theorem fold_q : ∀ (L : List (ByteArray × Item)) (p : Pd), (foldI p L).q = p.q ++ L.flatMap fun y => askOf y.2
  | [], p => by simp [foldI]
  | y :: L, p => by
    rw [foldI_cons, fold_q L]
    obtain ⟨s, it⟩ := y
    cases it <;> simp [addI, askOf]
theorem insAll_self {l : List St} (h : l = insAll [] l) : Asc l := by rw [h]; exact insAll_asc _ _ List.Pairwise.nil
theorem insAll_selfR {l : List Rl} (h : l = insAllR [] l) : AscR l := by rw [h]; exact insAll_ascR _ _ List.Pairwise.nil
theorem RightD.asc {p : Pd} (h : RightD p) : AscP p := ⟨insAll_self h.l, insAll_selfR h.g, insAll_selfR h.h⟩
theorem fold_eq {L : List (ByteArray × Item)} {p : Pd} (hp : AscP p) (hl : ∀ x, x ∈ p.l ↔ ∃ y ∈ L, y.2 = .stmt x) (hg : ∀ x, x ∈ p.g ↔ ∃ y ∈ L, y.2 = .grow x) (hh : ∀ x, x ∈ p.h ↔ ∃ y ∈ L, y.2 = .shrink x)
    (hq : (L.flatMap fun y => askOf y.2) = p.q) : foldI noPd L = p := by
  have ha := asc_fold L asc_no
  have e1 : (foldI noPd L).l = p.l := asc_unique _ _ ha.l hp.l fun x => by rw [fold_l, hl]; simp [noPd]
  have e2 : (foldI noPd L).g = p.g := asc_uniqueR _ _ ha.g hp.g fun x => by rw [fold_g, hg]; simp [noPd]
  have e3 : (foldI noPd L).h = p.h := asc_uniqueR _ _ ha.h hp.h fun x => by rw [fold_h, hh]; simp [noPd]
  have e4 : (foldI noPd L).q = p.q := by rw [fold_q, hq]; rfl
  obtain ⟨a, b, c, d⟩ := p
  generalize foldI noPd L = z at *
  obtain ⟨a', b', c', d'⟩ := z
  dsimp only at e1 e2 e3 e4
  rw [e1, e2, e3, e4]
end Go.Proofs.YtnhkgfgbhedphaaGreatDoor
namespace Go.Proofs.YtnhkgfgbhedphaaGreatDoor
open Go.RowKit Go.Shelf

theorem ref_head {l : List Tok} {e : Int} (h : (refS l e).2.2 = 0) : ∃ t r, l = t :: r ∧ t.kind = 1 := by
  cases l with
  | nil =>
    exfalso
    revert h
    simp [refS, fitsS, refEnd, best]
  | cons t r =>
    refine ⟨t, r, rfl, ?_⟩
    by_cases hk : t.kind = 1
    · exact hk
    · exfalso
      have f : ∀ s, fitsS (t :: r) (1 :: s) = 0 := fun s => by simp [fitsS, hk]
      unfold refS at h
      rw [show sh1 = 1 :: [3, 2, 4, 1] from rfl, show sh2 = 1 :: [3, 2, 4, 1, 3, 2] from rfl, show sh3 = 1 :: [3, 2, 4, 1, 3, 2, 3, 2] from rfl, show sh4 = 1 :: [3, 2, 4, 1, 3, 2, 5, 1, 3, 2] from rfl, f, f, f, f] at h
      simp [refEnd] at h
      split at h <;> simp at h

theorem isP_ten {lo hi : Int} {w : List UInt8} (h : isP lo hi w = true) : ∀ c ∈ w, ¬ c = 10 := by
  match w, h with
  | c :: w, h =>
    simp only [isP, Bool.and_eq_true, decide_eq_true_iff] at h
    intro x hx e
    have := List.all_eq_true.1 h.2 x hx
    rw [e] at this
    exact absurd this (by decide)
theorem bl_app (a b : ByteArray) : bl (a ++ b) = bl a ++ bl b := by simp [bl]
theorem role_ten {x : Rl} (h : isRole x = true) : ∀ c ∈ bl (roleT x), ¬ c = 10 := by
  simp only [isRole, Bool.and_eq_true] at h
  have e : bl (roleT x) = bl x.o ++ 46 :: bl x.n := by simp [roleT, bl]
  intro c hc
  rw [e] at hc
  rcases List.mem_append.1 hc with hc | hc
  · exact isP_ten h.1 c hc
  rcases List.mem_cons.1 hc with rfl | hc
  · decide
  · exact isP_ten h.2 c hc
theorem tailL_ten : ∀ (xs : List ByteArray), (∀ x ∈ xs, ∀ c ∈ bl x, ¬ c = 10) → ∀ c ∈ tailL xs, ¬ c = 10
  | [], _ => fun c hc => by cases hc
  | x :: r, h => fun c hc => by
    rw [tailL_cons] at hc
    rcases List.mem_cons.1 hc with rfl | hc
    · decide
    rcases List.mem_append.1 hc with hc | hc
    · exact h x (by simp) c hc
    · exact tailL_ten r (fun y hy => h y (by simp [hy])) c hc
theorem words_ten (k : Int) : ∀ c ∈ tailL (wordsL k), ¬ c = 10 := by
  unfold wordsL
  split
  · decide
  split
  · decide
  split
  · decide
  split
  · decide
  split
  · decide
  split <;> decide
theorem textQ_ten (q : Qd) (h : GoodQ q) : ∀ c ∈ bl (textQ q), ¬ c = 10 := by
  unfold textQ
  rw [parts_line, lineQ_app]
  intro c hc
  rcases List.mem_append.1 hc with hc | hc
  · unfold headW at hc
    split at hc
    · exact isP_ten (word_isP' _ (by simp)) c hc
    · exact isP_ten (word_isP' _ (by simp)) c hc
  rcases List.mem_cons.1 hc with rfl | hc
  · decide
  rcases List.mem_append.1 hc with hc | hc
  · exact role_ten h.a c hc
  rcases List.mem_append.1 hc with hc | hc
  · exact words_ten _ c hc
  rcases List.mem_append.1 hc with hc | hc
  · refine tailL_ten _ (fun x hx => ?_) c hc
    split at hx
    · rename_i hs
      rw [List.mem_singleton.1 hx]
      refine role_ten (h.two ?_)
      unfold secB at hs
      simp only [Bool.or_eq_true, decide_eq_true_iff] at hs
      omega
    · cases hx
  · exact tailL_ten _ (fun x hx => isP_ten (h.p x hx)) c hc
theorem printS_ten (s : St) (h : rightS s = true) : ∀ c ∈ bl (printS s), ¬ c = 10 := by
  obtain ⟨k, hd, who, a, b, via⟩ := s
  have hr := h
  have c4 : ∀ c ∈ bl (⟨#[32, 60, 45, 32]⟩ : ByteArray), ¬ c = 10 := by decide
  have c3 : ∀ c ∈ bl (⟨#[32, 38, 32]⟩ : ByteArray), ¬ c = 10 := by decide
  have c1 : ∀ c ∈ bl (⟨#[46]⟩ : ByteArray), ¬ c = 10 := by decide
  unfold printS
  rw [if_pos hr]
  by_cases k1 : k = 1
  · subst k1
    rw [rightS1] at h
    simp only [Bool.and_eq_true] at h
    rw [if_neg (show ¬(1 : Int) = 2 by decide), if_neg (show ¬(1 : Int) = 3 by decide), if_neg (show ¬(1 : Int) = 4 by decide), bl_app, bl_app]
    intro c hc
    simp only [List.mem_append] at hc
    rcases hc with (hc | hc) | hc
    · exact role_ten h.1.1 c hc
    · exact c4 c hc
    · exact isP_ten h.1.2 c hc
  by_cases k2 : k = 2
  · subst k2
    rw [rightS2] at h
    simp only [Bool.and_eq_true] at h
    rw [if_pos rfl, bl_app, bl_app]
    intro c hc
    simp only [List.mem_append] at hc
    rcases hc with (hc | hc) | hc
    · exact role_ten h.1.1 c hc
    · exact c4 c hc
    · exact role_ten h.1.2 c hc
  by_cases k3 : k = 3
  · subst k3
    rw [rightS3] at h
    simp only [Bool.and_eq_true] at h
    rw [if_neg (show ¬(3 : Int) = 2 by decide), if_pos rfl, bl_app, bl_app, bl_app, bl_app]
    intro c hc
    simp only [List.mem_append] at hc
    rcases hc with (hc | hc) | ((hc | hc) | hc)
    · exact role_ten h.1.1.1 c hc
    · exact c4 c hc
    · exact role_ten h.1.1.2 c hc
    · exact c1 c hc
    · exact isP_ten h.1.2 c hc
  by_cases k4 : k = 4
  · subst k4
    rw [rightS4] at h
    simp only [Bool.and_eq_true] at h
    rw [if_neg (show ¬(4 : Int) = 2 by decide), if_neg (show ¬(4 : Int) = 3 by decide), if_pos rfl, bl_app, bl_app, bl_app, bl_app]
    intro c hc
    simp only [List.mem_append] at hc
    rcases hc with (hc | hc) | ((hc | hc) | hc)
    · exact role_ten h.1.1.1.1 c hc
    · exact c4 c hc
    · exact role_ten h.1.1.1.2 c hc
    · exact c3 c hc
    · exact role_ten h.1.1.2 c hc
  rw [rightS0 _ _ _ _ _ _ k1 k2 k3 k4] at hr
  cases hr
theorem lines_join : ∀ (L : List ByteArray), (∀ s ∈ L, ∀ c ∈ bl s, ¬ c = 10) → linesP (joinN L) = L.map (fun s => (bl s, true))
  | [], _ => rfl
  | s :: L, h => by
    have e : joinN (s :: L) = bl s ++ 10 :: joinN L := by unfold joinN; simp
    rw [e]
    have h1 := lines_at (bl s ++ 10 :: joinN L) (bl s).length (fun k hk => by
      rw [List.getElem?_append_left hk]
      intro h2
      obtain ⟨_, h3⟩ := List.getElem?_eq_some_iff.1 h2
      exact h s (by simp) _ (List.getElem_mem _) h3) (by simp)
    rw [h1, List.take_left, show (bl s ++ 10 :: joinN L).drop ((bl s).length + 1) = joinN L by rw [show bl s ++ 10 :: joinN L = (bl s ++ [10]) ++ joinN L by simp]; exact List.drop_left' (by simp)]
    rw [lines_join L (fun x hx => h x (by simp [hx]))]
    rfl
theorem linesB_join {L : List ByteArray} (h : ∀ s ∈ L, ∀ c ∈ bl s, ¬ c = 10) : linesB ⟨(joinN L).toArray⟩ = L := by
  unfold linesB
  rw [bl_mk, lines_join L h, List.map_map]
  conv => rhs; rw [← List.map_id L]
  refine List.map_congr_left fun s _ => ?_
  exact ba_bl s
theorem isI_stmt {x : St} (h : rightS x = true) : IsI (printS x) (.stmt x) := by
  intro p
  have hp := parse_print x h
  have ht : (tokens (bl (printS x))).2.2 = 0 := by
    by_cases h0 : (tokens (bl (printS x))).2.2 = 0
    · exact h0
    · exfalso
      unfold parseS at hp
      rw [parseT_bad h0] at hp
      have := congrArg (fun z => z.2.2) hp
      exact h0 this
  have hz : (parseS (printS x)).2.2 = 0 := by rw [hp]
  obtain ⟨l, a, b⟩ : ∃ l : List Tok, (tokens (bl (printS x))).1 = l ∧ True := ⟨_, rfl, trivial⟩
  have hT : tokens (bl (printS x)) = (l, (tokens (bl (printS x))).2.1, 0) := by rw [← a, ← ht]
  have hr : (refS l (endOf (printS x))).2.2 = 0 := by
    unfold parseS at hz
    rw [hT, parseT_good rfl] at hz
    have hL := law_parse l (endOf (printS x))
    unfold readS at hL
    rw [hL] at hz
    exact hz
  obtain ⟨t, r, rfl, hk⟩ := ref_head hr
  have ho := tokens_ok (bl (printS x)) t (by rw [a]; exact List.mem_cons_self ..)
  have hcap := okTok1 ho hk
  have hw : ∀ w : ByteArray, isP 65 90 (bl w) = false → ¬ t.tx = w := fun w hw e => by rw [e, hw] at hcap; cases hcap
  unfold lineP lineT
  rw [hT, if_neg (fun h => h rfl)]
  dsimp only
  rw [if_neg (fun h => h.elim (hw _ (by decide)) (hw _ (by decide))), if_neg (hw _ (by decide)), if_neg (hw _ (by decide)), hp]
  exact ⟨rfl, rfl⟩
theorem isI_ask {q : Qd} (h : GoodQ q) : IsI (textQ q) (.ask q) := by
  intro p
  have hp := parse_textQ q h
  obtain ⟨l, h1, h2⟩ := tokens_line q h
  have hT : tokens (bl (textQ q)) = (l, 0, 0) := by unfold textQ; rw [parts_line, h1]
  unfold tokQ at h2
  obtain ⟨c, r, rfl, _⟩ := map_cons2 h2
  have hx : (⟨2, bl (headW q.k), c⟩ : Tok).tx = headW q.k := ba_bl _
  unfold lineP lineT
  rw [hT, if_neg (fun h => h rfl)]
  dsimp only
  rw [hx, if_pos (by unfold headW; split; exact .inl rfl; exact .inr rfl), hp]
  exact ⟨rfl, rfl⟩
theorem tokens_role {w : ByteArray} {x : Rl} (hw : isP 97 122 (bl w) = true) (h : isRole x = true) : ∃ c0 c1 c2 c3 : Int, tokens (bl (joinB [w, roleT x] ⟨#[32]⟩)) = ([⟨2, bl w, c0⟩, ⟨1, bl x.o, c1⟩, ⟨3, [46], c2⟩, ⟨2, bl x.n, c3⟩], 0, 0) := by
  have e : bl (joinB [w, roleT x] ⟨#[32]⟩) = bl w ++ (32 :: (bl (roleT x) ++ [])) := by
    unfold joinB
    rw [List.map_cons, Lib.join_cons, bl_mk]
    unfold Lib.joinTail
    simp
    rfl
  have hT : TokL (bl w ++ (32 :: (bl (roleT x) ++ []))) [(2, bl w), (1, bl x.o), (3, [46]), (2, bl x.n)] :=
    tokL_small hw (stops_cons _ a32) (tokL_blank (tokL_role h stops_nil tokL_nil))
  have hb := bare_same (l := bl w ++ (32 :: (bl (roleT x) ++ []))) (fun c hc => by
    rcases List.mem_append.1 hc with hc | hc
    · exact isP_plain hw c hc
    rcases List.mem_cons.1 hc with rfl | hc
    · decide
    · rw [List.append_nil] at hc; exact role_plain h c hc)
  have hl : (bl w ++ (32 :: (bl (roleT x) ++ []))).length ≤ 200 := by
    have h1 := isP_len hw
    have h2 := role_size h
    simp only [List.length_append, List.length_cons, List.length_nil, bl_len] at h1 ⊢
    omega
  obtain ⟨us, h1, h2⟩ := hT _ 0 [] (Nat.le_refl _)
  obtain ⟨c0, l0, rfl, h3⟩ := map_cons2 h2
  obtain ⟨c1, l1, rfl, h4⟩ := map_cons2 h3
  obtain ⟨c2, l2, rfl, h5⟩ := map_cons2 h4
  obtain ⟨c3, l3, rfl, h6⟩ := map_cons2 h5
  obtain rfl : l3 = [] := by simpa using h6
  refine ⟨c0, c1, c2, c3, ?_⟩
  rw [e]
  unfold tokens
  rw [if_neg (by omega), hb, h1]
  rfl
theorem bound_at (w : ByteArray) (x : Rl) (c0 c1 c2 c3 e : Int) : boundT [⟨2, bl w, c0⟩, ⟨1, bl x.o, c1⟩, ⟨3, [46], c2⟩, ⟨2, bl x.n, c3⟩] e = (x, 0, 0) := by
  have h1 : (⟨1, bl x.o, c1⟩ : Tok).tx = x.o := ba_bl _
  have h2 : (⟨2, bl x.n, c3⟩ : Tok).tx = x.n := ba_bl _
  simp [boundT, boundG, txQ, h1, h2]
theorem isI_grow {x : Rl} (h : isRole x = true) : IsI (growT x) (.grow x) := by
  intro p
  obtain ⟨c0, c1, c2, c3, hT⟩ := tokens_role (w := wGrow) (by decide) h
  have hx : (⟨2, bl wGrow, c0⟩ : Tok).tx = wGrow := ba_bl _
  unfold lineP lineT growT
  rw [hT, if_neg (fun h => h rfl)]
  dsimp only
  rw [hx, if_neg (by decide), if_pos rfl, bound_at]
  exact ⟨rfl, rfl⟩
theorem isI_shrink {x : Rl} (h : isRole x = true) : IsI (shrinkT x) (.shrink x) := by
  intro p
  obtain ⟨c0, c1, c2, c3, hT⟩ := tokens_role (w := wShrink) (by decide) h
  have hx : (⟨2, bl wShrink, c0⟩ : Tok).tx = wShrink := ba_bl _
  unfold lineP lineT shrinkT
  rw [hT, if_neg (fun h => h rfl)]
  dsimp only
  rw [hx, if_neg (by decide), if_neg (by decide), if_pos rfl, bound_at]
  exact ⟨rfl, rfl⟩
theorem frame_ten {w : ByteArray} {x : Rl} (hw : isP 97 122 (bl w) = true) (h : isRole x = true) : ∀ c ∈ bl (joinB [w, roleT x] ⟨#[32]⟩), ¬ c = 10 := by
  have e : bl (joinB [w, roleT x] ⟨#[32]⟩) = bl w ++ (32 :: bl (roleT x)) := by
    unfold joinB
    rw [List.map_cons, Lib.join_cons, bl_mk]
    unfold Lib.joinTail
    simp
    rfl
  rw [e]
  intro c hc
  rcases List.mem_append.1 hc with hc | hc
  · exact isP_ten hw c hc
  rcases List.mem_cons.1 hc with rfl | hc
  · decide
  · exact role_ten h c hc
theorem linesD_ten {p : Pd} (h : OkP p) : ∀ s ∈ linesD p, ∀ c ∈ bl s, ¬ c = 10 := by
  intro s hs
  unfold linesD at hs
  simp only [List.mem_append, List.mem_map] at hs
  rcases hs with ((⟨x, hx, rfl⟩ | ⟨x, hx, rfl⟩) | ⟨x, hx, rfl⟩) | ⟨x, hx, rfl⟩
  · exact printS_ten x (h.l x hx)
  · exact frame_ten (by decide) (h.g x hx)
  · exact frame_ten (by decide) (h.h x hx)
  · exact textQ_ten x (h.q x hx)
def itemsD (p : Pd) : List (ByteArray × Item) := p.l.map (fun x => (printS x, .stmt x)) ++ p.g.map (fun x => (growT x, .grow x)) ++ p.h.map (fun x => (shrinkT x, .shrink x)) ++ p.q.map (fun x => (textQ x, .ask x))
theorem items_lines (p : Pd) : (itemsD p).map (·.1) = linesD p := by
  unfold itemsD linesD
  simp only [List.map_append, List.map_map]
  rfl
theorem items_are {p : Pd} (h : OkP p) : ∀ x ∈ itemsD p, IsI x.1 x.2 := by
  intro y hy
  unfold itemsD at hy
  simp only [List.mem_append, List.mem_map] at hy
  rcases hy with ((⟨x, hx, rfl⟩ | ⟨x, hx, rfl⟩) | ⟨x, hx, rfl⟩) | ⟨x, hx, rfl⟩
  · exact isI_stmt (h.l x hx)
  · exact isI_grow (h.g x hx)
  · exact isI_shrink (h.h x hx)
  · exact isI_ask (h.q x hx)
end Go.Proofs.YtnhkgfgbhedphaaGreatDoor
namespace Go.Proofs.YtnhkgfgbhedphaaGreatDoor
open Go.RowKit Go.Shelf

def kt (l : List Tok) : List (Int × List UInt8) := l.map (fun t => (t.kind, t.text))
theorem kt_len {a b : List Tok} (h : kt a = kt b) : a.length = b.length := by simpa [kt] using congrArg List.length h
theorem fits_kt : ∀ (s : List Int) (a b : List Tok), kt a = kt b → fitsS a s = fitsS b s
  | [], a, b, _ => by rw [fits_end, fits_end]
  | k :: s, [], b, h => by
    cases b with
    | nil => rfl
    | cons t b => simp [kt] at h
  | k :: s, t :: a, b, h => by
    cases b with
    | nil => simp [kt] at h
    | cons u b =>
      simp only [kt, List.map_cons, List.cons.injEq, Prod.mk.injEq] at h
      rw [fits_cons, fits_cons, h.1.1, fits_kt s a b h.2]
theorem tx_kt {a b : List Tok} (h : kt a = kt b) (i : Nat) : tx a i = tx b i := by
  have e : (a.getD i ⟨0, [], 0⟩).text = (b.getD i ⟨0, [], 0⟩).text := by
    have h1 : (kt a)[i]? = (kt b)[i]? := by rw [h]
    unfold kt at h1
    rw [List.getElem?_map, List.getElem?_map] at h1
    rw [List.getD_eq_getElem?_getD, List.getD_eq_getElem?_getD]
    cases ha : a[i]? with
    | none => cases hb : b[i]? with
      | none => rfl
      | some y => rw [ha, hb] at h1; cases h1
    | some x => cases hb : b[i]? with
      | none => rw [ha, hb] at h1; cases h1
      | some y =>
        rw [ha, hb] at h1
        simp only [Option.map_some, Option.some.injEq, Prod.mk.injEq] at h1
        exact h1.2
  unfold tx
  rw [e]
theorem refEnd_bad (l : List Tok) (e : Int) : (refEnd l e).2.2 ≠ 0 := by
  unfold refEnd
  split
  · exact (show (3 : Int) ≠ 0 by decide)
  · exact (show (2 : Int) ≠ 0 by decide)
theorem refS_kt {a b : List Tok} {e f : Int} (h : kt a = kt b) (h0 : (refS a e).2.2 = 0) : refS b f = refS a e := by
  have hl := kt_len h
  have F := fun s => fits_kt s a b h
  have T := tx_kt h
  unfold refS at h0 ⊢
  rw [← F sh1, ← F sh2, ← F sh3, ← F sh4, ← hl, ← T 0, ← T 2, ← T 4, ← T 6, ← T 8, ← T 10]
  by_cases c1 : fitsS a sh1 = a.length ∧ fitsS a sh1 = 5
  · rw [if_pos c1, if_pos c1]
  rw [if_neg c1] at h0 ⊢
  rw [if_neg c1]
  by_cases c2 : fitsS a sh2 = a.length ∧ fitsS a sh2 = 7
  · rw [if_pos c2, if_pos c2]
  rw [if_neg c2] at h0 ⊢
  rw [if_neg c2]
  by_cases c3 : fitsS a sh3 = a.length ∧ fitsS a sh3 = 9
  · rw [if_pos c3, if_pos c3]
  rw [if_neg c3] at h0 ⊢
  rw [if_neg c3]
  by_cases c4 : fitsS a sh4 = a.length ∧ fitsS a sh4 = 11
  · rw [if_pos c4, if_pos c4]
  rw [if_neg c4] at h0
  exact absurd h0 (refEnd_bad a e)
theorem isI_stmtK {s : ByteArray} {x : St} {l m : List Tok} (hT : tokens (bl s) = (l, 0, 0)) (hx : tokens (bl (printS x)) = (m, 0, 0)) (h : rightS x = true) (hk : kt l = kt m) : IsI s (.stmt x) := by
  intro p
  have hp := parse_print x h
  rw [parse_tokens hx] at hp
  have h0 : (refS m (endOf (printS x))).2.2 = 0 := by rw [hp]
  have hr := refS_kt (f := endOf s) hk.symm h0
  rw [hp] at hr
  obtain ⟨t, r, rfl, hk1⟩ := ref_head (l := l) (e := endOf s) (by rw [hr])
  have ho := tokens_ok (bl s) t (by rw [hT]; exact List.mem_cons_self ..)
  have hcap := okTok1 ho hk1
  have hw : ∀ w : ByteArray, isP 65 90 (bl w) = false → ¬ t.tx = w := fun w hw e => by rw [e, hw] at hcap; cases hcap
  have hps : parseS s = (x, 0, 0) := by rw [parse_tokens hT, hr]
  unfold lineP lineT
  rw [hT, if_neg (fun h => h rfl)]
  dsimp only
  rw [if_neg (fun h => h.elim (hw _ (by decide)) (hw _ (by decide))), if_neg (hw _ (by decide)), if_neg (hw _ (by decide)), hps]
  exact ⟨rfl, rfl⟩
theorem tokL_arrow {r : List UInt8} {ts : List (Int × List UInt8)} (hr : TokL r ts) : TokL (60 :: 45 :: r) ((4, [60, 45]) :: ts) :=
  tokL_step 1 (fun p => ⟨4, [60, 45], p + 1⟩) (fun _ => rfl) (by rw [List.length_cons, List.length_cons]; omega) (fun f p acc => by rw [toks_arrow]) hr
theorem tokL_amp {r : List UInt8} {ts : List (Int × List UInt8)} (hr : TokL r ts) : TokL (38 :: r) ((5, [38]) :: ts) :=
  tokL_step 0 (fun p => ⟨5, [38], p + 1⟩) (fun _ => rfl) (by rw [List.length_cons]; omega) (fun f p acc => by rw [toks_amp]) hr
theorem tokL_print {s : St} (h : rightS s = true) : ∃ ts, ∀ r, stops r → TokL r [] → TokL (bl (printS s) ++ r) ts := by
  obtain ⟨k, hd, who, a, b, via⟩ := s
  have hr := h
  have e4 : bl (⟨#[32, 60, 45, 32]⟩ : ByteArray) = [32, 60, 45, 32] := rfl
  have e3 : bl (⟨#[32, 38, 32]⟩ : ByteArray) = [32, 38, 32] := rfl
  have e1 : bl (⟨#[46]⟩ : ByteArray) = [46] := rfl
  unfold printS
  rw [if_pos hr]
  by_cases k1 : k = 1
  · subst k1
    rw [rightS1] at h
    simp only [Bool.and_eq_true] at h
    rw [if_neg (show ¬(1 : Int) = 2 by decide), if_neg (show ¬(1 : Int) = 3 by decide), if_neg (show ¬(1 : Int) = 4 by decide), bl_app, bl_app, e4]
    apply Exists.intro
    intro r hs hT
    rw [show (bl (roleT hd) ++ [32, 60, 45, 32] ++ bl who) ++ r = bl (roleT hd) ++ (32 :: 60 :: 45 :: 32 :: (bl who ++ r)) by simp]
    exact tokL_role h.1.1 (stops_cons _ a32) (tokL_blank (tokL_arrow (tokL_blank (tokL_big h.1.2 hs hT))))
  by_cases k2 : k = 2
  · subst k2
    rw [rightS2] at h
    simp only [Bool.and_eq_true] at h
    rw [if_pos rfl, bl_app, bl_app, e4]
    apply Exists.intro
    intro r hs hT
    rw [show (bl (roleT hd) ++ [32, 60, 45, 32] ++ bl (roleT a)) ++ r = bl (roleT hd) ++ (32 :: 60 :: 45 :: 32 :: (bl (roleT a) ++ r)) by simp]
    exact tokL_role h.1.1 (stops_cons _ a32) (tokL_blank (tokL_arrow (tokL_blank (tokL_role h.1.2 hs hT))))
  by_cases k3 : k = 3
  · subst k3
    rw [rightS3] at h
    simp only [Bool.and_eq_true] at h
    rw [if_neg (show ¬(3 : Int) = 2 by decide), if_pos rfl, bl_app, bl_app, bl_app, bl_app, e4, e1]
    apply Exists.intro
    intro r hs hT
    rw [show (bl (roleT hd) ++ [32, 60, 45, 32] ++ (bl (roleT a) ++ [46] ++ bl via)) ++ r = bl (roleT hd) ++ (32 :: 60 :: 45 :: 32 :: (bl (roleT a) ++ (46 :: (bl via ++ r)))) by simp]
    exact tokL_role h.1.1.1 (stops_cons _ a32) (tokL_blank (tokL_arrow (tokL_blank (tokL_role h.1.1.2 (stops_cons _ a46) (tokL_dot (tokL_small h.1.2 hs hT))))))
  by_cases k4 : k = 4
  · subst k4
    rw [rightS4] at h
    simp only [Bool.and_eq_true] at h
    rw [if_neg (show ¬(4 : Int) = 2 by decide), if_neg (show ¬(4 : Int) = 3 by decide), if_pos rfl, bl_app, bl_app, bl_app, bl_app, e4, e3]
    apply Exists.intro
    intro r hs hT
    rw [show (bl (roleT hd) ++ [32, 60, 45, 32] ++ (bl (roleT a) ++ [32, 38, 32] ++ bl (roleT b))) ++ r = bl (roleT hd) ++ (32 :: 60 :: 45 :: 32 :: (bl (roleT a) ++ (32 :: 38 :: 32 :: (bl (roleT b) ++ r)))) by simp]
    exact tokL_role h.1.1.1.1 (stops_cons _ a32) (tokL_blank (tokL_arrow (tokL_blank (tokL_role h.1.1.1.2 (stops_cons _ a32) (tokL_blank (tokL_amp (tokL_blank (tokL_role h.1.1.2 hs hT))))))))
  rw [rightS0 _ _ _ _ _ _ k1 k2 k3 k4] at hr
  cases hr
def frameB (s : ByteArray) : ByteArray := ⟨#[32, 32]⟩ ++ s ++ ⟨#[32, 35, 32, 120]⟩
theorem bare_frame {s : ByteArray} (h : ∀ c ∈ bl s, ¬ c = 35) : bare (bl (frameB s)) = 32 :: 32 :: (bl s ++ [32]) := by
  have e : bl (frameB s) = (32 :: 32 :: (bl s ++ [32])) ++ 35 :: [32, 120] := by
    unfold frameB
    rw [bl_app, bl_app, show bl (⟨#[32, 32]⟩ : ByteArray) = [32, 32] from rfl, show bl (⟨#[32, 35, 32, 120]⟩ : ByteArray) = [32, 35, 32, 120] from rfl]
    simp
  have h2 : ∀ c ∈ (32 :: 32 :: (bl s ++ [32]) : List UInt8), ¬ c = 35 := fun c hc => by
    simp only [List.mem_cons, List.mem_append, List.not_mem_nil, or_false] at hc
    rcases hc with rfl | rfl | hc | rfl
    · decide
    · decide
    · exact h c hc
    · decide
  rw [e]
  generalize (32 :: 32 :: (bl s ++ [32]) : List UInt8) = l at h2
  unfold bare
  induction l with
  | nil => rfl
  | cons a r ih =>
    have ha : (!(a == 35)) = true := by simp [h2 a (by simp)]
    simp only [List.cons_append, List.takeWhile, ha]
    rw [ih (fun c hc => h2 c (by simp [hc]))]
theorem tokens_frame {s : ByteArray} {ts : List (Int × List UInt8)} (h : ∀ r, stops r → TokL r [] → TokL (bl s ++ r) ts) (hp : ∀ c ∈ bl s, ¬ c = 35) (hl : s.size ≤ 190) : ∃ l, tokens (bl (frameB s)) = (l, 0, 0) ∧ kt l = ts := by
  have hT : TokL (32 :: 32 :: (bl s ++ [32])) ts := tokL_blank (tokL_blank (h [32] (stops_cons _ a32) (tokL_blank tokL_nil)))
  obtain ⟨us, h1, h2⟩ := hT _ 0 [] (Nat.le_refl _)
  refine ⟨us, ?_, h2⟩
  have hz : (bl (frameB s)).length ≤ 200 := by
    rw [bl_len]
    unfold frameB
    simp only [ByteArray.size_append]
    have a1 : (⟨#[32, 32]⟩ : ByteArray).size = 2 := rfl
    have a2 : (⟨#[32, 35, 32, 120]⟩ : ByteArray).size = 4 := rfl
    omega
  unfold tokens
  rw [if_neg (by omega), bare_frame hp, h1]
  rfl
theorem printS_plain (s : St) (h : rightS s = true) : ∀ c ∈ bl (printS s), ¬ c = 35 := by
  obtain ⟨k, hd, who, a, b, via⟩ := s
  have hr := h
  have c4 : ∀ c ∈ bl (⟨#[32, 60, 45, 32]⟩ : ByteArray), ¬ c = 35 := by decide
  have c3 : ∀ c ∈ bl (⟨#[32, 38, 32]⟩ : ByteArray), ¬ c = 35 := by decide
  have c1 : ∀ c ∈ bl (⟨#[46]⟩ : ByteArray), ¬ c = 35 := by decide
  unfold printS
  rw [if_pos hr]
  by_cases k1 : k = 1
  · subst k1
    rw [rightS1] at h
    simp only [Bool.and_eq_true] at h
    rw [if_neg (show ¬(1 : Int) = 2 by decide), if_neg (show ¬(1 : Int) = 3 by decide), if_neg (show ¬(1 : Int) = 4 by decide), bl_app, bl_app]
    intro c hc
    simp only [List.mem_append] at hc
    rcases hc with (hc | hc) | hc
    · exact role_plain h.1.1 c hc
    · exact c4 c hc
    · exact isP_plain h.1.2 c hc
  by_cases k2 : k = 2
  · subst k2
    rw [rightS2] at h
    simp only [Bool.and_eq_true] at h
    rw [if_pos rfl, bl_app, bl_app]
    intro c hc
    simp only [List.mem_append] at hc
    rcases hc with (hc | hc) | hc
    · exact role_plain h.1.1 c hc
    · exact c4 c hc
    · exact role_plain h.1.2 c hc
  by_cases k3 : k = 3
  · subst k3
    rw [rightS3] at h
    simp only [Bool.and_eq_true] at h
    rw [if_neg (show ¬(3 : Int) = 2 by decide), if_pos rfl, bl_app, bl_app, bl_app, bl_app]
    intro c hc
    simp only [List.mem_append] at hc
    rcases hc with (hc | hc) | ((hc | hc) | hc)
    · exact role_plain h.1.1.1 c hc
    · exact c4 c hc
    · exact role_plain h.1.1.2 c hc
    · exact c1 c hc
    · exact isP_plain h.1.2 c hc
  by_cases k4 : k = 4
  · subst k4
    rw [rightS4] at h
    simp only [Bool.and_eq_true] at h
    rw [if_neg (show ¬(4 : Int) = 2 by decide), if_neg (show ¬(4 : Int) = 3 by decide), if_pos rfl, bl_app, bl_app, bl_app, bl_app]
    intro c hc
    simp only [List.mem_append] at hc
    rcases hc with (hc | hc) | ((hc | hc) | hc)
    · exact role_plain h.1.1.1.1 c hc
    · exact c4 c hc
    · exact role_plain h.1.1.1.2 c hc
    · exact c3 c hc
    · exact role_plain h.1.1.2 c hc
  rw [rightS0 _ _ _ _ _ _ k1 k2 k3 k4] at hr
  cases hr
theorem tokens_plain {s : ByteArray} {ts : List (Int × List UInt8)} (h : ∀ r, stops r → TokL r [] → TokL (bl s ++ r) ts) (hp : ∀ c ∈ bl s, ¬ c = 35) (hl : s.size ≤ 200) : ∃ l, tokens (bl s) = (l, 0, 0) ∧ kt l = ts := by
  have hT := h [] stops_nil tokL_nil
  rw [List.append_nil] at hT
  obtain ⟨us, h1, h2⟩ := hT _ 0 [] (Nat.le_refl _)
  refine ⟨us, ?_, h2⟩
  unfold tokens
  rw [if_neg (by rw [bl_len]; omega), bare_same hp, h1]
  rfl
theorem isI_stmtF {x : St} (h : rightS x = true) : IsI (frameB (printS x)) (.stmt x) := by
  obtain ⟨ts, hts⟩ := tokL_print h
  have hz := printS_size h
  obtain ⟨l, h1, h2⟩ := tokens_frame hts (printS_plain x h) (by omega)
  obtain ⟨m, h3, h4⟩ := tokens_plain hts (printS_plain x h) (by omega)
  exact isI_stmtK h1 h3 h (h2.trans h4.symm)
theorem frame_bl (w : ByteArray) (x : Rl) : bl (joinB [w, roleT x] ⟨#[32]⟩) = bl w ++ (32 :: bl (roleT x)) := by
  unfold joinB
  rw [List.map_cons, Lib.join_cons, bl_mk]
  unfold Lib.joinTail
  simp
  rfl
theorem tokens_roleF {w : ByteArray} {x : Rl} (hw : isP 97 122 (bl w) = true) (h : isRole x = true) : ∃ c0 c1 c2 c3 : Int, tokens (bl (frameB (joinB [w, roleT x] ⟨#[32]⟩))) = ([⟨2, bl w, c0⟩, ⟨1, bl x.o, c1⟩, ⟨3, [46], c2⟩, ⟨2, bl x.n, c3⟩], 0, 0) := by
  have hz : (joinB [w, roleT x] ⟨#[32]⟩ : ByteArray).size ≤ 190 := by
    rw [← bl_len, frame_bl]
    have h1 := isP_len hw
    have h2 := role_size h
    simp only [List.length_append, List.length_cons, bl_len] at h1 ⊢
    omega
  obtain ⟨l, h1, h2⟩ := tokens_frame (s := joinB [w, roleT x] ⟨#[32]⟩) (ts := [(2, bl w), (1, bl x.o), (3, [46]), (2, bl x.n)]) (fun r hs hT => by
    rw [frame_bl, show (bl w ++ 32 :: bl (roleT x)) ++ r = bl w ++ (32 :: (bl (roleT x) ++ r)) by simp]
    exact tokL_small hw (stops_cons _ a32) (tokL_blank (tokL_role h hs hT))) (fun c hc => by
    rw [frame_bl] at hc
    rcases List.mem_append.1 hc with hc | hc
    · exact isP_plain hw c hc
    rcases List.mem_cons.1 hc with rfl | hc
    · decide
    · exact role_plain h c hc) hz
  obtain ⟨c0, l0, rfl, h3⟩ := map_cons2 h2
  obtain ⟨c1, l1, rfl, h4⟩ := map_cons2 h3
  obtain ⟨c2, l2, rfl, h5⟩ := map_cons2 h4
  obtain ⟨c3, l3, rfl, h6⟩ := map_cons2 h5
  obtain rfl : l3 = [] := by simpa using h6
  exact ⟨c0, c1, c2, c3, h1⟩
theorem isI_growF {x : Rl} (h : isRole x = true) : IsI (frameB (growT x)) (.grow x) := by
  intro p
  obtain ⟨c0, c1, c2, c3, hT⟩ := tokens_roleF (w := wGrow) (by decide) h
  have hx : (⟨2, bl wGrow, c0⟩ : Tok).tx = wGrow := ba_bl _
  unfold lineP lineT growT
  rw [hT, if_neg (fun h => h rfl)]
  dsimp only
  rw [hx, if_neg (by decide), if_pos rfl, bound_at]
  exact ⟨rfl, rfl⟩
theorem isI_shrinkF {x : Rl} (h : isRole x = true) : IsI (frameB (shrinkT x)) (.shrink x) := by
  intro p
  obtain ⟨c0, c1, c2, c3, hT⟩ := tokens_roleF (w := wShrink) (by decide) h
  have hx : (⟨2, bl wShrink, c0⟩ : Tok).tx = wShrink := ba_bl _
  unfold lineP lineT shrinkT
  rw [hT, if_neg (fun h => h rfl)]
  dsimp only
  rw [hx, if_neg (by decide), if_neg (by decide), if_pos rfl, bound_at]
  exact ⟨rfl, rfl⟩
theorem isI_empty : IsI emp .none := by
  intro p
  unfold lineP lineT
  rw [show tokens (bl emp) = ([], 0, 0) from rfl]
  exact ⟨rfl, rfl⟩
end Go.Proofs.YtnhkgfgbhedphaaGreatDoor
namespace Go.Proofs.YtnhkgfgbhedphaaGreatDoor
open Go.RowKit Go.Shelf

def turnG (acc : List UInt8) (s : ByteArray) : List UInt8 := bl (frameB s) ++ ([10, 10] ++ (acc ++ (bl s ++ [10])))
def turnT (L : List ByteArray) : List UInt8 := L.foldl turnG []
def linesT (L : List ByteArray) : List ByteArray := L.reverse.flatMap (fun s => [frameB s, emp]) ++ L
theorem turn_fold : ∀ (L : List ByteArray) (acc : List UInt8), L.foldl turnG acc = joinN (L.reverse.flatMap (fun s => [frameB s, emp])) ++ (acc ++ joinN L)
  | [], acc => by simp [joinN]
  | s :: L, acc => by
    rw [List.foldl_cons, turn_fold L]
    have e : joinN (s :: L) = bl s ++ 10 :: joinN L := by unfold joinN; simp
    have e0 : bl emp = [] := rfl
    rw [e, List.reverse_cons, List.flatMap_append, joinN_app]
    unfold turnG
    have e2 : joinN ([s].flatMap (fun s => [frameB s, emp])) = bl (frameB s) ++ [10, 10] := by
      simp [joinN, e0]
    rw [e2]
    simp
theorem turn_lines (L : List ByteArray) : turnT L = joinN (linesT L) := by
  unfold turnT linesT
  rw [turn_fold, joinN_app, List.nil_append]
theorem frameB_ten {s : ByteArray} (h : ∀ c ∈ bl s, ¬ c = 10) : ∀ c ∈ bl (frameB s), ¬ c = 10 := by
  unfold frameB
  rw [bl_app, bl_app, show bl (⟨#[32, 32]⟩ : ByteArray) = [32, 32] from rfl, show bl (⟨#[32, 35, 32, 120]⟩ : ByteArray) = [32, 35, 32, 120] from rfl]
  intro c hc
  simp only [List.mem_append, List.mem_cons, List.not_mem_nil, or_false] at hc
  rcases hc with ((rfl | rfl) | hc) | (rfl | rfl | rfl | rfl) <;> first | exact h c hc | decide
def itemsT (p : Pd) : List (ByteArray × Item) := (itemsD p).reverse.flatMap (fun y => [(frameB y.1, y.2), (emp, .none)]) ++ itemsD p
theorem itemsT_lines (p : Pd) : (itemsT p).map (·.1) = linesT (linesD p) := by
  unfold itemsT linesT
  rw [List.map_append, items_lines, ← items_lines, ← List.map_reverse]
  congr 1
  generalize (itemsD p).reverse = L
  induction L with
  | nil => rfl
  | cons y L ih => simp only [List.flatMap_cons, List.map_append, List.map_cons, List.map_nil, ih]
theorem itemsT_mem {p : Pd} {it : Item} (hn : it ≠ .none) : (∃ y ∈ itemsT p, y.2 = it) ↔ ∃ y ∈ itemsD p, y.2 = it := by
  unfold itemsT
  constructor
  · rintro ⟨y, hy, e⟩
    rcases List.mem_append.1 hy with hy | hy
    · obtain ⟨z, hz, hy⟩ := List.mem_flatMap.1 hy
      simp only [List.mem_cons, List.not_mem_nil, or_false] at hy
      rcases hy with rfl | rfl
      · exact ⟨z, List.mem_reverse.1 hz, e⟩
      · exact absurd e.symm hn
    · exact ⟨y, hy, e⟩
  · rintro ⟨y, hy, e⟩
    exact ⟨y, List.mem_append.2 (.inr hy), e⟩
theorem itemsT_are {p : Pd} (h : OkP p) (hq : p.q = []) : ∀ x ∈ itemsT p, IsI x.1 x.2 := by
  intro y hy
  unfold itemsT at hy
  rcases List.mem_append.1 hy with hy | hy
  · obtain ⟨z, hz, hy⟩ := List.mem_flatMap.1 hy
    simp only [List.mem_cons, List.not_mem_nil, or_false] at hy
    rcases hy with rfl | rfl
    · have hz' := List.mem_reverse.1 hz
      unfold itemsD at hz'
      rw [hq] at hz'
      simp only [List.mem_append, List.mem_map, List.map_nil, List.append_nil] at hz'
      rcases hz' with (⟨x, hx, rfl⟩ | ⟨x, hx, rfl⟩) | ⟨x, hx, rfl⟩
      · exact isI_stmtF (h.l x hx)
      · exact isI_growF (h.g x hx)
      · exact isI_shrinkF (h.h x hx)
    · exact isI_empty
  · exact items_are h y hy
theorem items_ask {p : Pd} (hq : p.q = []) : ∀ y ∈ itemsD p, askOf y.2 = [] := by
  intro y hy
  unfold itemsD at hy
  rw [hq] at hy
  simp only [List.mem_append, List.mem_map, List.map_nil, List.append_nil] at hy
  rcases hy with (⟨x, hx, rfl⟩ | ⟨x, hx, rfl⟩) | ⟨x, hx, rfl⟩ <;> rfl
theorem itemsT_fold {p : Pd} (h : RightD p) (hq : p.q = []) : foldI noPd (itemsT p) = p := by
  refine fold_eq h.asc (fun x => ?_) (fun x => ?_) (fun x => ?_) ?_
  · rw [itemsT_mem (by intro e; cases e)]; unfold itemsD; simp
  · rw [itemsT_mem (by intro e; cases e)]; unfold itemsD; simp
  · rw [itemsT_mem (by intro e; cases e)]; unfold itemsD; simp
  · rw [hq]
    refine List.flatMap_eq_nil_iff.2 fun y hy => ?_
    unfold itemsT at hy
    rcases List.mem_append.1 hy with hy | hy
    · obtain ⟨z, hz, hy⟩ := List.mem_flatMap.1 hy
      simp only [List.mem_cons, List.not_mem_nil, or_false] at hy
      rcases hy with rfl | rfl
      · exact items_ask hq z (List.mem_reverse.1 hz)
      · rfl
    · exact items_ask hq y hy
theorem linesT_ten {p : Pd} (h : OkP p) : ∀ s ∈ linesT (linesD p), ∀ c ∈ bl s, ¬ c = 10 := by
  intro s hs
  unfold linesT at hs
  rcases List.mem_append.1 hs with hs | hs
  · obtain ⟨z, hz, hy⟩ := List.mem_flatMap.1 hs
    simp only [List.mem_cons, List.not_mem_nil, or_false] at hy
    rcases hy with rfl | rfl
    · exact frameB_ten (linesD_ten h z (List.mem_reverse.1 hz))
    · intro c hc; cases hc
  · exact linesD_ten h s hs
theorem parse_turn {p : Pd} (h : RightD p) (hq : p.q = []) (h8 : (⟨(turnT (linesD p)).toArray⟩ : ByteArray).size ≤ 8000) : parseP ⟨(turnT (linesD p)).toArray⟩ = (p, 0, 0, 0) := by
  unfold parseP
  rw [if_neg (by omega), turn_lines, linesB_join (linesT_ten h.ok), ← itemsT_lines]
  have := goP_items (itemsT p) noPd p 0 (itemsT_are h.ok hq) asc_no (by rw [itemsT_fold h hq]; exact SubP.refl p) h.f
  rw [this, itemsT_fold h hq]
end Go.Proofs.YtnhkgfgbhedphaaGreatDoor
namespace Go.Proofs.YtnhkgfgbhedphaaGreatDoor
open Go.RowKit Go.Shelf

def LightT (l : List ByteArray) (e : Ending) : Prop := ∃ b, e = .returned (.bool b) ∧ (b = true → l.length ≤ 40 ∧ ∀ x ∈ l, x.size ≤ 40)
set_option maxHeartbeats 1000000 in
theorem law1_LightT (va : Value) (l : List ByteArray) (w : World) (ha : SlA w 1 va l.length (strs l)) (hl : ∀ s ∈ l, s.size ≤ 9223372036854775807) :
    Calls Tryz.prog 10 #[va] w fun e w' => LightT l e ∧ w' = w := by
  have HA := Lib.hid ha
  have HL := Lib.hid hl
  have hmax := ha.max
  obtain ⟨ao, cap, hva⟩ := ha.form
  subst hva
  clear ha hl
  go_enter Tryz.func10, Tryz.ntmps10
  by_cases h40 : 40 < l.length
  · have d : decide ((40 : Int) < (l.length : Int)) = true := by (rw [decide_eq_true_iff]; omega)
    go_wp2
    go_ret
    exact ⟨⟨false, rfl, fun h => by cases h⟩, rfl⟩
  have d : decide ((40 : Int) < (l.length : Int)) = false := by (rw [decide_eq_false_iff_not]; omega)
  go_wp2
  go_loop [10] (fun i => ∃ k : Nat, k ≤ l.length ∧ i = .int .i64 k ∧ Hid (∀ j (hj : j < l.length), j < k → l[j].size ≤ 40)) (fun i => l.length - (intOf i).toNat)
  case atStart => exact ⟨0, by omega, rfl, Lib.hid (fun j hj h => absurd h (by omega))⟩
  case round =>
    obtain ⟨k, hk, rfl, HS⟩ := hrel
    by_cases hlt : k < l.length
    · obtain ⟨b1, o1, c1, he1, hc1, hm1, hb1, hx1⟩ := HA.out.pos (by omega)
      simp only [Value.slice.injEq, true_and] at he1
      obtain ⟨rfl, rfl⟩ := he1
      have p0 := hx1 k _ (strs_get hlt)
      have hsz := HL.out l[k] (List.getElem_mem hlt)
      clear hx1
      by_cases h : 40 < l[k].size
      · have d1 : decide ((40 : Int) < (l[k].size : Int)) = true := by (rw [decide_eq_true_iff]; omega)
        clear h
        go_wp2
        go_ret
        exact ⟨⟨false, rfl, fun h => by cases h⟩, rfl⟩
      · have d1 : decide ((40 : Int) < (l[k].size : Int)) = false := by (rw [decide_eq_false_iff_not]; omega)
        have HS2 := Lib.hid (show ∀ j (hj : j < l.length), j < k + 1 → l[j].size ≤ 40 from fun j hj hjk => by
          by_cases e : j = k
          · subst e; omega
          · exact HS.out j hj (by omega))
        clear h HS
        go_wp2
        exact ⟨⟨k + 1, by omega, by go_num, HS2⟩, by simp [intOf]; omega⟩
    · go_wp2
      go_ret
      exact ⟨⟨true, rfl, fun _ => ⟨by omega, fun x hx => by obtain ⟨j, hj, rfl⟩ := List.getElem_of_mem hx; exact HS.out j hj (by omega)⟩⟩, rfl⟩
end Go.Proofs.YtnhkgfgbhedphaaGreatDoor
namespace Go.Proofs.YtnhkgfgbhedphaaGreatDoor
open Go.RowKit Go.Shelf

def Qv.okS (q : Qv) (w : World) : Prop := q.okN 40 w ∧ q.a.le 40 ∧ q.b.le 40
theorem okS_back {q : Qv} {w W : World} (h : q.ok w) (hb : Below w.heap.size w W) (h' : q.okS W) : q.okS w := ⟨okN_back h hb h'.1, h'.2⟩
end Go.Proofs.YtnhkgfgbhedphaaGreatDoor
