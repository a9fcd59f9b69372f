/- policy.Print: the lines of a policy that may be; nothing of another one (printed by gen_polprint.py). '==' of faults. crupperlaw05.lives: the document's example is as it says. What lines of a policy come to, one behind the other, in plain Lean. A policy's text is parsed as that policy, in plain Lean. Light of texts, told whole. Light of queries and policies, with the lengths of the queries' roles (turned by gen_lights.py). Light of queries and policies, with the lengths of the queries' roles and principals (turned from LightS by gen_lightu.py). A policy that lies in a world, as what it is. policy.Print and policy.Right of a policy that may be. Whether two rows of texts, two queries, two policies are the same: of the same ones. slices.Equal at rows of texts. -/
import Derived.Test.YtnhkgfgbhedphaaGreatDoorPart13
import Derived.Test.YtnhkgfgbhedphaaGreatDoorPart2
import Derived.Test.YtnhkgfgbhedphaaGreatDoorPart9
import Derived.Test.YtnhkgfgbhedphaaGreatDoorPart10
import Derived.Test.YtnhkgfgbhedphaaGreatDoorPart11
import Derived.Test.YtnhkgfgbhedphaaGreatDoorPart5
namespace Go.Proofs.YtnhkgfgbhedphaaGreatDoor
open Go.RowKit Go.Shelf

theorem rightD_iff {p : Pd} {zs : List (Qd × Value)} {F : Qv → List ByteArray} (hz : zs.map (·.1) = p.q) (hF : ∀ z ∈ zs, F (qz z) = z.1.us) (hl : p.l.length ≤ 80) (hg : p.g.length ≤ 40) (hh : p.h.length ≤ 40) : RightP p.l p.g p.h (zs.map qz) F ↔ RightD p := by
  have hq : (∀ q ∈ zs.map qz, rightQ q (F q) = true) ↔ ∀ x ∈ p.q, GoodQ x := by
    constructor
    · intro h x hx
      rw [← hz] at hx
      obtain ⟨z, hz, rfl⟩ := List.mem_map.1 hx
      have h1 := h (qz z) (List.mem_map_of_mem hz)
      rw [hF z hz] at h1
      exact right_iff.1 h1
    · intro h q hq
      obtain ⟨z, hz', rfl⟩ := List.mem_map.1 hq
      rw [hF z hz']
      exact right_iff.2 (h z.1 (by rw [← hz]; exact List.mem_map_of_mem hz'))
  unfold RightP
  rw [hq, ← fitsD_of p zs F hz hF hl hg hh]
  constructor
  · rintro ⟨h1, h2, h3, h4, h5, h6, h7⟩
    exact ⟨⟨h1, fun x hx => h2 x (List.mem_append.2 (.inl hx)), fun x hx => h2 x (List.mem_append.2 (.inr hx)), h3⟩, h4, h5, h6, h7⟩
  · rintro ⟨⟨h1, h2, h2', h3⟩, h4, h5, h6, h7⟩
    exact ⟨h1, fun x hx => (List.mem_append.1 hx).elim (h2 x) (h2' x), h3, h4, h5, h6, h7⟩
def PrintR (p : Pd) (e : Ending) : Prop := ∃ t, e = .returned (.string t) ∧ (RightD p → t = textP p) ∧ (¬ RightD p → t = emp)
theorem joinN_app (a b : List ByteArray) : joinN (a ++ b) = joinN a ++ joinN b := by unfold joinN; rw [List.flatMap_append]
theorem joinN_one (x : ByteArray) : joinN [x] = bl x ++ [10] := by simp [joinN]
theorem take_snocP {α β : Type} (f : α → β) (l : List α) {k : Nat} (h : k < l.length) : (l.map f).take (k + 1) = (l.map f).take k ++ [f l[k]] := by
  rw [List.take_succ_eq_append_getElem (by simpa using h)]; simp
theorem printS_size {s : St} (h : rightS s = true) : (printS s).size ≤ 100 := by
  obtain ⟨⟨l1, l2⟩, l3, ⟨l4, l5⟩, ⟨l6, l7⟩, l8⟩ := rightS_le h
  unfold printS
  rw [if_pos h]
  have e1 : (⟨#[46]⟩ : ByteArray).size = 1 := rfl
  have e4 : (⟨#[32, 60, 45, 32]⟩ : ByteArray).size = 4 := rfl
  have e3 : (⟨#[32, 38, 32]⟩ : ByteArray).size = 3 := rfl
  have : ∀ x : ByteArray, x.size ≤ 50 → (roleT s.h ++ ⟨#[32, 60, 45, 32]⟩ ++ x).size ≤ 100 := fun x hx => by
    simp only [roleT, ByteArray.size_append, e1, e4]; omega
  refine this _ ?_
  (repeat' split) <;> (try simp only [roleT, ByteArray.size_append, e1, e3]) <;> omega

theorem growT_bl (r : Rl) : bl (growT r) = bl wGrow ++ 32 :: bl (roleT r) := by simp [growT, joinB, Lib.join, bl]
theorem shrinkT_bl (r : Rl) : bl (shrinkT r) = bl wShrink ++ 32 :: bl (roleT r) := by simp [shrinkT, joinB, Lib.join, bl]
theorem growT_size {r : Rl} (h : isRole r = true) : (growT r).size ≤ 100 := by
  have h1 := congrArg List.length (growT_bl r)
  have h2 := role_size h
  rw [List.length_append, List.length_cons, bl_len, bl_len, bl_len] at h1
  have : wGrow.size = 4 := rfl
  omega
theorem shrinkT_size {r : Rl} (h : isRole r = true) : (shrinkT r).size ≤ 100 := by
  have h1 := congrArg List.length (shrinkT_bl r)
  have h2 := role_size h
  rw [List.length_append, List.length_cons, bl_len, bl_len, bl_len] at h1
  have : wShrink.size = 6 := rfl
  omega
set_option maxRecDepth 100000 in
set_option maxHeartbeats 8000000 in
theorem policy_Print (v0 v1 v2 v3 : Value) (p : Pd) (zs : List (Qd × Value)) (w : World) (hp : PolD w v0 v1 v2 v3 p zs) (hle : LeP p 4294967 40) (hl : p.l.length ≤ 80) (hg : p.g.length ≤ 40) (hh : p.h.length ≤ 40) (hq : p.q.length ≤ 100) :
    Calls Tryz.prog 30 #[pv v0 v1 v2 v3] w fun e w' => PrintR p e ∧ Below w.heap.size w w' := by
  have hzl : zs.length = p.q.length := by rw [← hp.z, List.length_map]
  have hm : ∀ z ∈ zs, z.1 ∈ p.q := fun z hz => by rw [← hp.z]; exact List.mem_map_of_mem hz
  have RI := rightD_iff (p := p) (zs := zs) hp.z hp.F hl hg hh
  have RT := Lib.hid (fun W (hb : Below w.heap.size w W) => policy_RightL v0 v1 v2 v3 p.l p.g p.h (zs.map qz) W ((hp.at (hle.mono (by decide) (Nat.le_refl _))).below hb) hl hg hh (by rw [hp.qlen]; exact hq) (fun x hx => hle.l x hx) (fun x hx => (List.mem_append.1 hx).elim (hle.g x) (hle.h x)) (fun q hq => by obtain ⟨z, hz, rfl⟩ := List.mem_map.1 hq; exact ⟨hle.qa _ (hm z hz), hle.qb _ (hm z hz)⟩) (FAt w) ((hp.who hle (Nat.le_refl _)).below hb) (fun q hq s hs => by
    obtain ⟨z, hz, rfl⟩ := List.mem_map.1 hq
    rw [hp.F z hz] at hs
    have := hle.qs _ (hm z hz) s hs
    omega))
  have HP := Lib.hid hp
  have HM := Lib.hid hm
  obtain ⟨a0, c0, rfl⟩ := hp.rs.form
  obtain ⟨a1, c1, rfl⟩ := hp.rg.form
  obtain ⟨a2, c2, rfl⟩ := hp.rh.form
  obtain ⟨a3, c3, rfl⟩ := hp.rq.form
  have HT := Lib.hid (show OneAt w #[.slice a0 p.l.length c0, .slice a1 p.g.length c1, .slice a2 p.h.length c2, .slice a3 zs.length c3] (w.alloc (.cells #[.slice a0 p.l.length c0, .slice a1 p.g.length c1, .slice a2 p.h.length c2, .slice a3 zs.length c3] 26)) from ⟨Blk.new w _ _, (Below.refl _ _).alloc (Nat.le_refl _) _⟩)
  have HQ := Lib.hid hzl
  have hz100 : zs.length ≤ 100 := by omega
  clear hp hle hzl hm
  go_enter Tryz.func30, Tryz.ntmps30
  go_wp2_with fail
  refine (RT.out _ HT.out.low).mono ?_
  rintro e w1 ⟨⟨b, rfl, hb⟩, hb1⟩
  have HT := Lib.hid (HT.out.later hb1)
  have HRI := Lib.hid (hb.trans RI)
  clear hb1 hb RT RI
  cases b with
  | false =>
    go_wp2_with fail
    go_ret
    exact ⟨⟨emp, rfl, fun h => absurd (HRI.out.2 h) (by decide), fun _ => rfl⟩, HT.out.low⟩
  | true =>
    have HR := Lib.hid (HRI.out.1 rfl)
    clear HRI
    have HTX := Lib.hid (show textP p = ⟨(joinN (p.l.map printS ++ p.g.map growT ++ p.h.map shrinkT ++ p.q.map textQ)).toArray⟩ from rfl)
    have HS0 := Lib.hid (sb_new w1 w1.heap.size (Nat.le_refl _))
    have HB0 := Lib.hid ((Below.refl w1.heap.size w1).alloc (Nat.le_refl _) (.cells #[.pointer none, .slice none 0 0] 92))
    obtain ⟨ca, fa, za⟩ := HT.out.a
    have hR0 : w.heap.size < w1.heap.size := za
    go_wp2_with fail
    go_loopw [20] (fun i wr => ∃ (k : Nat) (acc : List UInt8), k ≤ p.l.length ∧ i = .int .i64 k ∧ Hid (acc = joinN ([] ++ (p.l.map printS).take k)) ∧ acc.length ≤ 0 + k * 300 ∧ Hid (SbAt w1.heap.size w1.heap.size acc wr) ∧ Hid (Below w1.heap.size w1 wr) ∧ w1.heap.size ≤ wr.heap.size) (fun i _ => p.l.length - (intOf i).toNat)
    case atStart => exact ⟨0, [], by omega, rfl, Lib.hid rfl, by simp, HS0, HB0, HB0.out.size⟩
    case round =>
      skip
      obtain ⟨k, acc, hk, rfl, HA, hacc, HS, HB, hsz⟩ := hrel
      have HW := Lib.hid (HT.out.low.trans (HB.out.mono HT.out.low.size))
      obtain ⟨ca, fa, za⟩ : Blk wr w.heap.size #[.slice a0 p.l.length c0, .slice a1 p.g.length c1, .slice a2 p.h.length c2, .slice a3 zs.length c3] := ⟨fun o => (HB.out.cell (p := ⟨w.heap.size, o, none⟩) hR0).trans (HT.out.a.1 o), fun o => (HB.out.frozen (p := ⟨w.heap.size, o, none⟩) hR0).trans (HT.out.a.2.1 o), Nat.lt_of_lt_of_le hR0 hsz⟩
      by_cases hlt : k < p.l.length
      · obtain ⟨b3, o3, e3, he3, hc3, hm3, hb3, hx3⟩ := (HP.out.rs.below HW.out).pos (by omega)
        simp only [Value.slice.injEq, true_and] at he3
        obtain ⟨rfl, rfl⟩ := he3
        obtain ⟨p0, p1, p2, p3, p4, p5, p6, p7, p8⟩ := st_cell (w := wr) hx3 k hlt
        have hr := HR.out.ok.l _ (List.getElem_mem hlt)
        have SP := Lib.hid (fun W => syn_Print p.l[k] W (st_le_mono (rightS_le hr) (by decide)))
        have hps := printS_size hr
        have HN := Lib.hid (show acc ++ (bl (printS p.l[k]) ++ [10]) = joinN ([] ++ (p.l.map printS).take (k + 1)) by
          rw [HA.out, take_snocP _ _ hlt]
          simp only [joinN_app, joinN_one, List.append_assoc, List.nil_append])
        have HLEN := Lib.hid (show (bl (printS p.l[k])).length ≤ 100 by rw [bl_len]; exact hps)
        clear hx3 HA
        have PT := Lib.hid (fun v W (h : SlA W 1 v [printS p.l[k]].length (strs [printS p.l[k]])) (hs : SbAt w1.heap.size w1.heap.size acc W) (hB : w1.heap.size ≤ W.heap.size) => policy_Print1 v [printS p.l[k]] w1.heap.size w1.heap.size acc W h (by simp) (by rw [joinB_one]; omega) hs (by omega) hB)
        simp only [joinB_one] at PT
        generalize printS p.l[k] = x at *
        generalize p.l[k] = st at *
        obtain ⟨k0, ⟨h1, h2⟩, who, ⟨A1, A2⟩, ⟨B1, B2⟩, via⟩ := st
        go_wp2_with fail
        refine (SP.out _).mono ?_
        rintro e w4 ⟨rfl, hb4⟩
        have hba : Below wr.heap.size wr (wr.alloc (.cells #[.int .i64 k0, .string h1, .string h2, .string who, .string A1, .string A2, .string B1, .string B2, .string via] 63)) := (Below.refl _ _).alloc (Nat.le_refl _) _
        have hb40 := hba.trans (hb4.mono hba.size)
        have HS4 := Lib.hid (sb_below HS.out hb40)
        have HB4 := Lib.hid (HB.out.trans (hb40.mono HB.out.size))
        have hsz4 := HB4.out.size
        clear hb4 hba hb40 SP
        go_wp2_with fail
        have hbq : Below w4.heap.size w4 (w4.alloc (.cells #[.string x] 9)) := (Below.refl _ _).alloc (Nat.le_refl _) _
        have HN1 := Lib.hid (show Sl (w4.alloc (.cells #[.string x] 9)) 1 (.slice (some ⟨w4.heap.size, 0, none⟩) 1 1) 1 (strs [x]) from Sl.new w4 [.string x] 9 1 1 w4.heap.size rfl rfl (by simp [maxLen]))
        have hsz5 : w1.heap.size ≤ (w4.alloc (.cells #[.string x] 9)).heap.size := by simp; omega
        refine (PT.out _ _ HN1.out.a (sb_below HS4.out hbq) hsz5).mono ?_
        rintro e w5 ⟨rfl, hs5, hb5⟩
        have HS5 := Lib.hid hs5
        have hb5' := HB4.out.trans (hbq.mono HB4.out.size)
        have HB5 := Lib.hid (hb5'.trans hb5)
        have hsz5 := HB5.out.size
        clear hs5 hb5 hb5' hbq PT
        go_wp2
        exact ⟨⟨k + 1, acc ++ (bl x ++ [10]), by omega, by go_num, HN, by have := HLEN.out; simp; omega, HS5, HB5, hsz5⟩, by simp [intOf]; omega⟩
      · have HX0 := Lib.hid (show acc = joinN (p.l.map printS) by
          have h := HA.out
          rw [List.take_of_length_le (by simp; omega)] at h
          exact h)
        have hk0 : k = p.l.length := by omega
        subst hk0
        clear hlt
        obtain ⟨wr0, rfl⟩ : ∃ X, X = wr := ⟨_, rfl⟩
        go_wp2_with fail
        go_loopw [33] (fun i wr => ∃ (k : Nat) (acc : List UInt8), k ≤ p.g.length ∧ i = .int .i64 k ∧ Hid (acc = joinN (p.l.map printS ++ (p.g.map growT).take k)) ∧ acc.length ≤ 30000 + k * 300 ∧ Hid (SbAt w1.heap.size w1.heap.size acc wr) ∧ Hid (Below w1.heap.size w1 wr) ∧ w1.heap.size ≤ wr.heap.size) (fun i _ => p.g.length - (intOf i).toNat)
        case atStart => exact ⟨0, acc, by omega, rfl, Lib.hid (by rw [HX0.out]; simp), by omega, HS, HB, hsz⟩
        case round =>
          skip
          obtain ⟨k, acc, hk, rfl, HA, hacc, HS, HB, hsz⟩ := hrel
          have HW := Lib.hid (HT.out.low.trans (HB.out.mono HT.out.low.size))
          obtain ⟨ca, fa, za⟩ : Blk wr w.heap.size #[.slice a0 p.l.length c0, .slice a1 p.g.length c1, .slice a2 p.h.length c2, .slice a3 zs.length c3] := ⟨fun o => (HB.out.cell (p := ⟨w.heap.size, o, none⟩) hR0).trans (HT.out.a.1 o), fun o => (HB.out.frozen (p := ⟨w.heap.size, o, none⟩) hR0).trans (HT.out.a.2.1 o), Nat.lt_of_lt_of_le hR0 hsz⟩
          by_cases hlt : k < p.g.length
          · obtain ⟨b3, o3, e3, he3, hc3, hm3, hb3, hx3⟩ := (HP.out.rg.below HW.out).pos (by omega)
            simp only [Value.slice.injEq, true_and] at he3
            obtain ⟨rfl, rfl⟩ := he3
            obtain ⟨p0, p1⟩ := rl_cell (w := wr) hx3 k hlt
            have hr := HR.out.ok.g _ (List.getElem_mem hlt)
            have SP := Lib.hid (fun W => syn_PrintRole p.g[k] W (rl_le_mono (isRole_le hr) (by decide)))
            have hps := growT_size hr
            have HN := Lib.hid (show acc ++ (bl (growT p.g[k]) ++ [10]) = joinN (p.l.map printS ++ (p.g.map growT).take (k + 1)) by
              rw [HA.out, take_snocP _ _ hlt]
              simp only [joinN_app, joinN_one, List.append_assoc, List.nil_append])
            have HLEN := Lib.hid (show (bl (growT p.g[k])).length ≤ 100 by rw [bl_len]; exact hps)
            clear hx3 HA
            have PT := Lib.hid (fun v W (h : SlA W 1 v [wGrow, roleT p.g[k]].length (strs [wGrow, roleT p.g[k]])) (hs : SbAt w1.heap.size w1.heap.size acc W) (hB : w1.heap.size ≤ W.heap.size) => policy_Print1 v [wGrow, roleT p.g[k]] w1.heap.size w1.heap.size acc W h (by simp) (by show (growT p.g[k]).size ≤ 1000000; omega) hs (by omega) hB)
            have hjt : joinB [wGrow, roleT p.g[k]] ⟨#[32]⟩ = growT p.g[k] := rfl
            simp only [hjt] at PT
            clear hjt
            generalize growT p.g[k] = y at *
            generalize roleT p.g[k] = x at *
            generalize p.g[k] = st at *
            obtain ⟨h1, h2⟩ := st
            go_wp2_with fail
            refine (SP.out _).mono ?_
            rintro e w4 ⟨rfl, hb4⟩
            have hba : Below wr.heap.size wr (wr.alloc (.cells #[.string h1, .string h2] 54)) := (Below.refl _ _).alloc (Nat.le_refl _) _
            have hb40 := hba.trans (hb4.mono hba.size)
            have HS4 := Lib.hid (sb_below HS.out hb40)
            have HB4 := Lib.hid (HB.out.trans (hb40.mono HB.out.size))
            have hsz4 := HB4.out.size
            clear hb4 hba hb40 SP
            go_wp2_with fail
            have hbq : Below w4.heap.size w4 (w4.alloc (.cells #[.string wGrow, .string x] 9)) := (Below.refl _ _).alloc (Nat.le_refl _) _
            have HN1 := Lib.hid (show Sl (w4.alloc (.cells #[.string wGrow, .string x] 9)) 1 (.slice (some ⟨w4.heap.size, 0, none⟩) 2 2) 2 (strs [wGrow, x]) from Sl.new w4 [.string wGrow, .string x] 9 1 2 w4.heap.size rfl rfl (by simp [maxLen]))
            have hsz5 : w1.heap.size ≤ (w4.alloc (.cells #[.string wGrow, .string x] 9)).heap.size := by simp; omega
            refine (PT.out _ _ HN1.out.a (sb_below HS4.out hbq) hsz5).mono ?_
            rintro e w5 ⟨rfl, hs5, hb5⟩
            have HS5 := Lib.hid hs5
            have hb5' := HB4.out.trans (hbq.mono HB4.out.size)
            have HB5 := Lib.hid (hb5'.trans hb5)
            have hsz5 := HB5.out.size
            clear hs5 hb5 hb5' hbq PT
            go_wp2
            exact ⟨⟨k + 1, acc ++ (bl y ++ [10]), by omega, by go_num, HN, by have := HLEN.out; simp; omega, HS5, HB5, hsz5⟩, by simp [intOf]; omega⟩
          · have HX1 := Lib.hid (show acc = joinN (p.l.map printS ++ p.g.map growT) by
              have h := HA.out
              rw [List.take_of_length_le (by simp; omega)] at h
              exact h)
            have hk0 : k = p.g.length := by omega
            subst hk0
            clear hlt
            obtain ⟨wr1, rfl⟩ : ∃ X, X = wr := ⟨_, rfl⟩
            go_wp2_with fail
            go_loopw [46] (fun i wr => ∃ (k : Nat) (acc : List UInt8), k ≤ p.h.length ∧ i = .int .i64 k ∧ Hid (acc = joinN (p.l.map printS ++ p.g.map growT ++ (p.h.map shrinkT).take k)) ∧ acc.length ≤ 60000 + k * 300 ∧ Hid (SbAt w1.heap.size w1.heap.size acc wr) ∧ Hid (Below w1.heap.size w1 wr) ∧ w1.heap.size ≤ wr.heap.size) (fun i _ => p.h.length - (intOf i).toNat)
            case atStart => exact ⟨0, acc, by omega, rfl, Lib.hid (by rw [HX1.out]; simp), by omega, HS, HB, hsz⟩
            case round =>
              skip
              obtain ⟨k, acc, hk, rfl, HA, hacc, HS, HB, hsz⟩ := hrel
              have HW := Lib.hid (HT.out.low.trans (HB.out.mono HT.out.low.size))
              obtain ⟨ca, fa, za⟩ : Blk wr w.heap.size #[.slice a0 p.l.length c0, .slice a1 p.g.length c1, .slice a2 p.h.length c2, .slice a3 zs.length c3] := ⟨fun o => (HB.out.cell (p := ⟨w.heap.size, o, none⟩) hR0).trans (HT.out.a.1 o), fun o => (HB.out.frozen (p := ⟨w.heap.size, o, none⟩) hR0).trans (HT.out.a.2.1 o), Nat.lt_of_lt_of_le hR0 hsz⟩
              by_cases hlt : k < p.h.length
              · obtain ⟨b3, o3, e3, he3, hc3, hm3, hb3, hx3⟩ := (HP.out.rh.below HW.out).pos (by omega)
                simp only [Value.slice.injEq, true_and] at he3
                obtain ⟨rfl, rfl⟩ := he3
                obtain ⟨p0, p1⟩ := rl_cell (w := wr) hx3 k hlt
                have hr := HR.out.ok.h _ (List.getElem_mem hlt)
                have SP := Lib.hid (fun W => syn_PrintRole p.h[k] W (rl_le_mono (isRole_le hr) (by decide)))
                have hps := shrinkT_size hr
                have HN := Lib.hid (show acc ++ (bl (shrinkT p.h[k]) ++ [10]) = joinN (p.l.map printS ++ p.g.map growT ++ (p.h.map shrinkT).take (k + 1)) by
                  rw [HA.out, take_snocP _ _ hlt]
                  simp only [joinN_app, joinN_one, List.append_assoc, List.nil_append])
                have HLEN := Lib.hid (show (bl (shrinkT p.h[k])).length ≤ 100 by rw [bl_len]; exact hps)
                clear hx3 HA
                have PT := Lib.hid (fun v W (h : SlA W 1 v [wShrink, roleT p.h[k]].length (strs [wShrink, roleT p.h[k]])) (hs : SbAt w1.heap.size w1.heap.size acc W) (hB : w1.heap.size ≤ W.heap.size) => policy_Print1 v [wShrink, roleT p.h[k]] w1.heap.size w1.heap.size acc W h (by simp) (by show (shrinkT p.h[k]).size ≤ 1000000; omega) hs (by omega) hB)
                have hjt : joinB [wShrink, roleT p.h[k]] ⟨#[32]⟩ = shrinkT p.h[k] := rfl
                simp only [hjt] at PT
                clear hjt
                generalize shrinkT p.h[k] = y at *
                generalize roleT p.h[k] = x at *
                generalize p.h[k] = st at *
                obtain ⟨h1, h2⟩ := st
                go_wp2_with fail
                refine (SP.out _).mono ?_
                rintro e w4 ⟨rfl, hb4⟩
                have hba : Below wr.heap.size wr (wr.alloc (.cells #[.string h1, .string h2] 54)) := (Below.refl _ _).alloc (Nat.le_refl _) _
                have hb40 := hba.trans (hb4.mono hba.size)
                have HS4 := Lib.hid (sb_below HS.out hb40)
                have HB4 := Lib.hid (HB.out.trans (hb40.mono HB.out.size))
                have hsz4 := HB4.out.size
                clear hb4 hba hb40 SP
                go_wp2_with fail
                have hbq : Below w4.heap.size w4 (w4.alloc (.cells #[.string wShrink, .string x] 9)) := (Below.refl _ _).alloc (Nat.le_refl _) _
                have HN1 := Lib.hid (show Sl (w4.alloc (.cells #[.string wShrink, .string x] 9)) 1 (.slice (some ⟨w4.heap.size, 0, none⟩) 2 2) 2 (strs [wShrink, x]) from Sl.new w4 [.string wShrink, .string x] 9 1 2 w4.heap.size rfl rfl (by simp [maxLen]))
                have hsz5 : w1.heap.size ≤ (w4.alloc (.cells #[.string wShrink, .string x] 9)).heap.size := by simp; omega
                refine (PT.out _ _ HN1.out.a (sb_below HS4.out hbq) hsz5).mono ?_
                rintro e w5 ⟨rfl, hs5, hb5⟩
                have HS5 := Lib.hid hs5
                have hb5' := HB4.out.trans (hbq.mono HB4.out.size)
                have HB5 := Lib.hid (hb5'.trans hb5)
                have hsz5 := HB5.out.size
                clear hs5 hb5 hb5' hbq PT
                go_wp2
                exact ⟨⟨k + 1, acc ++ (bl y ++ [10]), by omega, by go_num, HN, by have := HLEN.out; simp; omega, HS5, HB5, hsz5⟩, by simp [intOf]; omega⟩
              · have HX2 := Lib.hid (show acc = joinN (p.l.map printS ++ p.g.map growT ++ p.h.map shrinkT) by
                  have h := HA.out
                  rw [List.take_of_length_le (by simp; omega)] at h
                  exact h)
                have hk0 : k = p.h.length := by omega
                subst hk0
                clear hlt
                obtain ⟨wr2, rfl⟩ : ∃ X, X = wr := ⟨_, rfl⟩
                go_wp2_with fail
                go_loopw [59] (fun i wr => ∃ (k : Nat) (acc : List UInt8), k ≤ zs.length ∧ i = .int .i64 k ∧ Hid (acc = joinN (p.l.map printS ++ p.g.map growT ++ p.h.map shrinkT ++ (p.q.map textQ).take k)) ∧ acc.length ≤ 90000 + k * 300 ∧ Hid (SbAt w1.heap.size w1.heap.size acc wr) ∧ Hid (Below w1.heap.size w1 wr) ∧ w1.heap.size ≤ wr.heap.size) (fun i _ => zs.length - (intOf i).toNat)
                case atStart => exact ⟨0, acc, by omega, rfl, Lib.hid (by rw [HX2.out]; simp), by omega, HS, HB, hsz⟩
                case round =>
                  skip
                  obtain ⟨k, acc, hk, rfl, HA, hacc, HS, HB, hsz⟩ := hrel
                  have HW := Lib.hid (HT.out.low.trans (HB.out.mono HT.out.low.size))
                  obtain ⟨ca, fa, za⟩ : Blk wr w.heap.size #[.slice a0 p.l.length c0, .slice a1 p.g.length c1, .slice a2 p.h.length c2, .slice a3 zs.length c3] := ⟨fun o => (HB.out.cell (p := ⟨w.heap.size, o, none⟩) hR0).trans (HT.out.a.1 o), fun o => (HB.out.frozen (p := ⟨w.heap.size, o, none⟩) hR0).trans (HT.out.a.2.1 o), Nat.lt_of_lt_of_le hR0 hsz⟩
                  by_cases hlt : k < zs.length
                  · obtain ⟨b3, o3, e3, he3, hc3, hm3, hb3, hx3⟩ := (HP.out.rq.below HW.out).pos (by omega)
                    simp only [Value.slice.injEq, true_and] at he3
                    obtain ⟨rfl, rfl⟩ := he3
                    have hlt' : k < (zs.map qz).length := by simpa using hlt
                    have hqe : (zs.map qz)[k] = qz zs[k] := by simp
                    obtain ⟨p0, p1, p2, p3, p4, p5⟩ := q_cell (w := wr) (l := zs.map qz) hx3 k hlt'
                    rw [hqe] at p0 p1 p2 p3 p4 p5
                    have hzm := HM.out _ (List.getElem_mem hlt)
                    have hr := HR.out.ok.q _ hzm
                    have hus := (HP.out.below HW.out).rw _ (List.getElem_mem hlt)
                    have SP := Lib.hid (fun W (hb : Below wr.heap.size wr W) => query_Print (qz zs[k]) zs[k].1.us W (rl_le_mono (good_a hr) (by decide)) (rl_le_mono (good_b hr) (by decide)) (hus.below hb) (fun s hs => Nat.le_trans (good_us hr s hs) (by decide)))
                    rw [show printQ (qz zs[k]) zs[k].1.us = textQ zs[k].1 from if_pos (right_iff.2 hr)] at SP
                    have hps := textQ_size _ hr
                    have HN := Lib.hid (show acc ++ (bl (textQ zs[k].1) ++ [10]) = joinN (p.l.map printS ++ p.g.map growT ++ p.h.map shrinkT ++ (p.q.map textQ).take (k + 1)) by
                      rw [HA.out, show (p.q.map textQ).take (k + 1) = (p.q.map textQ).take k ++ [textQ zs[k].1] from (by rw [← HP.out.z, List.map_map]; exact take_snocP (fun z => textQ z.1) zs hlt)]
                      simp only [joinN_app, joinN_one, List.append_assoc, List.nil_append])
                    have HLEN := Lib.hid (show (bl (textQ zs[k].1)).length ≤ 200 by rw [bl_len]; exact hps)
                    clear hx3 HA
                    have PT := Lib.hid (fun v W (h : SlA W 1 v [textQ zs[k].1].length (strs [textQ zs[k].1])) (hs : SbAt w1.heap.size w1.heap.size acc W) (hB : w1.heap.size ≤ W.heap.size) => policy_Print1 v [textQ zs[k].1] w1.heap.size w1.heap.size acc W h (by simp) (by rw [joinB_one]; omega) hs (by omega) hB)
                    simp only [joinB_one] at PT
                    clear hr hzm
                    generalize textQ zs[k].1 = x at *
                    generalize zs[k] = z at *
                    obtain ⟨⟨k0, ⟨x1, x2⟩, ⟨x3, x4⟩, us⟩, zv⟩ := z
                    dsimp only [qz] at hus p0 p1 p2 p3 p4 p5 SP
                    obtain ⟨wo, wc, rfl⟩ := hus.form
                    clear hus hqe
                    go_wp2_with fail
                    have hba : Below wr.heap.size wr (wr.alloc (.cells #[.int .i64 k0, .string x1, .string x2, .string x3, .string x4, .slice wo us.length wc] 66)) := (Below.refl _ _).alloc (Nat.le_refl _) _
                    refine (SP.out _ hba).mono ?_
                    rintro e w4 ⟨rfl, hb4⟩
                    have hb40 := hba.trans (hb4.mono hba.size)
                    have HS4 := Lib.hid (sb_below HS.out hb40)
                    have HB4 := Lib.hid (HB.out.trans (hb40.mono HB.out.size))
                    have hsz4 := HB4.out.size
                    clear hb4 hba hb40 SP
                    go_wp2_with fail
                    have hbq : Below w4.heap.size w4 (w4.alloc (.cells #[.string x] 9)) := (Below.refl _ _).alloc (Nat.le_refl _) _
                    have HN1 := Lib.hid (show Sl (w4.alloc (.cells #[.string x] 9)) 1 (.slice (some ⟨w4.heap.size, 0, none⟩) 1 1) 1 (strs [x]) from Sl.new w4 [.string x] 9 1 1 w4.heap.size rfl rfl (by simp [maxLen]))
                    have hsz5 : w1.heap.size ≤ (w4.alloc (.cells #[.string x] 9)).heap.size := by simp; omega
                    refine (PT.out _ _ HN1.out.a (sb_below HS4.out hbq) hsz5).mono ?_
                    rintro e w5 ⟨rfl, hs5, hb5⟩
                    have HS5 := Lib.hid hs5
                    have hb5' := HB4.out.trans (hbq.mono HB4.out.size)
                    have HB5 := Lib.hid (hb5'.trans hb5)
                    have hsz5 := HB5.out.size
                    clear hs5 hb5 hb5' hbq PT
                    go_wp2
                    exact ⟨⟨k + 1, acc ++ (bl x ++ [10]), by omega, by go_num, HN, by have := HLEN.out; simp; omega, HS5, HB5, hsz5⟩, by simp [intOf]; omega⟩
                  · have HX3 := Lib.hid (show acc = joinN (p.l.map printS ++ p.g.map growT ++ p.h.map shrinkT ++ p.q.map textQ) by
                      have h := HA.out
                      rw [List.take_of_length_le (by rw [List.length_map, ← HQ.out]; omega)] at h
                      exact h)
                    have hk0 : k = zs.length := by omega
                    subst hk0
                    clear hlt
                    obtain ⟨wr3, rfl⟩ : ∃ X, X = wr := ⟨_, rfl⟩
                    go_wp2_with (go_at_call 74; refine (Tryz.Builder_String_any_k w1.heap.size w1.heap.size acc _ HS.out hsz).mono ?_; rintro e w9 ⟨rfl, _, hb9, _⟩)
                    have HB9 := Lib.hid (HB.out.trans hb9)
                    clear hb9
                    go_ret
                    exact ⟨⟨_, rfl, fun _ => by rw [HTX.out, HX3.out], fun h => absurd HR.out h⟩, HT.out.low.trans (HB9.out.mono HT.out.low.size)⟩
end Go.Proofs.YtnhkgfgbhedphaaGreatDoor
namespace Go.Proofs.YtnhkgfgbhedphaaGreatDoor
open Go.RowKit Go.Shelf

def eqF (a b c a' b' c' : Int) : Bool := decide (a = a' ∧ b = b' ∧ c = c')
set_option maxRecDepth 100000 in
set_option maxHeartbeats 1000000 in
theorem fault_equalIn (d : Nat) (a b c a' b' c' : Int) (w : World) : (Op.equalIn (d + 2) 48 (.agg #[.int .i64 a, .int .i64 b, .int .i64 c]) (.agg #[.int .i64 a', .int .i64 b', .int .i64 c'])).run Tryz.prog w = .ok (eqF a b c a' b' c') w := by
  have hS : Tryz.prog.underlying 48 = some (.struct (Tryz.prog.fieldsOf 48)) := by kernel_rfl
  have hp : Tryz.prog.stoodInHeld 48 = false := by kernel_rfl
  rw [run_equalIn_agg w (d + 1) 48 _ _ hS hp]
  simp only [Program.fieldsOf, Tryz.underlying48]
  go_simp
  by_cases h1 : a = a' <;> by_cases h2 : b = b' <;> by_cases h3 : c = c' <;> simp [h1, h2, h3, eqF]
theorem fault_eql (a b c a' b' c' : Int) (w : World) : (binOp .eql 48 (.agg #[.int .i64 a, .int .i64 b, .int .i64 c]) (.agg #[.int .i64 a', .int .i64 b', .int .i64 c'])).run Tryz.prog w = .ok (.bool (eqF a b c a' b' c')) w := by
  rw [run_eql_struct, show (10000 : Nat) = 9998 + 2 from rfl, fault_equalIn 9998]
  rfl
theorem eqF_same (a b c : Int) : eqF a b c a b c = true := decide_eq_true ⟨rfl, rfl, rfl⟩
end Go.Proofs.YtnhkgfgbhedphaaGreatDoor
namespace Go.Proofs.YtnhkgfgbhedphaaGreatDoor
open Go.RowKit Go.Shelf

def ex5T : ByteArray := ⟨#[103, 114, 111, 119, 32, 65, 46, 114, 10, 65, 46, 114, 32, 60, 45, 32, 66, 10, 65, 46, 114, 32, 60, 45, 32, 66, 32, 35, 32, 116, 119, 105, 99, 101, 10]⟩
def ex5R : Rl := ⟨⟨#[65]⟩, ⟨#[114]⟩⟩
def ex5P : Pd := ⟨[⟨1, ex5R, ⟨#[66]⟩, noR, noR, emp⟩], [ex5R], [], []⟩
def ex5O : ByteArray := ⟨#[65, 46, 114, 32, 60, 45, 32, 66, 10, 103, 114, 111, 119, 32, 65, 46, 114, 10]⟩
set_option maxRecDepth 100000 in
theorem ex5_parse : parseP ex5T = (ex5P, 0, 0, 0) := by kernel_rfl
theorem ex5_fits : fitsD ex5P = true := by kernel_rfl
theorem ex5_right : RightD ex5P := by
  refine ⟨⟨fun x hx => ?_, fun x hx => ?_, fun x hx => ?_, fun x hx => ?_⟩, by kernel_rfl, by kernel_rfl, rfl, ex5_fits⟩
  · obtain rfl := List.mem_singleton.1 hx
    kernel_rfl
  · obtain rfl := List.mem_singleton.1 hx
    kernel_rfl
  · exact absurd hx (by simp [ex5P])
  · exact absurd hx (by simp [ex5P])
theorem ex5_text : textP ex5P = ex5O := by kernel_rfl
set_option maxRecDepth 100000 in
set_option maxHeartbeats 4000000 in
theorem law5_lives (w : World) (hg : Gl w) : Calls Tryz.prog 23 #[] w fun e w' => e = .returned (.bool true) ∧ Below w.heap.size w w' := by
  have P := Lib.hid (policy_Parse ex5T w hg (by decide))
  rw [ex5_parse] at P
  have hEq := fault_eql
  have hSelf := eqF_same
  go_enter Tryz.func23, Tryz.ntmps23
  go_wp2_with fail
  refine P.out.mono ?_
  rintro e w1 ⟨v0, v1, v2, v3, zs, rfl, hpo, hb1⟩
  have hp := hpo.pol
  have hz : zs = [] := List.map_eq_nil_iff.1 hp.z
  subst hz
  have PR := Lib.hid (fun W (hb : Below w1.heap.size w1 W) => policy_RightL v0 v1 v2 v3 ex5P.l ex5P.g ex5P.h ([].map qz) W ((hp.at ((okP_le ex5_right.ok).mono (by decide) (by decide : (12 : Nat) ≤ 40))).below hb) (by decide) (by decide) (by decide) (by decide) (fun x hx => ((okP_le ex5_right.ok).mono (by decide) (by decide : (12 : Nat) ≤ 40)).l x hx) (fun x hx => (List.mem_append.1 hx).elim (fun h => rl_le_mono ((okP_le ex5_right.ok).g x h) (by decide)) (fun h => rl_le_mono ((okP_le ex5_right.ok).h x h) (by decide))) (fun q hq => by simp at hq) (FAt w1) (fun q hq => by simp at hq) (fun q hq => by simp at hq))
  have PP := Lib.hid (fun W (hb : Below w1.heap.size w1 W) => policy_Print v0 v1 v2 v3 ex5P [] W (hp.below hb) ((okP_le ex5_right.ok).mono (by decide) (by decide)) (by decide) (by decide) (by decide) (by decide))
  obtain ⟨a0, c0, rfl⟩ : ∃ a c, v0 = .slice a 1 c := hp.rs.form
  obtain ⟨a1, c1, rfl⟩ : ∃ a c, v1 = .slice a 1 c := hp.rg.form
  obtain ⟨a2, c2, rfl⟩ : ∃ a c, v2 = .slice a 0 c := hp.rh.form
  obtain ⟨a3, c3, rfl⟩ : ∃ a c, v3 = .slice a 0 c := hp.rq.form
  have HT := Lib.hid (TwoAt.new w1 #[.slice a0 1 c0, .slice a1 1 c1, .slice a2 0 c2, .slice a3 0 c3] #[.int .i64 0, .int .i64 0, .int .i64 0] 26 48)
  have HB1 := Lib.hid hb1
  have RI := Lib.hid (rightD_iff (p := ex5P) (zs := []) hp.z hp.F (by decide) (by decide) (by decide))
  clear hpo hp hb1 P
  go_wp2_with fail
  refine (PR.out _ HT.out.low).mono ?_
  rintro e w2 ⟨⟨b, rfl, hb⟩, hb2⟩
  obtain rfl : b = true := hb.2 (RI.out.2 ex5_right)
  have HT := Lib.hid (HT.out.later hb2)
  clear hb hb2 PR RI
  obtain ⟨ca, fa, za⟩ := HT.out.a
  go_wp2_with fail
  refine (PP.out _ HT.out.low).mono ?_
  rintro e w3 ⟨⟨t, rfl, ht, _⟩, hb3⟩
  obtain rfl : t = ex5O := (ht ex5_right).trans ex5_text
  have HT := Lib.hid (HT.out.later hb3)
  have HO := Lib.hid (tx_eq (a := ex5O) (b := ex5O) rfl)
  clear ht hb3 PP ca fa za
  have d1 : (ex5O.toList == [65, 46, 114, 32, 60, 45, 32, 66, 10, 103, 114, 111, 119, 32, 65, 46, 114, 10]) = true := HO.out
  go_wp2
  go_ret
  exact ⟨rfl, HB1.out.trans (HT.out.low.mono HB1.out.size)⟩
end Go.Proofs.YtnhkgfgbhedphaaGreatDoor
namespace Go.Proofs.YtnhkgfgbhedphaaGreatDoor
open Go.RowKit Go.Shelf

inductive Item where
  | ask (q : Qd)
  | grow (r : Rl)
  | shrink (r : Rl)
  | stmt (x : St)
  | none
def addI (p : Pd) : Item → Pd
  | .ask q => { p with q := p.q ++ [q] }
  | .grow r => { p with g := insAllR [] (p.g ++ [r]) }
  | .shrink r => { p with h := insAllR [] (p.h ++ [r]) }
  | .stmt x => { p with l := insAll [] (p.l ++ [x]) }
  | .none => p
def IsI (s : ByteArray) (it : Item) : Prop := ∀ p : Pd, (lineP p s).1 = addI p it ∧ (lineP p s).2.2 = 0
structure AscP (p : Pd) : Prop where
  l : Asc p.l
  g : AscR p.g
  h : AscR p.h
structure SubP (a b : Pd) : Prop where
  l : ∀ x ∈ a.l, x ∈ b.l
  g : ∀ x ∈ a.g, x ∈ b.g
  h : ∀ x ∈ a.h, x ∈ b.h
  q : ∀ x ∈ a.q, x ∈ b.q
  n : a.q.length ≤ b.q.length
theorem SubP.refl (a : Pd) : SubP a a := ⟨fun _ h => h, fun _ h => h, fun _ h => h, fun _ h => h, Nat.le_refl _⟩
theorem SubP.trans {a b c : Pd} (h : SubP a b) (k : SubP b c) : SubP a c :=
  ⟨fun x hx => k.l x (h.l x hx), fun x hx => k.g x (h.g x hx), fun x hx => k.h x (h.h x hx), fun x hx => k.q x (h.q x hx), Nat.le_trans h.n k.n⟩
theorem sub_add (p : Pd) (it : Item) : SubP p (addI p it) := by
  cases it with
  | ask q => exact ⟨fun _ h => h, fun _ h => h, fun _ h => h, fun _ h => List.mem_append.2 (.inl h), by simp [addI]⟩
  | grow r => exact ⟨fun _ h => h, fun x h => (insAll_memR _ _ _).2 (.inr (List.mem_append.2 (.inl h))), fun _ h => h, fun _ h => h, Nat.le_refl _⟩
  | shrink r => exact ⟨fun _ h => h, fun _ h => h, fun x h => (insAll_memR _ _ _).2 (.inr (List.mem_append.2 (.inl h))), fun _ h => h, Nat.le_refl _⟩
  | stmt y => exact ⟨fun x h => (insAll_mem _ _ _).2 (.inr (List.mem_append.2 (.inl h))), fun _ h => h, fun _ h => h, fun _ h => h, Nat.le_refl _⟩
  | none => exact SubP.refl p
theorem asc_add {p : Pd} (h : AscP p) (it : Item) : AscP (addI p it) := by
  cases it with
  | ask q => exact ⟨h.l, h.g, h.h⟩
  | grow r => exact ⟨h.l, insAll_ascR _ _ List.Pairwise.nil, h.h⟩
  | shrink r => exact ⟨h.l, h.g, insAll_ascR _ _ List.Pairwise.nil⟩
  | stmt y => exact ⟨insAll_asc _ _ List.Pairwise.nil, h.g, h.h⟩
  | none => exact h
def foldI (p : Pd) (L : List (ByteArray × Item)) : Pd := L.foldl (fun p x => addI p x.2) p
theorem foldI_cons (p : Pd) (x : ByteArray × Item) (L : List (ByteArray × Item)) : foldI p (x :: L) = foldI (addI p x.2) L := rfl
theorem sub_fold : ∀ (L : List (ByteArray × Item)) (p : Pd), SubP p (foldI p L)
  | [], p => SubP.refl p
  | x :: L, p => (sub_add p x.2).trans (sub_fold L _)
theorem asc_fold : ∀ (L : List (ByteArray × Item)) {p : Pd}, AscP p → AscP (foldI p L)
  | [], _, h => h
  | x :: L, _, h => asc_fold L (asc_add h x.2)
theorem asc_no : AscP noPd := ⟨List.Pairwise.nil, List.Pairwise.nil, List.Pairwise.nil⟩
theorem asc_ndS {l : List St} (h : Asc l) : l.Nodup := by
  refine List.Pairwise.imp (fun {a b} hab e => ?_) h
  subst e
  exact absurd hab (lt_irrefl' a)
theorem asc_ndR {l : List Rl} (h : AscR l) : l.Nodup := by
  refine List.Pairwise.imp (fun {a b} hab e => ?_) h
  subst e
  exact absurd hab (lt_irrefl'R a)
theorem asc_ndB {l : List ByteArray} (h : AscB l) : l.Nodup := by
  refine List.Pairwise.imp (fun {a b} hab e => ?_) h
  subst e
  have := (cmpS_zero a a).2 rfl
  omega
theorem new_mono {a b : List ByteArray} (h : ∀ x ∈ a, x ∈ b) : (newB a).length ≤ (newB b).length :=
  nodup_le _ _ (asc_ndB (new_asc a)) fun x hx => (new_mem b x).2 (h x ((new_mem a x).1 hx))
theorem roles_sub {a b : Pd} (h : SubP a b) : ∀ x ∈ allRoles a.l a.g a.h (a.q.map dq), x ∈ allRoles b.l b.g b.h (b.q.map dq) := by
  intro x hx
  unfold allRoles at hx ⊢
  simp only [List.mem_append, List.mem_flatMap, List.mem_map] at hx ⊢
  rcases hx with ((⟨s, hs, hx⟩ | hx) | hx) | ⟨y, ⟨q, hq, rfl⟩, hx⟩
  · exact .inl (.inl (.inl ⟨s, h.l s hs, hx⟩))
  · exact .inl (.inl (.inr (h.g x hx)))
  · exact .inl (.inr (h.h x hx))
  · exact .inr ⟨_, ⟨q, h.q q hq, rfl⟩, hx⟩
theorem fits_sub {a b : Pd} (ha : AscP a) (h : SubP a b) (hf : fitsD b = true) : fitsD a = true := by
  unfold fitsD at hf ⊢
  simp only [Bool.and_eq_true, decide_eq_true_eq] at hf ⊢
  obtain ⟨h1, h2, h3, h4, h5, h6⟩ := hf
  have l1 := nodup_le _ _ (asc_ndS ha.l) h.l
  have l2 := nodup_le _ _ (asc_ndR ha.g) h.g
  have l3 := nodup_le _ _ (asc_ndR ha.h) h.h
  have l4 := h.n
  have l5 : (prinsD a).length ≤ (prinsD b).length := new_mono fun x hx => by
    simp only [List.mem_append, List.mem_map, List.mem_flatMap] at hx ⊢
    rcases hx with (⟨r, hr, e⟩ | ⟨s, hs, e⟩) | ⟨q, hq, e⟩
    · exact .inl (.inl ⟨r, roles_sub h r hr, e⟩)
    · exact .inl (.inr ⟨s, h.l s hs, e⟩)
    · exact .inr ⟨q, h.q q hq, e⟩
  have l6 : (namesD a).length ≤ (namesD b).length := new_mono fun x hx => by
    simp only [List.mem_append, List.mem_map, List.mem_flatMap] at hx ⊢
    rcases hx with ⟨r, hr, e⟩ | ⟨s, hs, e⟩
    · exact .inl ⟨r, roles_sub h r hr, e⟩
    · exact .inr ⟨s, h.l s hs, e⟩
  exact ⟨by omega, by omega, by omega, by omega, by omega, by omega⟩
theorem goP_items : ∀ (L : List (ByteArray × Item)) (p z : Pd) (i : Nat), (∀ x ∈ L, IsI x.1 x.2) → AscP p → SubP (foldI p L) z → fitsD z = true → goP p i (L.map (·.1)) = (foldI p L, 0, 0, 0)
  | [], p, _, i, _, _, _, _ => rfl
  | x :: L, p, z, i, hI, ha, hs, hf => by
    obtain ⟨h1, h2⟩ := hI x (List.mem_cons_self ..) p
    rw [List.map_cons]
    unfold goP
    rw [if_neg (by rw [h2]; exact fun h => h rfl), h1]
    have hfit : fitsD (addI p x.2) = true := fits_sub (asc_add ha x.2) ((sub_fold L _).trans hs) hf
    rw [if_pos hfit, foldI_cons]
    exact goP_items L (addI p x.2) z (i + 1) (fun y hy => hI y (List.mem_cons_of_mem _ hy)) (asc_add ha x.2) hs hf
theorem fold_l (x : St) : ∀ (L : List (ByteArray × Item)) (p : Pd), x ∈ (foldI p L).l ↔ x ∈ p.l ∨ ∃ y ∈ L, y.2 = .stmt x
  | [], p => by simp [foldI]
  | y :: L, p => by
    rw [foldI_cons, fold_l x L]
    obtain ⟨s, it⟩ := y
    cases it <;> simp [addI, insAll_mem]
    rename_i z
    constructor
    · rintro ((h | rfl) | h)
      · exact .inl h
      · exact .inr (.inl rfl)
      · exact .inr (.inr h)
    · rintro (h | rfl | h)
      · exact .inl (.inl h)
      · exact .inl (.inr rfl)
      · exact .inr h
theorem fold_g (x : Rl) : ∀ (L : List (ByteArray × Item)) (p : Pd), x ∈ (foldI p L).g ↔ x ∈ p.g ∨ ∃ y ∈ L, y.2 = .grow x
  | [], p => by simp [foldI]
  | y :: L, p => by
    rw [foldI_cons, fold_g x L]
    obtain ⟨s, it⟩ := y
    cases it <;> simp [addI, insAll_memR]
    rename_i z
    constructor
    · rintro ((h | rfl) | h)
      · exact .inl h
      · exact .inr (.inl rfl)
      · exact .inr (.inr h)
    · rintro (h | rfl | h)
      · exact .inl (.inl h)
      · exact .inl (.inr rfl)
      · exact .inr h
theorem fold_h (x : Rl) : ∀ (L : List (ByteArray × Item)) (p : Pd), x ∈ (foldI p L).h ↔ x ∈ p.h ∨ ∃ y ∈ L, y.2 = .shrink x
  | [], p => by simp [foldI]
  | y :: L, p => by
    rw [foldI_cons, fold_h x L]
    obtain ⟨s, it⟩ := y
    cases it <;> simp [addI, insAll_memR]
    rename_i z
    constructor
    · rintro ((h | rfl) | h)
      · exact .inl h
      · exact .inr (.inl rfl)
      · exact .inr (.inr h)
    · rintro (h | rfl | h)
      · exact .inl (.inl h)
      · exact .inl (.inr rfl)
      · exact .inr h
def askOf : Item → List Qd
  | .ask q => [q]
  | _ => []
theorem fold_q : ∀ (L : List (ByteArray × Item)) (p : Pd), (foldI p L).q = p.q ++ L.flatMap fun y => askOf y.2
  | [], p => by simp [foldI]
  | y :: L, p => by
    rw [foldI_cons, fold_q L]
    obtain ⟨s, it⟩ := y
    cases it <;> simp [addI, askOf]
theorem insAll_self {l : List St} (h : l = insAll [] l) : Asc l := by rw [h]; exact insAll_asc _ _ List.Pairwise.nil
theorem insAll_selfR {l : List Rl} (h : l = insAllR [] l) : AscR l := by rw [h]; exact insAll_ascR _ _ List.Pairwise.nil
theorem RightD.asc {p : Pd} (h : RightD p) : AscP p := ⟨insAll_self h.l, insAll_selfR h.g, insAll_selfR h.h⟩
theorem fold_eq {L : List (ByteArray × Item)} {p : Pd} (hp : AscP p) (hl : ∀ x, x ∈ p.l ↔ ∃ y ∈ L, y.2 = .stmt x) (hg : ∀ x, x ∈ p.g ↔ ∃ y ∈ L, y.2 = .grow x) (hh : ∀ x, x ∈ p.h ↔ ∃ y ∈ L, y.2 = .shrink x)
    (hq : (L.flatMap fun y => askOf y.2) = p.q) : foldI noPd L = p := by
  have ha := asc_fold L asc_no
  have e1 : (foldI noPd L).l = p.l := asc_unique _ _ ha.l hp.l fun x => by rw [fold_l, hl]; simp [noPd]
  have e2 : (foldI noPd L).g = p.g := asc_uniqueR _ _ ha.g hp.g fun x => by rw [fold_g, hg]; simp [noPd]
  have e3 : (foldI noPd L).h = p.h := asc_uniqueR _ _ ha.h hp.h fun x => by rw [fold_h, hh]; simp [noPd]
  have e4 : (foldI noPd L).q = p.q := by rw [fold_q, hq]; rfl
  obtain ⟨a, b, c, d⟩ := p
  generalize foldI noPd L = z at *
  obtain ⟨a', b', c', d'⟩ := z
  dsimp only at e1 e2 e3 e4
  rw [e1, e2, e3, e4]
theorem right_self {p : Pd} (hok : OkP p) (ha : AscP p) (hf : fitsD p = true) : RightD p := by
  refine ⟨hok, ?_, ?_, ?_, hf⟩
  · exact asc_unique _ _ ha.l (insAll_asc _ _ List.Pairwise.nil) fun x => by rw [insAll_mem]; simp
  · exact asc_uniqueR _ _ ha.g (insAll_ascR _ _ List.Pairwise.nil) fun x => by rw [insAll_memR]; simp
  · exact asc_uniqueR _ _ ha.h (insAll_ascR _ _ List.Pairwise.nil) fun x => by rw [insAll_memR]; simp
end Go.Proofs.YtnhkgfgbhedphaaGreatDoor
namespace Go.Proofs.YtnhkgfgbhedphaaGreatDoor
open Go.RowKit Go.Shelf

theorem ref_head {l : List Tok} {e : Int} (h : (refS l e).2.2 = 0) : ∃ t r, l = t :: r ∧ t.kind = 1 := by
  cases l with
  | nil =>
    exfalso
    revert h
    simp [refS, fitsS, sh1, sh2, sh3, sh4, refEnd, best]
  | cons t r =>
    refine ⟨t, r, rfl, ?_⟩
    by_cases hk : t.kind = 1
    · exact hk
    · exfalso
      have f : ∀ s, fitsS (t :: r) (1 :: s) = 0 := fun s => by simp [fitsS, hk]
      unfold refS at h
      rw [show sh1 = 1 :: [3, 2, 4, 1] from rfl, show sh2 = 1 :: [3, 2, 4, 1, 3, 2] from rfl, show sh3 = 1 :: [3, 2, 4, 1, 3, 2, 3, 2] from rfl, show sh4 = 1 :: [3, 2, 4, 1, 3, 2, 5, 1, 3, 2] from rfl, f, f, f, f] at h
      simp [refEnd] at h
      split at h <;> simp at h

theorem isP_ten {lo hi : Int} {w : List UInt8} (h : isP lo hi w = true) : ∀ c ∈ w, ¬ c = 10 := by
  match w, h with
  | c :: w, h =>
    simp only [isP, Bool.and_eq_true, decide_eq_true_iff] at h
    intro x hx e
    have := List.all_eq_true.1 h.2 x hx
    rw [e] at this
    exact absurd this (by decide)
theorem bl_app (a b : ByteArray) : bl (a ++ b) = bl a ++ bl b := by simp [bl]
theorem role_ten {x : Rl} (h : isRole x = true) : ∀ c ∈ bl (roleT x), ¬ c = 10 := by
  simp only [isRole, Bool.and_eq_true] at h
  have e : bl (roleT x) = bl x.o ++ 46 :: bl x.n := by simp [roleT, bl]
  intro c hc
  rw [e] at hc
  rcases List.mem_append.1 hc with hc | hc
  · exact isP_ten h.1 c hc
  rcases List.mem_cons.1 hc with rfl | hc
  · decide
  · exact isP_ten h.2 c hc
theorem tailL_ten : ∀ (xs : List ByteArray), (∀ x ∈ xs, ∀ c ∈ bl x, ¬ c = 10) → ∀ c ∈ tailL xs, ¬ c = 10
  | [], _ => fun c hc => by cases hc
  | x :: r, h => fun c hc => by
    rw [tailL_cons] at hc
    rcases List.mem_cons.1 hc with rfl | hc
    · decide
    rcases List.mem_append.1 hc with hc | hc
    · exact h x (by simp) c hc
    · exact tailL_ten r (fun y hy => h y (by simp [hy])) c hc
theorem words_ten (k : Int) : ∀ c ∈ tailL (wordsL k), ¬ c = 10 := by
  unfold wordsL
  split
  · decide
  split
  · decide
  split
  · decide
  split
  · decide
  split
  · decide
  split <;> decide
theorem textQ_ten (q : Qd) (h : GoodQ q) : ∀ c ∈ bl (textQ q), ¬ c = 10 := by
  unfold textQ
  rw [parts_line, lineQ_app]
  intro c hc
  rcases List.mem_append.1 hc with hc | hc
  · unfold headW at hc
    split at hc
    · exact isP_ten (word_isP' _ (by simp)) c hc
    · exact isP_ten (word_isP' _ (by simp)) c hc
  rcases List.mem_cons.1 hc with rfl | hc
  · decide
  rcases List.mem_append.1 hc with hc | hc
  · exact role_ten h.a c hc
  rcases List.mem_append.1 hc with hc | hc
  · exact words_ten _ c hc
  rcases List.mem_append.1 hc with hc | hc
  · refine tailL_ten _ (fun x hx => ?_) c hc
    split at hx
    · rename_i hs
      rw [List.mem_singleton.1 hx]
      refine role_ten (h.two ?_)
      unfold secB at hs
      simp only [Bool.or_eq_true, decide_eq_true_iff] at hs
      omega
    · cases hx
  · exact tailL_ten _ (fun x hx => isP_ten (h.p x hx)) c hc
theorem printS_ten (s : St) (h : rightS s = true) : ∀ c ∈ bl (printS s), ¬ c = 10 := by
  obtain ⟨k, hd, who, a, b, via⟩ := s
  have hr := h
  have c4 : ∀ c ∈ bl (⟨#[32, 60, 45, 32]⟩ : ByteArray), ¬ c = 10 := by decide
  have c3 : ∀ c ∈ bl (⟨#[32, 38, 32]⟩ : ByteArray), ¬ c = 10 := by decide
  have c1 : ∀ c ∈ bl (⟨#[46]⟩ : ByteArray), ¬ c = 10 := by decide
  unfold printS
  rw [if_pos hr]
  by_cases k1 : k = 1
  · subst k1
    rw [rightS1] at h
    simp only [Bool.and_eq_true] at h
    rw [if_neg (show ¬(1 : Int) = 2 by decide), if_neg (show ¬(1 : Int) = 3 by decide), if_neg (show ¬(1 : Int) = 4 by decide), bl_app, bl_app]
    intro c hc
    simp only [List.mem_append] at hc
    rcases hc with (hc | hc) | hc
    · exact role_ten h.1.1 c hc
    · exact c4 c hc
    · exact isP_ten h.1.2 c hc
  by_cases k2 : k = 2
  · subst k2
    rw [rightS2] at h
    simp only [Bool.and_eq_true] at h
    rw [if_pos rfl, bl_app, bl_app]
    intro c hc
    simp only [List.mem_append] at hc
    rcases hc with (hc | hc) | hc
    · exact role_ten h.1.1 c hc
    · exact c4 c hc
    · exact role_ten h.1.2 c hc
  by_cases k3 : k = 3
  · subst k3
    rw [rightS3] at h
    simp only [Bool.and_eq_true] at h
    rw [if_neg (show ¬(3 : Int) = 2 by decide), if_pos rfl, bl_app, bl_app, bl_app, bl_app]
    intro c hc
    simp only [List.mem_append] at hc
    rcases hc with (hc | hc) | ((hc | hc) | hc)
    · exact role_ten h.1.1.1 c hc
    · exact c4 c hc
    · exact role_ten h.1.1.2 c hc
    · exact c1 c hc
    · exact isP_ten h.1.2 c hc
  by_cases k4 : k = 4
  · subst k4
    rw [rightS4] at h
    simp only [Bool.and_eq_true] at h
    rw [if_neg (show ¬(4 : Int) = 2 by decide), if_neg (show ¬(4 : Int) = 3 by decide), if_pos rfl, bl_app, bl_app, bl_app, bl_app]
    intro c hc
    simp only [List.mem_append] at hc
    rcases hc with (hc | hc) | ((hc | hc) | hc)
    · exact role_ten h.1.1.1.1 c hc
    · exact c4 c hc
    · exact role_ten h.1.1.1.2 c hc
    · exact c3 c hc
    · exact role_ten h.1.1.2 c hc
  rw [rightS0 _ _ _ _ _ _ k1 k2 k3 k4] at hr
  cases hr
theorem lines_join : ∀ (L : List ByteArray), (∀ s ∈ L, ∀ c ∈ bl s, ¬ c = 10) → linesP (joinN L) = L.map (fun s => (bl s, true))
  | [], _ => rfl
  | s :: L, h => by
    have e : joinN (s :: L) = bl s ++ 10 :: joinN L := by unfold joinN; simp
    rw [e]
    have h1 := lines_at (bl s ++ 10 :: joinN L) (bl s).length (fun k hk => by
      rw [List.getElem?_append_left hk]
      intro h2
      obtain ⟨_, h3⟩ := List.getElem?_eq_some_iff.1 h2
      exact h s (by simp) _ (List.getElem_mem _) h3) (by simp)
    rw [h1, List.take_left, show (bl s ++ 10 :: joinN L).drop ((bl s).length + 1) = joinN L by rw [show bl s ++ 10 :: joinN L = (bl s ++ [10]) ++ joinN L by simp]; exact List.drop_left' (by simp)]
    rw [lines_join L (fun x hx => h x (by simp [hx]))]
    rfl
theorem linesB_join {L : List ByteArray} (h : ∀ s ∈ L, ∀ c ∈ bl s, ¬ c = 10) : linesB ⟨(joinN L).toArray⟩ = L := by
  unfold linesB
  rw [bl_mk, lines_join L h, List.map_map]
  conv => rhs; rw [← List.map_id L]
  refine List.map_congr_left fun s _ => ?_
  exact ba_bl s
theorem isI_stmt {x : St} (h : rightS x = true) : IsI (printS x) (.stmt x) := by
  intro p
  have hp := parse_print x h
  have ht : (tokens (bl (printS x))).2.2 = 0 := by
    by_cases h0 : (tokens (bl (printS x))).2.2 = 0
    · exact h0
    · exfalso
      unfold parseS at hp
      rw [parseT_bad h0] at hp
      have := congrArg (fun z => z.2.2) hp
      exact h0 this
  have hz : (parseS (printS x)).2.2 = 0 := by rw [hp]
  obtain ⟨l, a, b⟩ : ∃ l : List Tok, (tokens (bl (printS x))).1 = l ∧ True := ⟨_, rfl, trivial⟩
  have hT : tokens (bl (printS x)) = (l, (tokens (bl (printS x))).2.1, 0) := by rw [← a, ← ht]
  have hr : (refS l (endOf (printS x))).2.2 = 0 := by
    unfold parseS at hz
    rw [hT, parseT_good rfl] at hz
    have hL := law_parse l (endOf (printS x))
    unfold readS at hL
    rw [hL] at hz
    exact hz
  obtain ⟨t, r, rfl, hk⟩ := ref_head hr
  have ho := tokens_ok (bl (printS x)) t (by rw [a]; exact List.mem_cons_self ..)
  have hcap := okTok1 ho hk
  have hw : ∀ w : ByteArray, isP 65 90 (bl w) = false → ¬ t.tx = w := fun w hw e => by rw [e, hw] at hcap; cases hcap
  unfold lineP lineT
  rw [hT, if_neg (fun h => h rfl)]
  dsimp only
  rw [if_neg (fun h => h.elim (hw _ (by decide)) (hw _ (by decide))), if_neg (hw _ (by decide)), if_neg (hw _ (by decide)), hp]
  exact ⟨rfl, rfl⟩
theorem isI_ask {q : Qd} (h : GoodQ q) : IsI (textQ q) (.ask q) := by
  intro p
  have hp := parse_textQ q h
  obtain ⟨l, h1, h2⟩ := tokens_line q h
  have hT : tokens (bl (textQ q)) = (l, 0, 0) := by unfold textQ; rw [parts_line, h1]
  unfold tokQ at h2
  obtain ⟨c, r, rfl, _⟩ := map_cons2 h2
  have hx : (⟨2, bl (headW q.k), c⟩ : Tok).tx = headW q.k := ba_bl _
  unfold lineP lineT
  rw [hT, if_neg (fun h => h rfl)]
  dsimp only
  rw [hx, if_pos (by unfold headW; split; exact .inl rfl; exact .inr rfl), hp]
  exact ⟨rfl, rfl⟩
theorem tokens_role {w : ByteArray} {x : Rl} (hw : isP 97 122 (bl w) = true) (h : isRole x = true) : ∃ c0 c1 c2 c3 : Int, tokens (bl (joinB [w, roleT x] ⟨#[32]⟩)) = ([⟨2, bl w, c0⟩, ⟨1, bl x.o, c1⟩, ⟨3, [46], c2⟩, ⟨2, bl x.n, c3⟩], 0, 0) := by
  have e : bl (joinB [w, roleT x] ⟨#[32]⟩) = bl w ++ (32 :: (bl (roleT x) ++ [])) := by
    unfold joinB
    rw [List.map_cons, Lib.join_cons, bl_mk]
    unfold Lib.joinTail
    simp
    rfl
  have hT : TokL (bl w ++ (32 :: (bl (roleT x) ++ []))) [(2, bl w), (1, bl x.o), (3, [46]), (2, bl x.n)] :=
    tokL_small hw (stops_cons _ a32) (tokL_blank (tokL_role h stops_nil tokL_nil))
  have hb := bare_same (l := bl w ++ (32 :: (bl (roleT x) ++ []))) (fun c hc => by
    rcases List.mem_append.1 hc with hc | hc
    · exact isP_plain hw c hc
    rcases List.mem_cons.1 hc with rfl | hc
    · decide
    · rw [List.append_nil] at hc; exact role_plain h c hc)
  have hl : (bl w ++ (32 :: (bl (roleT x) ++ []))).length ≤ 200 := by
    have h1 := isP_len hw
    have h2 := role_size h
    simp only [List.length_append, List.length_cons, List.length_nil, bl_len] at h1 ⊢
    omega
  obtain ⟨us, h1, h2⟩ := hT _ 0 [] (Nat.le_refl _)
  obtain ⟨c0, l0, rfl, h3⟩ := map_cons2 h2
  obtain ⟨c1, l1, rfl, h4⟩ := map_cons2 h3
  obtain ⟨c2, l2, rfl, h5⟩ := map_cons2 h4
  obtain ⟨c3, l3, rfl, h6⟩ := map_cons2 h5
  obtain rfl : l3 = [] := by simpa using h6
  refine ⟨c0, c1, c2, c3, ?_⟩
  rw [e]
  unfold tokens
  rw [if_neg (by omega), hb, h1]
  rfl
theorem bound_at (w : ByteArray) (x : Rl) (c0 c1 c2 c3 e : Int) : boundT [⟨2, bl w, c0⟩, ⟨1, bl x.o, c1⟩, ⟨3, [46], c2⟩, ⟨2, bl x.n, c3⟩] e = (x, 0, 0) := by
  have h1 : (⟨1, bl x.o, c1⟩ : Tok).tx = x.o := ba_bl _
  have h2 : (⟨2, bl x.n, c3⟩ : Tok).tx = x.n := ba_bl _
  simp [boundT, boundG, txQ, h1, h2]
theorem isI_grow {x : Rl} (h : isRole x = true) : IsI (growT x) (.grow x) := by
  intro p
  obtain ⟨c0, c1, c2, c3, hT⟩ := tokens_role (w := wGrow) (by decide) h
  have hx : (⟨2, bl wGrow, c0⟩ : Tok).tx = wGrow := ba_bl _
  unfold lineP lineT growT
  rw [hT, if_neg (fun h => h rfl)]
  dsimp only
  rw [hx, if_neg (by decide), if_pos rfl, bound_at]
  exact ⟨rfl, rfl⟩
theorem isI_shrink {x : Rl} (h : isRole x = true) : IsI (shrinkT x) (.shrink x) := by
  intro p
  obtain ⟨c0, c1, c2, c3, hT⟩ := tokens_role (w := wShrink) (by decide) h
  have hx : (⟨2, bl wShrink, c0⟩ : Tok).tx = wShrink := ba_bl _
  unfold lineP lineT shrinkT
  rw [hT, if_neg (fun h => h rfl)]
  dsimp only
  rw [hx, if_neg (by decide), if_neg (by decide), if_pos rfl, bound_at]
  exact ⟨rfl, rfl⟩
theorem frame_ten {w : ByteArray} {x : Rl} (hw : isP 97 122 (bl w) = true) (h : isRole x = true) : ∀ c ∈ bl (joinB [w, roleT x] ⟨#[32]⟩), ¬ c = 10 := by
  have e : bl (joinB [w, roleT x] ⟨#[32]⟩) = bl w ++ (32 :: bl (roleT x)) := by
    unfold joinB
    rw [List.map_cons, Lib.join_cons, bl_mk]
    unfold Lib.joinTail
    simp
    rfl
  rw [e]
  intro c hc
  rcases List.mem_append.1 hc with hc | hc
  · exact isP_ten hw c hc
  rcases List.mem_cons.1 hc with rfl | hc
  · decide
  · exact role_ten h c hc
theorem linesD_ten {p : Pd} (h : OkP p) : ∀ s ∈ linesD p, ∀ c ∈ bl s, ¬ c = 10 := by
  intro s hs
  unfold linesD at hs
  simp only [List.mem_append, List.mem_map] at hs
  rcases hs with ((⟨x, hx, rfl⟩ | ⟨x, hx, rfl⟩) | ⟨x, hx, rfl⟩) | ⟨x, hx, rfl⟩
  · exact printS_ten x (h.l x hx)
  · exact frame_ten (by decide) (h.g x hx)
  · exact frame_ten (by decide) (h.h x hx)
  · exact textQ_ten x (h.q x hx)
def itemsD (p : Pd) : List (ByteArray × Item) := p.l.map (fun x => (printS x, .stmt x)) ++ p.g.map (fun x => (growT x, .grow x)) ++ p.h.map (fun x => (shrinkT x, .shrink x)) ++ p.q.map (fun x => (textQ x, .ask x))
theorem items_lines (p : Pd) : (itemsD p).map (·.1) = linesD p := by
  unfold itemsD linesD
  simp only [List.map_append, List.map_map]
  rfl
theorem items_are {p : Pd} (h : OkP p) : ∀ x ∈ itemsD p, IsI x.1 x.2 := by
  intro y hy
  unfold itemsD at hy
  simp only [List.mem_append, List.mem_map] at hy
  rcases hy with ((⟨x, hx, rfl⟩ | ⟨x, hx, rfl⟩) | ⟨x, hx, rfl⟩) | ⟨x, hx, rfl⟩
  · exact isI_stmt (h.l x hx)
  · exact isI_grow (h.g x hx)
  · exact isI_shrink (h.h x hx)
  · exact isI_ask (h.q x hx)
theorem items_fold {p : Pd} (h : RightD p) : foldI noPd (itemsD p) = p := by
  refine fold_eq h.asc (fun x => ?_) (fun x => ?_) (fun x => ?_) ?_
  · unfold itemsD; simp
  · unfold itemsD; simp
  · unfold itemsD; simp
  · unfold itemsD
    simp only [List.flatMap_append, List.flatMap_map]
    have f : ∀ {α : Type} (l : List α) (g : α → List Qd), (∀ x, g x = []) → l.flatMap g = [] := fun l g hg => by
      induction l with
      | nil => rfl
      | cons a l ih => rw [List.flatMap_cons, hg, ih]; rfl
    rw [f p.l (fun a => askOf (Item.stmt a)) (fun _ => rfl), f p.g (fun a => askOf (Item.grow a)) (fun _ => rfl), f p.h (fun a => askOf (Item.shrink a)) (fun _ => rfl)]
    simp [askOf]
theorem parse_textP {p : Pd} (h : RightD p) (h8 : (textP p).size ≤ 8000) : parseP (textP p) = (p, 0, 0, 0) := by
  unfold parseP
  rw [if_neg (by omega)]
  unfold textP
  rw [linesB_join (linesD_ten h.ok), ← items_lines]
  have := goP_items (itemsD p) noPd p 0 (items_are h.ok) asc_no (by rw [items_fold h]; exact SubP.refl p) h.f
  rw [this, items_fold h]
theorem parse_textP_long {p : Pd} (h8 : 8000 < (textP p).size) : parseP (textP p) = (noPd, 4, 0, 0) := by
  unfold parseP
  rw [if_pos h8]
theorem asc_line {p : Pd} (h : AscP p) (s : ByteArray) : AscP (lineP p s).1 := by
  unfold lineP lineT
  split
  · exact h
  split
  · exact h
  split
  · exact ⟨h.l, h.g, h.h⟩
  split
  · exact ⟨h.l, insAll_ascR _ _ List.Pairwise.nil, h.h⟩
  split
  · exact ⟨h.l, h.g, insAll_ascR _ _ List.Pairwise.nil⟩
  · exact ⟨insAll_asc _ _ List.Pairwise.nil, h.g, h.h⟩
theorem asc_goP : ∀ (L : List ByteArray) (p : Pd) (i : Nat), AscP p → AscP (goP p i L).1
  | [], _, _, h => h
  | s :: r, p, i, h => by
    unfold goP
    split
    · exact asc_no
    split
    · exact asc_goP r _ (i + 1) (asc_line h s)
    · exact asc_no
theorem right_no : RightD noPd := right_self okP_no asc_no fits_noP
theorem parseP_right (s : ByteArray) : RightD (parseP s).1 := by
  unfold parseP
  split
  · exact right_no
  · obtain ⟨h1, h2⟩ := goP_ok (linesB s) noPd 0 okP_no fits_noP
    exact right_self h1 (asc_goP _ _ _ asc_no) h2
end Go.Proofs.YtnhkgfgbhedphaaGreatDoor
namespace Go.Proofs.YtnhkgfgbhedphaaGreatDoor
open Go.RowKit Go.Shelf

def LightT (l : List ByteArray) (e : Ending) : Prop := ∃ b, e = .returned (.bool b) ∧ (b = true → l.length ≤ 40 ∧ ∀ x ∈ l, x.size ≤ 40)
set_option maxHeartbeats 1000000 in
theorem law1_LightT (va : Value) (l : List ByteArray) (w : World) (ha : SlA w 1 va l.length (strs l)) (hl : ∀ s ∈ l, s.size ≤ 9223372036854775807) :
    Calls Tryz.prog 10 #[va] w fun e w' => LightT l e ∧ w' = w := by
  have HA := Lib.hid ha
  have HL := Lib.hid hl
  have hmax := ha.max
  obtain ⟨ao, cap, hva⟩ := ha.form
  subst hva
  clear ha hl
  go_enter Tryz.func10, Tryz.ntmps10
  by_cases h40 : 40 < l.length
  · have d : decide ((40 : Int) < (l.length : Int)) = true := by (rw [decide_eq_true_iff]; omega)
    go_wp2
    go_ret
    exact ⟨⟨false, rfl, fun h => by cases h⟩, rfl⟩
  have d : decide ((40 : Int) < (l.length : Int)) = false := by (rw [decide_eq_false_iff_not]; omega)
  go_wp2
  go_loop [10] (fun i => ∃ k : Nat, k ≤ l.length ∧ i = .int .i64 k ∧ Hid (∀ j (hj : j < l.length), j < k → l[j].size ≤ 40)) (fun i => l.length - (intOf i).toNat)
  case atStart => exact ⟨0, by omega, rfl, Lib.hid (fun j hj h => absurd h (by omega))⟩
  case round =>
    obtain ⟨k, hk, rfl, HS⟩ := hrel
    by_cases hlt : k < l.length
    · obtain ⟨b1, o1, c1, he1, hc1, hm1, hb1, hx1⟩ := HA.out.pos (by omega)
      simp only [Value.slice.injEq, true_and] at he1
      obtain ⟨rfl, rfl⟩ := he1
      have p0 := hx1 k _ (strs_get hlt)
      have hsz := HL.out l[k] (List.getElem_mem hlt)
      clear hx1
      by_cases h : 40 < l[k].size
      · have d1 : decide ((40 : Int) < (l[k].size : Int)) = true := by (rw [decide_eq_true_iff]; omega)
        clear h
        go_wp2
        go_ret
        exact ⟨⟨false, rfl, fun h => by cases h⟩, rfl⟩
      · have d1 : decide ((40 : Int) < (l[k].size : Int)) = false := by (rw [decide_eq_false_iff_not]; omega)
        have HS2 := Lib.hid (show ∀ j (hj : j < l.length), j < k + 1 → l[j].size ≤ 40 from fun j hj hjk => by
          by_cases e : j = k
          · subst e; omega
          · exact HS.out j hj (by omega))
        clear h HS
        go_wp2
        exact ⟨⟨k + 1, by omega, by go_num, HS2⟩, by simp [intOf]; omega⟩
    · go_wp2
      go_ret
      exact ⟨⟨true, rfl, fun _ => ⟨by omega, fun x hx => by obtain ⟨j, hj, rfl⟩ := List.getElem_of_mem hx; exact HS.out j hj (by omega)⟩⟩, rfl⟩
end Go.Proofs.YtnhkgfgbhedphaaGreatDoor
namespace Go.Proofs.YtnhkgfgbhedphaaGreatDoor
open Go.RowKit Go.Shelf

def Qv.okS (q : Qv) (w : World) : Prop := q.okN 40 w ∧ q.a.le 40 ∧ q.b.le 40
theorem okS_back {q : Qv} {w W : World} (h : q.ok w) (hb : Below w.heap.size w W) (h' : q.okS W) : q.okS w := ⟨okN_back h hb h'.1, h'.2⟩
end Go.Proofs.YtnhkgfgbhedphaaGreatDoor
namespace Go.Proofs.YtnhkgfgbhedphaaGreatDoor
open Go.RowKit Go.Shelf

def Qv.okU (q : Qv) (w : World) : Prop := q.okS w ∧ ∃ ss : List ByteArray, SlA w 1 q.w ss.length (strs ss) ∧ ∀ s ∈ ss, s.size ≤ 40
def LightQU (q : Qv) (w : World) (e : Ending) : Prop := ∃ b, e = .returned (.bool b) ∧ (b = true → q.okU w)
theorem okU_back {q : Qv} {w W : World} (h : q.ok w) (hb : Below w.heap.size w W) (h' : q.okU W) : q.okU w := by
  refine ⟨okS_back h hb h'.1, ?_⟩
  obtain ⟨_, _, ss, hs, _⟩ := h
  obtain ⟨_, ts, ht, hle⟩ := h'
  have e : ts = ss := SlA.same ht (hs.below hb)
  subst e
  exact ⟨ts, hs, hle⟩
def LightX (w : World) (l : List St) (g h : List Rl) (qs : List Qv) (e : Ending) : Prop := ∃ b, e = .returned (.bool b) ∧ (b = true → (l.length ≤ 30 ∧ g.length ≤ 30 ∧ h.length ≤ 30 ∧ qs.length ≤ 30 ∧ allLe l 40 ∧ ∀ q ∈ qs, q.okU w) ∧ ∀ x ∈ g ++ h, x.le 40)
set_option maxRecDepth 100000 in
set_option maxHeartbeats 1000000 in
theorem law4_LightU (q : Qv) (w : World) (hq : q.ok w) : Calls Tryz.prog 43 #[qv q] w fun e w' => LightQU q w e ∧ Below w.heap.size w w' := by
  obtain ⟨ha, hb, ss, hs, hl⟩ := hq
  obtain ⟨k, ⟨x1, x2⟩, ⟨x3, x4⟩, wv⟩ := q
  have HS := Lib.hid (fun W h => law1_LightT wv ss W h hl)
  have HQ := Lib.hid (fun (h : ss.length ≤ 40 ∧ ∀ s ∈ ss, s.size ≤ 40) (h4 : [x1, x2, x3, x4].length ≤ 40 ∧ ∀ x ∈ [x1, x2, x3, x4], x.size ≤ 40) => show (⟨k, ⟨x1, x2⟩, ⟨x3, x4⟩, wv⟩ : Qv).okU w from ⟨⟨⟨ha, hb, ss, hs, h.1, hl⟩, ⟨h4.2 _ (by simp), h4.2 _ (by simp)⟩, ⟨h4.2 _ (by simp), h4.2 _ (by simp)⟩⟩, ss, hs, h.2⟩)
  have HW := Lib.hid hs
  have H4 := Lib.hid (fun W h => law1_LightT (.slice (some ⟨w.heap.size + 1, 0, none⟩) 4 4) [x1, x2, x3, x4] W h (by
    intro s hs; simp at hs; rcases hs with rfl | rfl | rfl | rfl
    · exact ha.1
    · exact ha.2
    · exact hb.1
    · exact hb.2))
  obtain ⟨wo, wc, rfl⟩ := hs.form
  clear ha hb hl hs
  have HB := Lib.hid ((Below.refl _ w).alloc (Nat.le_refl _) (.cells #[.int .i64 k, .string x1, .string x2, .string x3, .string x4, .slice wo ss.length wc] 66))
  have HB2 := Lib.hid (HB.out.alloc HB.out.size (.cells #[.string x1, .string x2, .string x3, .string x4] 9))
  have S4 := Lib.hid (Sl.new (w.alloc (.cells #[.int .i64 k, .string x1, .string x2, .string x3, .string x4, .slice wo ss.length wc] 66)) [.string x1, .string x2, .string x3, .string x4] 9 1 4 (w.heap.size + 1) (by simp) rfl (by simp [maxLen]))
  go_enter Tryz.func43, Tryz.ntmps43
  go_wp2_with fail
  refine (HS.out _ (HW.out.below HB.out)).mono ?_
  rintro e w1 ⟨⟨b1, rfl, hb1⟩, rfl⟩
  have HB1 := Lib.hid hb1
  clear hb1
  cases b1 with
  | false =>
    go_wp2
    go_ret
    exact ⟨⟨false, rfl, fun h => by cases h⟩, HB.out⟩
  | true =>
    go_wp2_with fail
    refine (H4.out _ S4.out.a).mono ?_
    rintro e w1 ⟨⟨b2, rfl, hb2⟩, rfl⟩
    have HB4 := Lib.hid hb2
    clear hb2
    go_wp2
    go_ret
    exact ⟨⟨b2, rfl, fun h => HQ.out (HB1.out (by first | rfl | trivial)) (HB4.out h)⟩, HB2.out⟩
set_option maxRecDepth 100000 in
set_option maxHeartbeats 8000000 in
theorem law5_LightU (v0 v1 v2 v3 : Value) (l : List St) (g h : List Rl) (qs : List Qv) (w : World) (hp : PolAt w v0 v1 v2 v3 l g h qs) :
    Calls Tryz.prog 9 #[pv v0 v1 v2 v3] w fun e w' => LightX w l g h qs e ∧ Below w.heap.size w w' := by
  have HP := Lib.hid hp
  have hm0 := hp.rs.max
  have hm1 := hp.rg.max
  have hm2 := hp.rh.max
  have hm3 := hp.rq.max
  obtain ⟨a0, c0, rfl⟩ := hp.rs.form
  obtain ⟨a1, c1, rfl⟩ := hp.rg.form
  obtain ⟨a2, c2, rfl⟩ := hp.rh.form
  obtain ⟨a3, c3, rfl⟩ := hp.rq.form
  have HL := Lib.hid (fun k (hk : k < l.length) W => law3_Light l[k] W (hp.ls _ (List.getElem_mem hk)))
  have T0 := Lib.hid (show OneAt w #[.slice a0 l.length c0, .slice a1 g.length c1, .slice a2 h.length c2, .slice a3 qs.length c3] (w.alloc (.cells #[.slice a0 l.length c0, .slice a1 g.length c1, .slice a2 h.length c2, .slice a3 qs.length c3] 26)) from ⟨Blk.new w _ _, (Below.refl _ _).alloc (Nat.le_refl _) _⟩)
  clear hp
  go_enter Tryz.func9, Tryz.ntmps9
  by_cases t0 : 30 < l.length
  · have d0 : decide ((30 : Int) < (l.length : Int)) = true := by (rw [decide_eq_true_iff]; omega)
    go_wp2
    go_ret
    exact ⟨⟨false, rfl, (fun h => by cases h)⟩, T0.out.low⟩
  have d0 : decide ((30 : Int) < (l.length : Int)) = false := by (rw [decide_eq_false_iff_not]; omega)
  by_cases t1 : 30 < g.length
  · have d1 : decide ((30 : Int) < (g.length : Int)) = true := by (rw [decide_eq_true_iff]; omega)
    go_wp2
    go_ret
    exact ⟨⟨false, rfl, (fun h => by cases h)⟩, T0.out.low⟩
  have d1 : decide ((30 : Int) < (g.length : Int)) = false := by (rw [decide_eq_false_iff_not]; omega)
  by_cases t2 : 30 < h.length
  · have d2 : decide ((30 : Int) < (h.length : Int)) = true := by (rw [decide_eq_true_iff]; omega)
    go_wp2
    go_ret
    exact ⟨⟨false, rfl, (fun h => by cases h)⟩, T0.out.low⟩
  have d2 : decide ((30 : Int) < (h.length : Int)) = false := by (rw [decide_eq_false_iff_not]; omega)
  by_cases t3 : 30 < qs.length
  · have d3 : decide ((30 : Int) < (qs.length : Int)) = true := by (rw [decide_eq_true_iff]; omega)
    go_wp2
    go_ret
    exact ⟨⟨false, rfl, (fun h => by cases h)⟩, T0.out.low⟩
  have d3 : decide ((30 : Int) < (qs.length : Int)) = false := by (rw [decide_eq_false_iff_not]; omega)
  go_wp2_with fail
  clear d0 d1 d2 d3
  go_loopw [34] (fun i wr => ∃ k : Nat, k ≤ l.length ∧ i = .int .i64 k ∧ Hid (OneAt w #[.slice a0 l.length c0, .slice a1 g.length c1, .slice a2 h.length c2, .slice a3 qs.length c3] wr) ∧ Hid (∀ j (hj : j < l.length), j < k → l[j].le 40)) (fun i _ => l.length - (intOf i).toNat)
  case atStart => exact ⟨0, by omega, rfl, T0, Lib.hid (fun _ _ h => absurd h (by omega))⟩
  case round =>
    obtain ⟨k, hk, rfl, TR, HJ⟩ := hrel
    by_cases hlt : k < l.length
    · obtain ⟨b1, o1, e1, he1, hc1, hm1', hb1, hx1⟩ := HP.out.rs.pos (by omega)
      simp only [Value.slice.injEq, true_and] at he1
      obtain ⟨rfl, rfl⟩ := he1
      obtain ⟨p0, p1, p2, p3, p4, p5, p6, p7, p8⟩ := st_cell (w := wr) (fun j u hu => (TR.out.low.cell (p := ⟨b1, o1 + j, none⟩) hb1).trans (hx1 j u hu)) k hlt
      have hbr : b1 < wr.heap.size := Nat.lt_of_lt_of_le hb1 TR.out.low.size
      have HLk := Lib.hid (fun W => HL.out k hlt W)
      clear hx1
      go_wp2_with fail
      refine (HLk.out _).mono ?_
      rintro e w2 ⟨b, rfl, hle, hb2⟩
      have HLE := Lib.hid hle
      have T2 := Lib.hid ((TR.out.alloc _).later hb2)
      clear hle hb2
      cases b with
      | false =>
        go_wp2
        go_ret
        exact ⟨⟨false, rfl, (fun h => by cases h)⟩, T2.out.low⟩
      | true =>
        have HJ2 : Hid (∀ j (hj : j < l.length), j < k + 1 → l[j].le 40) := Lib.hid (fun j hj hjk => by
          by_cases h : j < k
          · exact HJ.out j hj h
          · obtain rfl : j = k := by omega
            exact HLE.out (by first | rfl | trivial))
        go_wp2
        exact ⟨⟨k + 1, by omega, by go_num, T2, HJ2⟩, by simp [intOf]; omega⟩
    · have HJ3 := Lib.hid (show allLe l 40 from fun x hx => by
        obtain ⟨j, hj, rfl⟩ := List.getElem_of_mem hx
        exact HJ.out j hj (by omega))
      obtain ⟨ca, fa, za⟩ := TR.out.a
      clear HJ HL
      go_wp2_with fail
      go_loopw [45] (fun i wr => ∃ k : Nat, k ≤ qs.length ∧ i = .int .i64 k ∧ Hid (OneAt w #[.slice a0 l.length c0, .slice a1 g.length c1, .slice a2 h.length c2, .slice a3 qs.length c3] wr) ∧ Hid (∀ j (hj : j < qs.length), j < k → qs[j].okU w)) (fun i _ => qs.length - (intOf i).toNat)
      case atStart => exact ⟨0, by omega, rfl, TR, Lib.hid (fun _ _ h => absurd h (by omega))⟩
      case round =>
        clear TR ca fa za
        obtain ⟨k, hk, rfl, TR, HQJ⟩ := hrel
        by_cases hlt : k < qs.length
        · obtain ⟨b1, o1, e1, he1, hc1, hm1', hb1, hx1⟩ := HP.out.rq.pos (by omega)
          simp only [Value.slice.injEq, true_and] at he1
          obtain ⟨rfl, rfl⟩ := he1
          obtain ⟨p0, p1, p2, p3, p4, p5⟩ := q_cell (w := wr) (fun j u hu => (TR.out.low.cell (p := ⟨b1, o1 + j, none⟩) hb1).trans (hx1 j u hu)) k hlt
          have hbr : b1 < wr.heap.size := Nat.lt_of_lt_of_le hb1 TR.out.low.size
          have hqo := HP.out.lq _ (List.getElem_mem hlt)
          have QL := Lib.hid (fun W (hb : Below w.heap.size w W) => law4_LightU qs[k] W (hqo.below hb))
          have QB := Lib.hid (fun (W : World) (hb : Below w.heap.size w W) (h : qs[k].okU W) => okU_back hqo hb h)
          have HQ2 : Hid (qs[k].okU w → ∀ j (hj : j < qs.length), j < k + 1 → qs[j].okU w) := Lib.hid (fun hpk j hj hjk => by
            by_cases h : j < k
            · exact HQJ.out j hj h
            · obtain rfl : j = k := by omega
              exact hpk)
          obtain ⟨wo, wc, hw5⟩ : ∃ a c, qs[k].w = .slice a ((hqo.2.2).choose).length c := ((hqo.2.2).choose_spec.1).form
          generalize (hqo.2.2).choose.length = nw at hw5
          have hek : qs[k] = ⟨qs[k].k, ⟨qs[k].a.o, qs[k].a.n⟩, ⟨qs[k].b.o, qs[k].b.n⟩, qs[k].w⟩ := rfl
          clear hx1 hqo
          generalize qs[k] = x at *
          obtain ⟨xk, ⟨x1, x2⟩, ⟨x3, x4⟩, xw⟩ := x
          dsimp only at hw5
          subst hw5
          clear hek
          have T2 := Lib.hid (TR.out.alloc (.cells #[.int .i64 xk, .string x1, .string x2, .string x3, .string x4, .slice wo nw wc] 66))
          go_wp2_with fail
          refine (QL.out _ T2.out.low).mono ?_
          rintro e w2 ⟨⟨b, rfl, hbq⟩, hb2⟩
          have T3 := Lib.hid (T2.out.later hb2)
          have HBQ := Lib.hid (fun h => HQ2.out (QB.out _ T2.out.low (hbq h)))
          clear hb2 hbq
          cases b with
          | false =>
            go_wp2
            go_ret
            exact ⟨⟨false, rfl, (fun h => by cases h)⟩, T3.out.low⟩
          | true =>
            go_wp2
            exact ⟨⟨k + 1, by omega, by go_num, T3, Lib.hid (HBQ.out (by first | rfl | trivial))⟩, by simp [intOf]; omega⟩
        · have HQA := Lib.hid (show ∀ q ∈ qs, q.okU w from fun q hq => by
            obtain ⟨j, hj, rfl⟩ := List.getElem_of_mem hq
            exact HQJ.out j hj (by omega))
          obtain ⟨inf, hi, hz0, hz1, hz2⟩ := info_parts rl_info'
          have HINF := Lib.hid hi
          have T2 := TR.out.drew
          have hown : (wr.drew.alloc (.cells #[] 54)).ownsRow wr.heap.size 54 2 (.slice (some ⟨wr.heap.size, 0, none⟩) 0 0) 0 [] := World.ownsRow_made wr.drew #[] 0 (Nat.le_refl _) (Nat.zero_le _) (by simp)
          have hlow : Below wr.heap.size wr (wr.drew.alloc (.cells #[] 54)) := (below_drew (Below.refl _ _)).alloc (Nat.le_refl _) _
          have T4 := TR.out.later hlow
          obtain ⟨ca, fa, za⟩ := TR.out.a
          have hza : w.heap.size < wr.heap.size := za
          clear hi fa za
          go_wp2_with fail
          go_region_held3 (fun W => ∀ o, W.cell? ⟨w.heap.size, o, none⟩ = (#[.slice a0 l.length c0, .slice a1 g.length c1, .slice a2 h.length c2, .slice a3 qs.length c3] : Array Value)[o]?)
            (first | exact T2.a.1 | exact T4.a.1 | exact T5.a.1 | exact T6.a.1 | go_keep)
            (first
              | (refine step_row rfl _ _ 23 rfl wr.heap.size 54 inf _ 2 32 Tryz.underlying23 HINF.out hz0 hz1 hz2 (Nat.le_of_ble_eq_true rfl) rfl (Nat.le_of_ble_eq_true rfl) _ 0 [] rfl hown _ g.length _ rfl (HP.out.rg.below T4.low) (rls_one _) ?_ hlow.size ?_; omega; intro a5 c5 w5 hown5 hg5; have hb5 := below_own hlow hown hg5 hlow.size (Nat.le_refl _); have T5 := TR.out.later hb5)
              | (refine step_row rfl _ _ 23 rfl wr.heap.size 54 inf _ 2 32 Tryz.underlying23 HINF.out hz0 hz1 hz2 (Nat.le_of_ble_eq_true rfl) rfl (Nat.le_of_ble_eq_true rfl) _ (0 + g.length) _ rfl hown5 _ h.length _ rfl (HP.out.rh.below T5.low) (rls_one _) ?_ hb5.size ?_; omega; intro a6 c6 w6 hown6 hg6; have hb6 := below_own hb5 hown5 hg6 hb5.size (Nat.le_refl _); have T6 := TR.out.later hb6; obtain ⟨n6, hn6⟩ : ∃ n6, n6 = 0 + g.length + h.length := ⟨_, rfl⟩; rw [← hn6] at hown6 ⊢; have HN6 := Lib.hid hn6; clear hn6))
          have HS6 := Lib.hid (show Sl w6 2 (.slice a6 n6 c6) n6 ((g ++ h).flatMap Rl.cells) by have := Sl.of_own hown6; rw [rl_flat]; simpa using this)
          have HLe := Lib.hid (show ∀ x ∈ g ++ h, x.le 9223372036854775807 from fun x hx => by
            rcases List.mem_append.1 hx with hx | hx
            · exact HP.out.lg x hx
            · exact HP.out.lh x hx)
          have HN := Lib.hid (show n6 = (g ++ h).length by rw [HN6.out, List.length_append]; omega)
          have HB6 := Lib.hid T6.low
          have hn6m : n6 ≤ 1000 := by have := HN6.out; omega
          have HGH : ∃ gh, Hid (g ++ h = gh) := ⟨_, Lib.hid rfl⟩
          obtain ⟨gh, HGH⟩ := HGH
          rw [HGH.out] at HS6 HLe HN
          clear hown5 hown6 hg5 hg6 hb5 hb6 T2 T4 T5 T6 hlow hown ca hza TR HN6
          go_wp2_with fail
          go_loopw [61] (fun i wr => ∃ k : Nat, k ≤ n6 ∧ i = .int .i64 k ∧ Hid (Below w6.heap.size w6 wr) ∧ Hid (∀ j (hj : j < gh.length), j < k → gh[j].le 40)) (fun i _ => n6 - (intOf i).toNat)
          case atStart => exact ⟨0, by omega, rfl, Lib.hid (Below.refl _ _), Lib.hid (fun _ _ h => absurd h (by omega))⟩
          case round =>
            obtain ⟨k, hk, rfl, HB, HRJ⟩ := hrel
            by_cases hlt : k < n6
            · obtain ⟨b1, o1, e1, he1, hc1, hm1', hb1, hx1⟩ := HS6.out.pos (by omega)
              simp only [Value.slice.injEq, true_and] at he1
              obtain ⟨rfl, rfl⟩ := he1
              have hlt2 : k < gh.length := by have := HN.out; omega
              obtain ⟨p0, p1⟩ := rl_cell (w := wr) (fun j u hu => (HB.out.cell (p := ⟨b1, o1 + j, none⟩) hb1).trans (hx1 j u hu)) k hlt2
              have hbr : b1 < wr.heap.size := Nat.lt_of_lt_of_le hb1 HB.out.size
              have hle := HLe.out _ (List.getElem_mem hlt2)
              have HR2 : Hid (gh[k].le 40 → ∀ j (hj : j < gh.length), j < k + 1 → gh[j].le 40) := Lib.hid (fun hpk j hj hjk => by
                by_cases h : j < k
                · exact HRJ.out j hj h
                · obtain rfl : j = k := by omega
                  exact hpk)
              clear hx1
              generalize gh[k] = x at *
              obtain ⟨x1, x2⟩ := x
              have hz1' : x1.size ≤ 9223372036854775807 := hle.1
              have hz2' : x2.size ≤ 9223372036854775807 := hle.2
              have HB2 := Lib.hid (HB.out.alloc HB.out.size (.cells #[.string x1, .string x2] 54))
              clear hle
              by_cases q1 : 40 < x1.size
              · have d1 : decide ((40 : Int) < (x1.size : Int)) = true := by (rw [decide_eq_true_iff]; omega)
                clear q1
                go_wp2
                go_ret
                exact ⟨⟨false, rfl, (fun h => by cases h)⟩, HB6.out.trans (HB2.out.mono HB6.out.size)⟩
              have d1 : decide ((40 : Int) < (x1.size : Int)) = false := by (rw [decide_eq_false_iff_not]; omega)
              have Q1 := Lib.hid q1
              clear q1
              by_cases q2 : 40 < x2.size
              · have d2 : decide ((40 : Int) < (x2.size : Int)) = true := by (rw [decide_eq_true_iff]; omega)
                clear q2
                go_wp2
                go_ret
                exact ⟨⟨false, rfl, (fun h => by cases h)⟩, HB6.out.trans (HB2.out.mono HB6.out.size)⟩
              have d2 : decide ((40 : Int) < (x2.size : Int)) = false := by (rw [decide_eq_false_iff_not]; omega)
              have HR3 := Lib.hid (HR2.out ⟨by have := Q1.out; show x1.size ≤ 40; omega, by show x2.size ≤ 40; omega⟩)
              clear q2
              go_wp2
              exact ⟨⟨k + 1, by omega, by go_num, HB2, HR3⟩, by simp [intOf]; omega⟩
            · have HR4 : Hid (∀ x ∈ g ++ h, x.le 40) := Lib.hid (by
                rw [HGH.out]
                intro x hx
                obtain ⟨j, hj, rfl⟩ := List.getElem_of_mem hx
                exact HRJ.out j hj (by have := HN.out; omega))
              go_wp2
              go_ret
              exact ⟨⟨true, rfl, (fun _ => ⟨⟨by omega, by omega, by omega, by omega, HJ3.out, HQA.out⟩, HR4.out⟩)⟩, HB6.out.trans (HB.out.mono HB6.out.size)⟩
end Go.Proofs.YtnhkgfgbhedphaaGreatDoor
namespace Go.Proofs.YtnhkgfgbhedphaaGreatDoor
open Go.RowKit Go.Shelf

theorem PolAt.give {w : World} {v0 v1 v2 v3 : Value} {l : List St} {g h : List Rl} {qs : List Qv} (H : PolAt w v0 v1 v2 v3 l g h qs) :
    ∃ zs : List (Qd × Value), PolD w v0 v1 v2 v3 ⟨l, g, h, zs.map (·.1)⟩ zs ∧ zs.map qz = qs := by
  have hz : (qs.map (fun q : Qv => ((⟨q.k, q.a, q.b, whoAt w q.w⟩ : Qd), q.w))).map qz = qs := by
    rw [List.map_map]
    conv => rhs; rw [← List.map_id qs]
    rfl
  refine ⟨qs.map (fun q : Qv => ((⟨q.k, q.a, q.b, whoAt w q.w⟩ : Qd), q.w)), ⟨rfl, H.rs, H.rg, H.rh, ?_, ?_⟩, hz⟩
  · rw [hz, List.length_map]
    exact H.rq
  · intro z hz
    obtain ⟨q, hq, rfl⟩ := List.mem_map.1 hz
    obtain ⟨_, _, ss, hs, _⟩ := H.lq q hq
    dsimp only
    rw [whoAt_eq hs]
    exact hs
theorem leP_light {w : World} {v0 v1 v2 v3 : Value} {l : List St} {g h : List Rl} {zs : List (Qd × Value)} (H : PolD w v0 v1 v2 v3 ⟨l, g, h, zs.map (·.1)⟩ zs) (hl : allLe l 40) (hq : ∀ q ∈ zs.map qz, q.okU w) (hgh : ∀ x ∈ g ++ h, x.le 40) :
    LeP ⟨l, g, h, zs.map (·.1)⟩ 40 40 := by
  have a : ∀ z ∈ zs, (qz z).okU w := fun z hz => hq _ (List.mem_map.2 ⟨z, hz, rfl⟩)
  refine ⟨hl, fun x hx => hgh x (List.mem_append.2 (.inl hx)), fun x hx => hgh x (List.mem_append.2 (.inr hx)), ?_, ?_, ?_, ?_⟩
  · intro x hx
    obtain ⟨z, hz, rfl⟩ := List.mem_map.1 hx
    exact (a z hz).1.2.1
  · intro x hx
    obtain ⟨z, hz, rfl⟩ := List.mem_map.1 hx
    exact (a z hz).1.2.2
  · intro x hx
    obtain ⟨z, hz, rfl⟩ := List.mem_map.1 hx
    obtain ⟨_, ss, hs, hle⟩ := a z hz
    have e : ss = z.1.us := SlA.same hs (H.rw z hz)
    rw [← e]
    exact hle
  · intro x hx
    obtain ⟨z, hz, rfl⟩ := List.mem_map.1 hx
    obtain ⟨⟨⟨_, _, ss, hs, hle, _⟩, _⟩, _⟩ := a z hz
    have e : ss = z.1.us := SlA.same hs (H.rw z hz)
    rw [← e]
    exact hle
end Go.Proofs.YtnhkgfgbhedphaaGreatDoor
namespace Go.Proofs.YtnhkgfgbhedphaaGreatDoor
open Go.RowKit Go.Shelf

theorem joinN_size (M : Nat) : ∀ (L : List ByteArray), (∀ s ∈ L, s.size ≤ M) → (joinN L).length ≤ L.length * (M + 1)
  | [], _ => by simp [joinN]
  | s :: L, h => by
    have h1 := joinN_size M L (fun x hx => h x (by simp [hx]))
    have h2 := h s (by simp)
    have e : joinN (s :: L) = bl s ++ 10 :: joinN L := by unfold joinN; simp
    rw [e, List.length_append, List.length_cons, bl_len, List.length_cons, Nat.succ_mul]
    omega
theorem textP_size {p : Pd} (h : RightD p) : (textP p).size ≤ 40000 := by
  have h1 := joinN_size 200 (linesD p) (fun s hs => by
    unfold linesD at hs
    simp only [List.mem_append, List.mem_map] at hs
    rcases hs with ((⟨x, hx, rfl⟩ | ⟨x, hx, rfl⟩) | ⟨x, hx, rfl⟩) | ⟨x, hx, rfl⟩
    · have := printS_size (h.ok.l x hx); omega
    · have := growT_size (h.ok.g x hx); omega
    · have := shrinkT_size (h.ok.h x hx); omega
    · exact textQ_size x (h.ok.q x hx))
  obtain ⟨a, b, c, d⟩ := fits_few h.f
  have e : (linesD p).length = p.l.length + p.g.length + p.h.length + p.q.length := by unfold linesD; simp only [List.length_append, List.length_map]
  have e2 : (textP p).size = (joinN (linesD p)).length := by rw [← bl_len]; unfold textP; rw [bl_mk]
  rw [e] at h1
  omega
theorem print_right {w : World} {v0 v1 v2 v3 : Value} {p : Pd} {zs : List (Qd × Value)} (H : PolD w v0 v1 v2 v3 p zs) (hr : RightD p) :
    Calls Tryz.prog 30 #[pv v0 v1 v2 v3] w fun e w' => e = .returned (.string (textP p)) ∧ Below w.heap.size w w' := by
  obtain ⟨a, b, c, d⟩ := fits_few hr.f
  refine (policy_Print v0 v1 v2 v3 p zs w H ((okP_le hr.ok).mono (by decide) (by decide)) a b c (by omega)).mono ?_
  rintro e w1 ⟨⟨t, rfl, ht, _⟩, hb⟩
  exact ⟨by rw [ht hr], hb⟩
theorem right_any {w : World} {v0 v1 v2 v3 : Value} {p : Pd} {zs : List (Qd × Value)} (H : PolD w v0 v1 v2 v3 p zs) (hle : LeP p 4294967 40) (hl : p.l.length ≤ 80) (hg : p.g.length ≤ 40) (hh : p.h.length ≤ 40) (hq : p.q.length ≤ 100) :
    Calls Tryz.prog 31 #[pv v0 v1 v2 v3] w fun e w' => (∃ b, e = .returned (.bool b) ∧ (b = true ↔ RightD p)) ∧ Below w.heap.size w w' := by
  have hm : ∀ z ∈ zs, z.1 ∈ p.q := fun z hz => by rw [← H.z]; exact List.mem_map_of_mem hz
  refine (policy_RightL v0 v1 v2 v3 p.l p.g p.h (zs.map qz) w (H.at (hle.mono (by decide) (Nat.le_refl _))) hl hg hh (by rw [H.qlen]; exact hq) (fun x hx => hle.l x hx) (fun x hx => (List.mem_append.1 hx).elim (hle.g x) (hle.h x)) (fun q hq => by
    obtain ⟨z, hz, rfl⟩ := List.mem_map.1 hq
    exact ⟨hle.qa _ (hm z hz), hle.qb _ (hm z hz)⟩) (FAt w) (H.who hle (by decide)) (fun q hq s hs => by
    obtain ⟨z, hz, rfl⟩ := List.mem_map.1 hq
    rw [H.F z hz] at hs
    have := hle.qs _ (hm z hz) s hs
    omega)).mono ?_
  rintro e w1 ⟨⟨b, rfl, hb⟩, hw⟩
  exact ⟨⟨b, rfl, hb.trans (rightD_iff H.z H.F hl hg hh)⟩, hw⟩
theorem right_right {w : World} {v0 v1 v2 v3 : Value} {p : Pd} {zs : List (Qd × Value)} (H : PolD w v0 v1 v2 v3 p zs) (hr : RightD p) :
    Calls Tryz.prog 31 #[pv v0 v1 v2 v3] w fun e w' => e = .returned (.bool true) ∧ Below w.heap.size w w' := by
  obtain ⟨a, b, c, d⟩ := fits_few hr.f
  refine (right_any H ((okP_le hr.ok).mono (by decide) (by decide)) a b c (by omega)).mono ?_
  rintro e w1 ⟨⟨b, rfl, hb⟩, hw⟩
  rw [hb.2 hr]
  exact ⟨rfl, hw⟩
end Go.Proofs.YtnhkgfgbhedphaaGreatDoor
namespace Go.Proofs.YtnhkgfgbhedphaaGreatDoor
open Go.RowKit Go.Shelf

end Go.Proofs.YtnhkgfgbhedphaaGreatDoor
namespace Go.Proofs.YtnhkgfgbhedphaaGreatDoor
open Go.RowKit Go.Shelf

theorem take_moreT {α : Type} {l m : List α} {k : Nat} (h : l.take k = m.take k) (hl : k < l.length) (hm : k < m.length) (e : l[k] = m[k]) : l.take (k + 1) = m.take (k + 1) := by
  rw [List.take_succ_eq_append_getElem hl, List.take_succ_eq_append_getElem hm, h, e]
theorem same_endT {l m : List ByteArray} {k : Nat} (h : l.take k = m.take k) (hl : ¬ k < l.length) (hm : ¬ k < m.length) : decide (l = m) = true := by
  rw [List.take_of_length_le (by omega), List.take_of_length_le (by omega)] at h
  exact decide_eq_true h
theorem same_noT {l m : List ByteArray} {k : Nat} (hl : k < l.length) (hm : k < m.length) (e : ¬ l[k] = m[k]) : decide (l = m) = false := decide_eq_false (fun h => e (by subst h; rfl))
theorem same_lenT {l m : List ByteArray} (h : ¬ l.length = m.length) : decide (l = m) = false := decide_eq_false (fun e => h (by rw [e]))
set_option maxRecDepth 100000 in
set_option maxHeartbeats 2000000 in
theorem str_Equal (va vb : Value) (l m : List ByteArray) (w : World) (ha : SlA w 1 va l.length (strs l)) (hb : SlA w 1 vb m.length (strs m)) :
    Calls Tryz.prog 132 #[va, vb] w fun e w' => e = .returned (.bool (decide (l = m))) ∧ ∃ n, w' = w.drewN n := by
  have hmax := ha.max
  have hmax2 := hb.max
  by_cases hl : l.length = m.length
  case neg =>
    have R := Lib.hid (same_lenT hl)
    have d : ((l.length : Int) != (m.length : Int)) = true := by rw [bne_iff_ne]; omega
    obtain ⟨a1, c1, rfl⟩ := ha.form
    obtain ⟨a2, c2, rfl⟩ := hb.form
    clear ha hb hl
    go_enter Tryz.func132, Tryz.ntmps132
    go_wp2
    go_ret
    exact ⟨ret_b R.out.symm, 0, rfl⟩
  have hne : ((l.length : Int) != (m.length : Int)) = false := by rw [hl]; simp
  by_cases h0 : 0 < l.length
  · obtain ⟨b1, o1, c1, rfl, hc1, hm1, _, hx1⟩ := ha.pos h0
    obtain ⟨b2, o2, c2, rfl, hc2, hm2, _, hx2⟩ := hb.pos (by omega)
    have HX1 := Lib.hid hx1
    have HX2 := Lib.hid hx2
    have HL := Lib.hid hl
    clear ha hb hx1 hx2 hl
    go_enter Tryz.func132, Tryz.ntmps132
    go_wp2
    go_loopw [13] (fun i wr => ∃ k n : Nat, k ≤ l.length ∧ i = .int .i64 k ∧ wr = w.drewN n ∧ Hid (l.take k = m.take k)) (fun i _ => l.length - (intOf i).toNat)
    case atStart => exact ⟨0, 0, by omega, rfl, rfl, Lib.hid (by simp)⟩
    case round =>
      obtain ⟨k, n, hk, rfl, rfl, HT⟩ := hrel
      by_cases hlt : k < l.length
      · have hlt2 : k < m.length := by have := HL.out; omega
        have p0 := HX1.out k _ (strs_get hlt)
        have q0 := HX2.out k _ (strs_get hlt2)
        by_cases he : l[k] = m[k]
        · have HN := Lib.hid (take_moreT HT.out hlt hlt2 he)
          have d1 : (!(l[k].toList == m[k].toList)) = false := by rw [beq_str, decide_eq_true he]; rfl
          clear he
          generalize l[k] = x at *
          generalize m[k] = y at *
          go_wp2_with fail
          go_big_quiet (fail)
          go_wp2
          exact ⟨⟨k + 1, n + nq, by omega, by go_num, rfl, HN⟩, by simp [intOf]; omega⟩
        · have R := Lib.hid (same_noT hlt hlt2 he)
          have d1 : (!(l[k].toList == m[k].toList)) = true := by rw [beq_str, decide_eq_false he]; rfl
          clear he
          generalize l[k] = x at *
          generalize m[k] = y at *
          go_wp2_with fail
          go_big_quiet (fail)
          go_wp2
          go_ret
          exact ⟨ret_b R.out.symm, n + nq, by simp [World.drewN, Nat.add_assoc]⟩
      · have R := Lib.hid (same_endT HT.out hlt (by have := HL.out; omega))
        go_wp2
        go_ret
        exact ⟨ret_b R.out.symm, n, rfl⟩
  · have R := Lib.hid (same_endT (l := l) (m := m) (k := 0) (by simp) h0 (by omega))
    obtain ⟨a1, c1, rfl⟩ := ha.form
    obtain ⟨a2, c2, rfl⟩ := hb.form
    have d0 : l.length = 0 := by omega
    have d02 : m.length = 0 := by omega
    clear ha hb h0 hmax hl hmax2
    go_enter Tryz.func132, Tryz.ntmps132
    go_wp2
    go_loopw [13] (fun i wr => i = .int .i64 0 ∧ wr = w) (fun _ _ => 0)
    case atStart => exact ⟨rfl, rfl⟩
    case round =>
      obtain ⟨rfl, rfl⟩ := hrel
      go_wp2
      go_ret
      exact ⟨ret_b R.out.symm, 0, rfl⟩
end Go.Proofs.YtnhkgfgbhedphaaGreatDoor
