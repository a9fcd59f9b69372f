/- sem.maker.look. -/
import Derived.Test.YtcmdhfccdkjenaaGreatDoorPart13
namespace Go.Proofs.YtcmdhfccdkjenaaGreatDoor
open Go.RowKit Go.Shelf

set_option maxRecDepth 100000 in
set_option maxHeartbeats 16000000 in
theorem mk_look {w : World} {d : MkI} {rs : List Ru} {rv : Nat → Value} {fs : List (Nat × Nat)} {k : Nat} {qv : Value} {st : Nat} (h : MkAt w d rs rv fs k qv st) (ρ x : Nat) (hf : (ρ, x) ∈ fs) (hok : ∀ r ∈ rs, okRu d.pr d.lk r = true) (hst : st ≤ 90000000000) (hrs : rs.length ≤ 100000) :
    Calls Tryz.prog 187 #[.pointer (some ⟨d.K, 0, none⟩), .agg #[.int .i64 ρ, .int .i64 x]] w fun e w' => e = .returned (.tuple #[]) ∧ ∃ fs' qv' st', MkMore w d rs rv fs k qv w' fs' qv' st' ∧ Grow d.lk rs fs fs' ∧ Looked d.lk rs (ρ, x) fs fs' ∧ st' ≤ st + rs.length * (d.pr + 1) + rs.length * 2 := by
  have HH := Lib.hid h
  have hrx := h.f.rng _ hf
  dsimp only at hrx
  obtain ⟨hρ, hx⟩ := hrx
  have p64 := h.ok.p64
  have l64 := h.ok.l64
  have hle := h.b.le
  have hlk : 0 < d.lk := Nat.pos_of_ne_zero (fun e => by unfold MkI.n at hρ; rw [e] at hρ; omega)
  have hnn : d.n ≤ 64 * 64 := Nat.mul_le_mul p64 l64
  obtain ⟨w1, hw1⟩ : ∃ V, V = w.alloc (.cells #[.int .i64 ρ, .int .i64 x] 200) := ⟨_, rfl⟩
  have hb1 : Below w.heap.size w w1 := by rw [hw1]; exact (Below.refl _ _).alloc (Nat.le_refl _) _
  have H1 := Lib.hid (MkMore.start h |>.below hb1)
  have F1 := Lib.hid (show Blk w1 w.heap.size #[.int .i64 ρ, .int .i64 x] by rw [hw1]; exact Blk.new _ _ _)
  have hbfX : ¬ mkX d qv w.heap.size := mkX_far h (by omega) (fun e => by have := (h.qge w.heap.size e).2; omega)
  have hown := h.b.own ρ (by omega)
  obtain ⟨ro, rc, hrv⟩ := own_form hown
  have HBL := Lib.hid (show rowL d.n rs ρ = byR rs ρ from if_pos hρ)
  have hBlen := rowL_len d.n rs ρ
  have hrowX : ∀ g, (rv ρ).ownBlock = some g → ¬ mkX d qv g := fun g hg => mkX_far h (hown.lt g hg).1 (h.b.qa ρ (by omega) g hg)
  rw [HBL.out] at hown hBlen hrv
  clear HBL
  generalize hB : byR rs ρ = B at *
  have HB := Lib.hid hB
  clear hB
  rw [hrv] at hown hrowX
  have HOW := Lib.hid hown
  have HRX := Lib.hid hrowX
  have HBX := Lib.hid hbfX
  clear hbfX
  clear hown hrowX
  obtain ⟨mv, hmd⟩ : ∃ m, m = ρ % d.lk := ⟨_, rfl⟩
  obtain ⟨q3, hqd⟩ : ∃ q, q = ρ / d.lk := ⟨_, rfl⟩
  have hmv : mv < d.lk := by rw [hmd]; exact Nat.mod_lt _ hlk
  have HQM := Lib.hid (show q3 * d.lk + mv = ρ by rw [hqd, hmd, Nat.mul_comm]; exact Nat.div_add_mod _ _)
  have hownV := h.b.own (d.n + mv) (by omega)
  obtain ⟨vo, vc, hvv⟩ := own_form hownV
  have HVL := Lib.hid (show rowL d.n rs (d.n + mv) = viaR rs mv by unfold rowL; rw [if_neg (by omega), show d.n + mv - d.n = mv by omega])
  have hVlen := rowL_len d.n rs (d.n + mv)
  have hviaX : ∀ g, (rv (d.n + mv)).ownBlock = some g → ¬ mkX d qv g := fun g hg => mkX_far h (hownV.lt g hg).1 (h.b.qa (d.n + mv) (by omega) g hg)
  rw [HVL.out] at hownV hVlen hvv
  clear HVL
  generalize hV : viaR rs mv = V at *
  have HV := Lib.hid hV
  clear hV
  rw [hvv] at hownV hviaX
  have HOV := Lib.hid hownV
  have HVX := Lib.hid hviaX
  have HVR := Lib.hid hvv
  clear hownV hviaX hvv
  have HK0w := 0
  clear HK0w
  have HIN := Lib.hid (show ∀ r ∈ rs, r.k ≠ 1 → (r.a.toNat = ρ ∨ r.k = 4 ∧ r.b.toNat = ρ) → ∃ j, ∃ hj : j < B.length, B[j] = r from fun r hr hk ha => by
    have hm : r ∈ byR rs ρ := byR_mem.2 ⟨hr, hk, by
      rcases okRu_cases (hok _ hr) with ⟨_, _, rfl, _, _⟩ | ⟨h0, a0, rfl, hh, ha'⟩ | ⟨h0, a0, v0, rfl, hh, ha', hv⟩ | ⟨h0, a0, b0, rfl, hh, ha', hb⟩
      · exact absurd rfl hk
      · simp at ha ⊢; omega
      · simp at ha ⊢; omega
      · simp at ha ⊢; omega⟩
    rw [HB.out] at hm
    exact List.getElem_of_mem hm)
  have HIV := Lib.hid (show ∀ r ∈ rs, r.k = 3 → r.via.toNat = mv → ∃ j, ∃ hj : j < V.length, V[j] = r from fun r hr hk ha => by
    have hm : r ∈ viaR rs mv := viaR_mem.2 ⟨hr, hk, by
      rcases okRu_cases (hok _ hr) with ⟨_, _, rfl, _, _⟩ | ⟨h0, a0, rfl, hh, ha'⟩ | ⟨h0, a0, v0, rfl, hh, ha', hv⟩ | ⟨h0, a0, b0, rfl, hh, ha', hb⟩
      · simp at hk
      · simp at hk
      · simp at ha ⊢; omega
      · simp at hk⟩
    rw [HV.out] at hm
    exact List.getElem_of_mem hm)
  have hlk0 : ((d.lk : Int) == 0) = false := by rw [beq_eq_false_iff_ne]; omega
  have hlk1 : ¬ (d.lk : Int) = 0 := by omega
  have hlk2 : ¬ d.lk = 0 := by omega
  have hd1 : (ρ : Int).tmod (d.lk : Int) = (mv : Int) := by rw [Int.tmod_eq_emod_of_nonneg (by omega), hmd, Int.natCast_emod]
  have hd2 : (ρ : Int) % (d.lk : Int) = (mv : Int) := by rw [hmd, Int.natCast_emod]
  have hd3 : (ρ : Int).tdiv (d.lk : Int) = (q3 : Int) := by rw [Int.tdiv_eq_ediv_of_nonneg (by omega), hqd, Int.natCast_ediv]
  have hd4 : (ρ : Int) / (d.lk : Int) = (q3 : Int) := by rw [hqd, Int.natCast_ediv]
  have hd5 : IntKind.i64.wrap (mv : Int) = (mv : Int) := Go.IntWalk.i64_in _ (by omega)
  have hq3l : q3 ≤ ρ := by rw [hqd]; exact Nat.div_le_self _ _
  have hd6 : IntKind.i64.wrap (q3 : Int) = (q3 : Int) := Go.IntWalk.i64_in _ (by omega)
  have HMD := Lib.hid hmd
  have HQD := Lib.hid hqd
  clear hmd hqd
  have BYc : ∀ W, Below w.heap.size w W → W.cell? ⟨d.BY, ρ, none⟩ = some (.slice ro B.length rc) := fun W hb => by
    have := (h.b.by_.below hb).1 ρ
    rw [arrOf_get, if_pos hρ, hrv] at this
    exact this
  have BYC := Lib.hid BYc
  clear BYc h
  go_enter Tryz.func187, Tryz.ntmps187
  go_wp2_with fail
  rw [← hw1]
  have hb1d : Below w.heap.size w w1.drew := hb1.trans ((below_drew (Below.refl _ _)).mono hb1.size)
  have H1 := Lib.hid (H1.out.below (below_drew (Below.refl _ _)))
  have F1 := Lib.hid (F1.out.below (below_drew (Below.refl _ _)))
  refine wp_region_held_drew (S := (fun W => (∀ o, W.cell? ⟨d.K, o, none⟩ = (#[.pointer (some ⟨d.M, 0, none⟩), .slice (some ⟨d.BY, 0, none⟩) d.n d.n, .slice (some ⟨d.VIA, 0, none⟩) d.lk d.lk, qv] : Array Value)[o]?) ∧ (∀ o, W.cell? ⟨w.heap.size, o, none⟩ = (#[.int .i64 ρ, .int .i64 x] : Array Value)[o]?) ∧ W.cell? ⟨d.BY, ρ, none⟩ = some (.slice ro B.length rc))) (by kernel_rfl) ⟨H1.out.a.b.kk.1, F1.out.1, BYC.out _ hb1d⟩ (fun hHeld => ?_)
  obtain ⟨wk, hwk⟩ : ∃ W, W = w1.drew := ⟨_, rfl⟩
  rw [← hwk] at H1 F1 hHeld hb1d ⊢
  clear hwk hw1
  (refine held_yes (v := ?_) 0 rfl (by kernel_rfl) (by kernel_rfl) (by kernel_rfl) (fun _ _ _ h => h) (by rfl) (by assumption) ?_ ?_; rotate_left; (focus ((intro w hSw); (try dsimp only at hSw); go_simp; (try with_reducible rfl))); (try simp only [Act.put, List.setIfInBounds_toArray, List.set_cons_zero, List.set_cons_succ])); (refine held_yes (v := ?_) 1 rfl (by kernel_rfl) (by kernel_rfl) (by kernel_rfl) (fun _ _ _ h => h) (by rfl) (by assumption) ?_ ?_; rotate_left; (focus ((intro w hSw); (try dsimp only at hSw); go_simp; (try with_reducible rfl))); (try simp only [Act.put, List.setIfInBounds_toArray, List.set_cons_zero, List.set_cons_succ])); (refine held_yes (v := ?_) 2 rfl (by kernel_rfl) (by kernel_rfl) (by kernel_rfl) (fun _ _ _ h => h) (by rfl) (by assumption) ?_ ?_; rotate_left; (focus ((intro w hSw); (try dsimp only at hSw); go_simp; (try with_reducible rfl))); (try simp only [Act.put, List.setIfInBounds_toArray, List.set_cons_zero, List.set_cons_succ])); (refine held_yes (v := ?_) 3 rfl (by kernel_rfl) (by kernel_rfl) (by kernel_rfl) (fun _ _ _ h => h) (by rfl) (by assumption) ?_ ?_; rotate_left; (focus ((intro w hSw); (try dsimp only at hSw); go_simp; (try with_reducible rfl))); (try simp only [Act.put, List.setIfInBounds_toArray, List.set_cons_zero, List.set_cons_succ])); (refine held_yes (v := ?_) 4 rfl (by kernel_rfl) (by kernel_rfl) (by kernel_rfl) (fun _ _ _ h => h) (by rfl) (by assumption) ?_ ?_; rotate_left; (focus ((intro w hSw); (try dsimp only at hSw); go_simp; (try with_reducible rfl))); (try simp only [Act.put, List.setIfInBounds_toArray, List.set_cons_zero, List.set_cons_succ])); (refine held_yes (v := ?_) 5 rfl (by kernel_rfl) (by kernel_rfl) (by kernel_rfl) (fun _ _ _ h => h) (by rfl) (by assumption) ?_ ?_; rotate_left; (focus ((intro w hSw); (try dsimp only at hSw); go_simp; (try with_reducible rfl))); (try simp only [Act.put, List.setIfInBounds_toArray, List.set_cons_zero, List.set_cons_succ])); (refine held_yes (v := ?_) 6 rfl (by kernel_rfl) (by kernel_rfl) (by kernel_rfl) (fun _ _ _ h => h) (by rfl) (by assumption) ?_ ?_; rotate_left; (focus ((intro w hSw); (try dsimp only at hSw); go_simp; (try with_reducible rfl))); (try simp only [Act.put, List.setIfInBounds_toArray, List.set_cons_zero, List.set_cons_succ])); (refine held_yes (v := ?_) 7 rfl (by kernel_rfl) (by kernel_rfl) (by kernel_rfl) (fun _ _ _ h => h) (by rfl) (by assumption) ?_ ?_; rotate_left; (focus ((intro w hSw); (try dsimp only at hSw); go_simp; (try with_reducible rfl))); (try simp only [Act.put, List.setIfInBounds_toArray, List.set_cons_zero, List.set_cons_succ])); (refine held_yes (v := ?_) 8 rfl (by kernel_rfl) (by kernel_rfl) (by kernel_rfl) (fun _ _ _ h => h) (by rfl) (by assumption) ?_ ?_; rotate_left; (focus ((intro w hSw); (try dsimp only at hSw); go_simp; (try with_reducible rfl))); (try simp only [Act.put, List.setIfInBounds_toArray, List.set_cons_zero, List.set_cons_succ])); (refine held_yes (v := ?_) 9 rfl (by kernel_rfl) (by kernel_rfl) (by kernel_rfl) (fun _ _ _ h => h) (by rfl) (by assumption) ?_ ?_; rotate_left; (focus ((intro w hSw); (try dsimp only at hSw); go_simp; (try with_reducible rfl))); (try simp only [Act.put, List.setIfInBounds_toArray, List.set_cons_zero, List.set_cons_succ]))
  refine wpAnyH_done (by kernel_rfl) ?_ _
  have HOW := Lib.hid (own_below HOW.out hb1d)
  have HOV := Lib.hid (own_below HOV.out hb1d)
  have HK0 := Lib.hid (Kp.of_below (X := mkX d qv) hb1d)
  clear hHeld
  go_wp2_with fail
  go_loopw [17] (fun i wr => ∃ (n : Nat) (fs' : List (Nat × Nat)) (qv' : Value) (st' : Nat), n ≤ B.length ∧ i = .int .i64 n ∧ Hid (MkMore wk d rs rv fs k qv wr fs' qv' st') ∧ Hid (Grow d.lk rs fs fs') ∧ Hid (∀ j (hj : j < B.length), j < n → LookA d.lk (ρ, x) fs fs' B[j]) ∧ Hid (st' ≤ st + n * (d.pr + 1))) (fun i _ => B.length - (intOf i).toNat)
  case atStart => exact ⟨0, fs, qv, st, by omega, rfl, Lib.hid (MkMore.start H1.out.a), Lib.hid (Grow.refl _ _ _), Lib.hid (fun j hj h => absurd h (by omega)), Lib.hid (by omega)⟩
  case round =>
    obtain ⟨n, fs', qv', st', hn, rfl, HM, HG, HJ, HS⟩ := hrel
    by_cases hlt : n < B.length
    · obtain ⟨b1, o1, c1, he1, hc1, hm1, hb1, hx1⟩ := (Sl.of_own HOW.out).pos (by omega)
      simp only [Value.slice.injEq, true_and] at he1
      obtain ⟨rfl, rfl⟩ := he1
      have hkb := HM.out.kp.block b1 hb1 (HRX.out b1 rfl)
      obtain ⟨p0, p1, p2, p3, p4, p5⟩ := ru_cell (w := wr) (fun j u hu => (World.cell?_of_block (a := ⟨b1, o1 + j, none⟩) hkb).trans (hx1 j u hu)) n hlt
      have hbr : b1 < wr.heap.size := Nat.lt_of_lt_of_le hb1 HM.out.kp.size
      have hmem : B[n] ∈ byR rs ρ := by have h1 := List.getElem_mem hlt; have h2 := HB.out; exact h2 ▸ h1
      obtain ⟨hmr, hk1, hka⟩ := byR_mem.1 hmem
      have hst2 : st' + 1 ≤ 100000000000 := by
        have h1 := HS.out
        have h2 : n * (d.pr + 1) ≤ 100000 * 65 := Nat.mul_le_mul (by omega) (by omega)
        omega
      have HJ2 : Hid (∀ fs2, Grow d.lk rs fs' fs2 → LookA d.lk (ρ, x) fs fs2 B[n] → ∀ j (hj : j < B.length), j < n + 1 → LookA d.lk (ρ, x) fs fs2 B[j]) := Lib.hid (fun fs2 hg hl j hj hjn => by
        by_cases e : j = n
        · subst e; exact hl
        · exact (HJ.out j hj (by omega)).mono hg.sub)
      have hcases := okRu_cases (hok _ hmr)
      clear hx1 hkb hmem
      generalize B[n] = r at *
      have HLK := Lib.hid (fun hl => HJ2.out fs' (Grow.refl _ _ _) hl)
      obtain ⟨ck, fk, zk⟩ := HM.out.a.b.kk
      obtain ⟨cm, fm, zm⟩ := HM.out.a.b.mm
      have hMK : d.M < d.K := HM.out.a.ok.o4
      have hMC : d.M < wr.heap.size := zm
      have hfc := (HM.out.kp.blk F1.out HBX.out)
      obtain ⟨cf, ff, zf⟩ := hfc
      have hstw : IntKind.i64.wrap ((st' : Int) + 1) = (st' : Int) + 1 := Go.IntWalk.i64_in _ (by omega)
      have hmulS : (n + 1) * (d.pr + 1) = n * (d.pr + 1) + (d.pr + 1) := Nat.succ_mul _ _
      rcases hcases with ⟨_, _, rfl, _, _⟩ | ⟨h0, a0, rfl, hh, ha⟩ | ⟨h0, a0, v0, rfl, hh, ha, hv⟩ | ⟨h0, a0, b0, rfl, hh, ha, hb⟩
      · exact absurd rfl hk1
      · have haρ : a0 = ρ := by
          rcases hka with e | e
          · exact Int.ofNat.inj e
          · have := e.1; simp at this
        subst haρ
        clear HLK
        obtain ⟨w3, hw3⟩ : ∃ V, V = (wr.setCell ⟨d.M, 3, none⟩ (.int .i64 ((st' : Int) + 1))).alloc (.cells #[.int .i64 2, .int .i64 h0, .int .i64 0, .int .i64 a0, .int .i64 0, .int .i64 0] 196) := ⟨_, rfl⟩
        have HM3 := Lib.hid (show MkMore wk d rs rv fs k qv w3 fs' qv' (st' + 1) by rw [hw3]; exact (HM.out.steps (st' + 1)).below ((Below.refl _ _).alloc (Nat.le_refl _) _))
        have hrX : ¬ mkX d qv' wr.heap.size := mkX_far HM.out.a HM.out.a.b.le (fun e => by have := (HM.out.a.qge _ e).2; omega)
        have R3 := Lib.hid (show Blk w3 wr.heap.size #[.int .i64 2, .int .i64 h0, .int .i64 0, .int .i64 a0, .int .i64 0, .int .i64 0] by rw [hw3]; have := Blk.new (wr.setCell ⟨d.M, 3, none⟩ (.int .i64 ((st' : Int) + 1))) #[.int .i64 2, .int .i64 h0, .int .i64 0, .int .i64 a0, .int .i64 0, .int .i64 0] 196; simpa using this)
        have F3 := Lib.hid (HM3.out.kp.blk F1.out HBX.out)
        have AD := Lib.hid (mk_add HM3.out.a h0 x hh hx (by omega))
        have HGA := Lib.hid (Grow.add (lk := d.lk) (rs := rs) (fs := fs') (r := h0) (c := x) (fun E hE h => hE.incl _ hmr rfl x (h _ (HG.out.sub _ hf))))
        have HLA := Lib.hid (show LookA d.lk (a0, x) fs (addF fs' h0 x) ⟨2, h0, 0, a0, 0, 0⟩ from ⟨fun _ => addF_mem _ _ _, (fun e => by simp at e), (fun e => by simp at e)⟩)
        go_wp2_with fail
        rw [← hw3]
        clear hw3 ck fk zk cm fm zm cf ff zf
        refine AD.out.mono ?_
        rintro e w4 ⟨rfl, qv2, hmm⟩
        have HM4 := Lib.hid (HM3.out.trans hmm)
        clear hmm AD
        go_wp2_with fail
        exact ⟨⟨n + 1, _, qv2, st' + 1 + 1, by omega, by go_num, HM4, Lib.hid (HG.out.trans HGA.out), Lib.hid (HJ2.out _ HGA.out HLA.out), Lib.hid (by have := HS.out; omega)⟩, by simp [intOf]; omega⟩
      · have haρ : a0 = ρ := by
          rcases hka with e | e
          · exact Int.ofNat.inj e
          · have := e.1; simp at this
        subst haρ
        clear HLK
        obtain ⟨q1, hq1⟩ : ∃ q, q = x * d.lk := ⟨_, rfl⟩
        obtain ⟨q2, hq2⟩ : ∃ q, q = q1 + v0 := ⟨_, rfl⟩
        have hq2n : q2 < d.n := by
          have h1 : (x + 1) * d.lk ≤ d.pr * d.lk := Nat.mul_le_mul_right _ hx
          rw [Nat.succ_mul, ← hq1] at h1
          unfold MkI.n
          omega
        have hw1' : IntKind.i64.wrap ((x : Int) * (d.lk : Int)) = (q1 : Int) := by rw [hq1, Int.natCast_mul]; exact Go.IntWalk.i64_in _ (by rw [← Int.natCast_mul, ← hq1]; omega)
        have hw2' : IntKind.i64.wrap ((q1 : Int) + (v0 : Int)) = (q2 : Int) := by rw [hq2, Int.natCast_add]; exact Go.IntWalk.i64_in _ (by omega)
        obtain ⟨w3, hw3⟩ : ∃ V, V = (wr.setCell ⟨d.M, 3, none⟩ (.int .i64 ((st' : Int) + 1))).alloc (.cells #[.int .i64 3, .int .i64 h0, .int .i64 0, .int .i64 a0, .int .i64 0, .int .i64 v0] 196) := ⟨_, rfl⟩
        have HM3 := Lib.hid (show MkMore wk d rs rv fs k qv w3 fs' qv' (st' + 1) by rw [hw3]; exact (HM.out.steps (st' + 1)).below ((Below.refl _ _).alloc (Nat.le_refl _) _))
        have hrX : ¬ mkX d qv' wr.heap.size := mkX_far HM.out.a HM.out.a.b.le (fun e => by have := (HM.out.a.qge _ e).2; omega)
        have R3 := Lib.hid (show Blk w3 wr.heap.size #[.int .i64 3, .int .i64 h0, .int .i64 0, .int .i64 a0, .int .i64 0, .int .i64 v0] by rw [hw3]; have := Blk.new (wr.setCell ⟨d.M, 3, none⟩ (.int .i64 ((st' : Int) + 1))) #[.int .i64 3, .int .i64 h0, .int .i64 0, .int .i64 a0, .int .i64 0, .int .i64 v0] 196; simpa using this)
        have F3 := Lib.hid (HM3.out.kp.blk F1.out HBX.out)
        have HLA := Lib.hid (fun fs2 (ha2 : AllOf fs' q2 h0 (colsOf fs' q2) fs2) => show LookA d.lk (a0, x) fs fs2 ⟨3, h0, 0, a0, 0, v0⟩ from ⟨(fun e => by simp at e), (fun e => by simp at e), fun _ y hy => ha2.all y (colsOf_mem.2 ⟨by have := (HH.out.f.rng _ hy).2; dsimp only at this; omega, by rw [hq2, hq1]; exact HG.out.sub _ hy⟩)⟩)
        have HGA := Lib.hid (fun fs2 (ha2 : AllOf fs' q2 h0 (colsOf fs' q2) fs2) => Grow.all (lk := d.lk) (rs := rs) ha2 (fun E hE h c hc => hE.link _ hmr rfl x c (by simp only [Int.toNat_natCast]; exact h _ (HG.out.sub _ hf)) (by simp only [Int.toNat_natCast]; rw [← hq1, ← hq2]; exact h _ hc)))
        have HCL := Lib.hid (colsOf_le HM.out.a.f.rng q2)
        go_wp2_with fail
        rw [← hw3]
        clear hw3 ck fk zk cm fm zm cf ff zf
        have hbd : Below w3.heap.size w3 w3.drew := below_drew (Below.refl _ _)
        have HMd := Lib.hid (HM3.out.below hbd)
        have Fd := Lib.hid (F3.out.below hbd)
        have Rd := Lib.hid (R3.out.below hbd)
        clear hbd HM3 F3 R3
        refine wp_region_held_drew (S := (fun W => W.cell? ⟨d.K, 0, none⟩ = some (.pointer (some ⟨d.M, 0, none⟩)) ∧ W.cell? ⟨d.M, 2, none⟩ = some (.int .i64 d.lk) ∧ (∀ o, W.cell? ⟨w.heap.size, o, none⟩ = (#[.int .i64 a0, .int .i64 x] : Array Value)[o]?) ∧ (∀ o, W.cell? ⟨wr.heap.size, o, none⟩ = (#[.int .i64 3, .int .i64 h0, .int .i64 0, .int .i64 a0, .int .i64 0, .int .i64 v0] : Array Value)[o]?))) (by kernel_rfl) ⟨HMd.out.a.b.kk.1 0, HMd.out.a.b.mm.1 2, Fd.out.1, Rd.out.1⟩ (fun hHeld => ?_)
        obtain ⟨wd, hwd⟩ : ∃ W, W = w3.drew := ⟨_, rfl⟩
        rw [← hwd] at HMd Fd Rd hHeld ⊢
        clear hwd
        have AL := Lib.hid (mk_all HMd.out.a q2 h0 hq2n hh (by omega))
        clear hq1 hq2
        (refine held_yes (v := ?_) 0 rfl (by kernel_rfl) (by kernel_rfl) (by kernel_rfl) (fun _ _ _ h => h) (by rfl) (by assumption) ?_ ?_; rotate_left; (focus ((intro w hSw); (try dsimp only at hSw); go_simp; (try with_reducible rfl))); (try simp only [Act.put, List.setIfInBounds_toArray, List.set_cons_zero, List.set_cons_succ])); (refine held_yes (v := ?_) 1 rfl (by kernel_rfl) (by kernel_rfl) (by kernel_rfl) (fun _ _ _ h => h) (by rfl) (by assumption) ?_ ?_; rotate_left; (focus ((intro w hSw); (try dsimp only at hSw); go_simp; (try with_reducible rfl))); (try simp only [Act.put, List.setIfInBounds_toArray, List.set_cons_zero, List.set_cons_succ])); (refine held_yes (v := ?_) 2 rfl (by kernel_rfl) (by kernel_rfl) (by kernel_rfl) (fun _ _ _ h => h) (by rfl) (by assumption) ?_ ?_; rotate_left; (focus ((intro w hSw); (try dsimp only at hSw); go_simp; (try with_reducible rfl))); (try simp only [Act.put, List.setIfInBounds_toArray, List.set_cons_zero, List.set_cons_succ])); (refine held_yes (v := ?_) 3 rfl (by kernel_rfl) (by kernel_rfl) (by kernel_rfl) (fun _ _ _ h => h) (by rfl) (by assumption) ?_ ?_; rotate_left; (focus ((intro w hSw); (try dsimp only at hSw); go_simp; (try with_reducible rfl))); (try simp only [Act.put, List.setIfInBounds_toArray, List.set_cons_zero, List.set_cons_succ])); (refine held_yes (v := ?_) 4 rfl (by kernel_rfl) (by kernel_rfl) (by kernel_rfl) (fun _ _ _ h => h) (by rfl) (by assumption) ?_ ?_; rotate_left; (focus ((intro w hSw); (try dsimp only at hSw); go_simp; (try with_reducible rfl))); (try simp only [Act.put, List.setIfInBounds_toArray, List.set_cons_zero, List.set_cons_succ])); (refine held_yes (v := ?_) 5 rfl (by kernel_rfl) (by kernel_rfl) (by kernel_rfl) (fun _ _ _ h => h) (by rfl) (by assumption) ?_ ?_; rotate_left; (focus ((intro w hSw); (try dsimp only at hSw); go_simp; (try with_reducible rfl))); (try simp only [Act.put, List.setIfInBounds_toArray, List.set_cons_zero, List.set_cons_succ])); (refine held_yes (v := ?_) 6 rfl (by kernel_rfl) (by kernel_rfl) (by kernel_rfl) (fun _ _ _ h => h) (by rfl) (by assumption) ?_ ?_; rotate_left; (focus ((intro w hSw); (try dsimp only at hSw); go_simp; (try with_reducible rfl))); (try simp only [Act.put, List.setIfInBounds_toArray, List.set_cons_zero, List.set_cons_succ])); (refine held_yes (v := ?_) 7 rfl (by kernel_rfl) (by kernel_rfl) (by kernel_rfl) (fun _ _ _ h => h) (by rfl) (by assumption) ?_ ?_; rotate_left; (focus ((intro w hSw); (try dsimp only at hSw); go_simp; (try with_reducible rfl))); (try simp only [Act.put, List.setIfInBounds_toArray, List.set_cons_zero, List.set_cons_succ])); (refine held_yes (v := ?_) 8 rfl (by kernel_rfl) (by kernel_rfl) (by kernel_rfl) (fun _ _ _ h => h) (by rfl) (by assumption) ?_ ?_; rotate_left; (focus ((intro w hSw); (try dsimp only at hSw); go_simp; (try with_reducible rfl))); (try simp only [Act.put, List.setIfInBounds_toArray, List.set_cons_zero, List.set_cons_succ])); (refine held_yes (v := ?_) 9 rfl (by kernel_rfl) (by kernel_rfl) (by kernel_rfl) (fun _ _ _ h => h) (by rfl) (by assumption) ?_ ?_; rotate_left; (focus ((intro w hSw); (try dsimp only at hSw); go_simp; (try with_reducible rfl))); (try simp only [Act.put, List.setIfInBounds_toArray, List.set_cons_zero, List.set_cons_succ])); (refine held_yes (v := ?_) 10 rfl (by kernel_rfl) (by kernel_rfl) (by kernel_rfl) (fun _ _ _ h => h) (by rfl) (by assumption) ?_ ?_; rotate_left; (focus ((intro w hSw); (try dsimp only at hSw); go_simp; (try with_reducible rfl))); (try simp only [Act.put, List.setIfInBounds_toArray, List.set_cons_zero, List.set_cons_succ])); (refine held_yes (v := ?_) 11 rfl (by kernel_rfl) (by kernel_rfl) (by kernel_rfl) (fun _ _ _ h => h) (by rfl) (by assumption) ?_ ?_; rotate_left; (focus ((intro w hSw); (try dsimp only at hSw); go_simp; (try with_reducible rfl))); (try simp only [Act.put, List.setIfInBounds_toArray, List.set_cons_zero, List.set_cons_succ])); (refine held_yes (v := ?_) 12 rfl (by kernel_rfl) (by kernel_rfl) (by kernel_rfl) (fun _ _ _ h => h) (by rfl) (by assumption) ?_ ?_; rotate_left; (focus ((intro w hSw); (try dsimp only at hSw); go_simp; (try with_reducible rfl))); (try simp only [Act.put, List.setIfInBounds_toArray, List.set_cons_zero, List.set_cons_succ])); (refine held_yes (v := ?_) 13 rfl (by kernel_rfl) (by kernel_rfl) (by kernel_rfl) (fun _ _ _ h => h) (by rfl) (by assumption) ?_ ?_; rotate_left; (focus ((intro w hSw); (try dsimp only at hSw); go_simp; (try with_reducible rfl))); (try simp only [Act.put, List.setIfInBounds_toArray, List.set_cons_zero, List.set_cons_succ])); (refine held_yes (v := ?_) 14 rfl (by kernel_rfl) (by kernel_rfl) (by kernel_rfl) (fun _ _ _ h => h) (by rfl) (by assumption) ?_ ?_; rotate_left; (focus ((intro w hSw); (try dsimp only at hSw); go_simp; (try with_reducible rfl))); (try simp only [Act.put, List.setIfInBounds_toArray, List.set_cons_zero, List.set_cons_succ])); (refine held_yes (v := ?_) 15 rfl (by kernel_rfl) (by kernel_rfl) (by kernel_rfl) (fun _ _ _ h => h) (by rfl) (by assumption) ?_ ?_; rotate_left; (focus ((intro w hSw); (try dsimp only at hSw); go_simp; (try with_reducible rfl))); (try simp only [Act.put, List.setIfInBounds_toArray, List.set_cons_zero, List.set_cons_succ]))
        (refine held_call 16 rfl (by kernel_rfl) (fun K hK => ?_); go_simp)
        go_at_call 220; refine AL.out.mono ?_; rintro e w5 ⟨rfl, fs2, qv2, st2, hmm, ha2, hs2⟩; have HM5 := Lib.hid (HMd.out.trans hmm); have F5 := Lib.hid (HM5.out.kp.blk F1.out HBX.out); have R5 := Lib.hid (hmm.kp.blk Rd.out hrX)
        (refine hK.out _ _ ⟨HM5.out.a.b.kk.1 0, HM5.out.a.b.mm.1 2, F5.out.1, R5.out.1⟩ (fun hHeld => ?_); clear hK K; (try simp only [Act.put, List.setIfInBounds_toArray, List.set_cons_zero, List.set_cons_succ]))
        refine wpAnyH_done (by kernel_rfl) ?_ _
        have HGA2 := Lib.hid (HGA.out fs2 ha2)
        have HLA2 := Lib.hid (HLA.out fs2 ha2)
        have hcl := HCL.out
        clear hmm AL ha2 HGA HLA HMd Fd Rd
        go_wp2_with fail
        exact ⟨⟨n + 1, fs2, qv2, st2, by omega, by go_num, HM5, Lib.hid (HG.out.trans HGA2.out), Lib.hid (HJ2.out _ HGA2.out HLA2.out), Lib.hid (by have := HS.out; omega)⟩, by simp [intOf]; omega⟩
      · have HA1 := Lib.hid (fun W (h : FamAt W d.F d.W0 d.g0 d.n d.pr fs') => by have := fam_Has h (a0 : Int) (x : Int); rw [hasF_nat] at this; exact this)
        have HA2 := Lib.hid (fun W (h : FamAt W d.F d.W0 d.g0 d.n d.pr fs') => by have := fam_Has h (b0 : Int) (x : Int); rw [hasF_nat] at this; exact this)
        obtain ⟨w3, hw3⟩ : ∃ V, V = (wr.setCell ⟨d.M, 3, none⟩ (.int .i64 ((st' : Int) + 1))).alloc (.cells #[.int .i64 4, .int .i64 h0, .int .i64 0, .int .i64 a0, .int .i64 b0, .int .i64 0] 196) := ⟨_, rfl⟩
        have HM3 := Lib.hid (show MkMore wk d rs rv fs k qv w3 fs' qv' (st' + 1) by rw [hw3]; exact (HM.out.steps (st' + 1)).below ((Below.refl _ _).alloc (Nat.le_refl _) _))
        have hrX : ¬ mkX d qv' wr.heap.size := mkX_far HM.out.a HM.out.a.b.le (fun e => by have := (HM.out.a.qge _ e).2; omega)
        have R3 := Lib.hid (show Blk w3 wr.heap.size #[.int .i64 4, .int .i64 h0, .int .i64 0, .int .i64 a0, .int .i64 b0, .int .i64 0] by rw [hw3]; have := Blk.new (wr.setCell ⟨d.M, 3, none⟩ (.int .i64 ((st' : Int) + 1))) #[.int .i64 4, .int .i64 h0, .int .i64 0, .int .i64 a0, .int .i64 b0, .int .i64 0] 196; simpa using this)
        have F3 := Lib.hid (HM3.out.kp.blk F1.out HBX.out)
        go_wp2_with fail
        rw [← hw3]
        clear hw3 ck fk zk cm fm zm cf ff zf
        have hbd : Below w3.heap.size w3 w3.drew := below_drew (Below.refl _ _)
        have HMd := Lib.hid (HM3.out.below hbd)
        have Fd := Lib.hid (F3.out.below hbd)
        have Rd := Lib.hid (R3.out.below hbd)
        clear hbd HM3 F3 R3
        refine wp_region_held_drew (S := (fun W => W.cell? ⟨d.K, 0, none⟩ = some (.pointer (some ⟨d.M, 0, none⟩)) ∧ W.cell? ⟨d.M, 0, none⟩ = some (.pointer (some ⟨d.F, 0, none⟩)) ∧ (∀ o, W.cell? ⟨w.heap.size, o, none⟩ = (#[.int .i64 ρ, .int .i64 x] : Array Value)[o]?) ∧ (∀ o, W.cell? ⟨wr.heap.size, o, none⟩ = (#[.int .i64 4, .int .i64 h0, .int .i64 0, .int .i64 a0, .int .i64 b0, .int .i64 0] : Array Value)[o]?))) (by kernel_rfl) ⟨HMd.out.a.b.kk.1 0, HMd.out.a.b.mm.1 0, Fd.out.1, Rd.out.1⟩ (fun hHeld => ?_)
        obtain ⟨wd, hwd⟩ : ∃ W, W = w3.drew := ⟨_, rfl⟩
        rw [← hwd] at HMd Fd Rd hHeld ⊢
        clear hwd
        by_cases m1 : (a0, x) ∈ fs'
        · rw [decide_eq_true m1] at HA1
          by_cases m2 : (b0, x) ∈ fs'
          · rw [decide_eq_true m2] at HA2
            have AD := Lib.hid (mk_add HMd.out.a h0 x hh hx (by omega))
            have HGA := Lib.hid (Grow.add (lk := d.lk) (rs := rs) (fs := fs') (r := h0) (c := x) (fun E hE h => hE.both _ hmr rfl x (h _ m1) (h _ m2)))
            have HLA := Lib.hid (show LookA d.lk (ρ, x) fs (addF fs' h0 x) ⟨4, h0, 0, a0, b0, 0⟩ from ⟨(fun e => by simp at e), fun _ _ _ => addF_mem _ _ _, (fun e => by simp at e)⟩)
            clear m1 m2 HLK
            (refine held_yes (v := ?_) 0 rfl (by kernel_rfl) (by kernel_rfl) (by kernel_rfl) (fun _ _ _ h => h) (by rfl) (by assumption) ?_ ?_; rotate_left; (focus ((intro w hSw); (try dsimp only at hSw); go_simp; (try with_reducible rfl))); (try simp only [Act.put, List.setIfInBounds_toArray, List.set_cons_zero, List.set_cons_succ])); (refine held_yes (v := ?_) 1 rfl (by kernel_rfl) (by kernel_rfl) (by kernel_rfl) (fun _ _ _ h => h) (by rfl) (by assumption) ?_ ?_; rotate_left; (focus ((intro w hSw); (try dsimp only at hSw); go_simp; (try with_reducible rfl))); (try simp only [Act.put, List.setIfInBounds_toArray, List.set_cons_zero, List.set_cons_succ])); (refine held_yes (v := ?_) 2 rfl (by kernel_rfl) (by kernel_rfl) (by kernel_rfl) (fun _ _ _ h => h) (by rfl) (by assumption) ?_ ?_; rotate_left; (focus ((intro w hSw); (try dsimp only at hSw); go_simp; (try with_reducible rfl))); (try simp only [Act.put, List.setIfInBounds_toArray, List.set_cons_zero, List.set_cons_succ])); (refine held_yes (v := ?_) 3 rfl (by kernel_rfl) (by kernel_rfl) (by kernel_rfl) (fun _ _ _ h => h) (by rfl) (by assumption) ?_ ?_; rotate_left; (focus ((intro w hSw); (try dsimp only at hSw); go_simp; (try with_reducible rfl))); (try simp only [Act.put, List.setIfInBounds_toArray, List.set_cons_zero, List.set_cons_succ])); (refine held_yes (v := ?_) 4 rfl (by kernel_rfl) (by kernel_rfl) (by kernel_rfl) (fun _ _ _ h => h) (by rfl) (by assumption) ?_ ?_; rotate_left; (focus ((intro w hSw); (try dsimp only at hSw); go_simp; (try with_reducible rfl))); (try simp only [Act.put, List.setIfInBounds_toArray, List.set_cons_zero, List.set_cons_succ])); (refine held_yes (v := ?_) 5 rfl (by kernel_rfl) (by kernel_rfl) (by kernel_rfl) (fun _ _ _ h => h) (by rfl) (by assumption) ?_ ?_; rotate_left; (focus ((intro w hSw); (try dsimp only at hSw); go_simp; (try with_reducible rfl))); (try simp only [Act.put, List.setIfInBounds_toArray, List.set_cons_zero, List.set_cons_succ])); (refine held_yes (v := ?_) 6 rfl (by kernel_rfl) (by kernel_rfl) (by kernel_rfl) (fun _ _ _ h => h) (by rfl) (by assumption) ?_ ?_; rotate_left; (focus ((intro w hSw); (try dsimp only at hSw); go_simp; (try with_reducible rfl))); (try simp only [Act.put, List.setIfInBounds_toArray, List.set_cons_zero, List.set_cons_succ])); (refine held_yes (v := ?_) 7 rfl (by kernel_rfl) (by kernel_rfl) (by kernel_rfl) (fun _ _ _ h => h) (by rfl) (by assumption) ?_ ?_; rotate_left; (focus ((intro w hSw); (try dsimp only at hSw); go_simp; (try with_reducible rfl))); (try simp only [Act.put, List.setIfInBounds_toArray, List.set_cons_zero, List.set_cons_succ])); (refine held_yes (v := ?_) 8 rfl (by kernel_rfl) (by kernel_rfl) (by kernel_rfl) (fun _ _ _ h => h) (by rfl) (by assumption) ?_ ?_; rotate_left; (focus ((intro w hSw); (try dsimp only at hSw); go_simp; (try with_reducible rfl))); (try simp only [Act.put, List.setIfInBounds_toArray, List.set_cons_zero, List.set_cons_succ])); (refine held_yes (v := ?_) 9 rfl (by kernel_rfl) (by kernel_rfl) (by kernel_rfl) (fun _ _ _ h => h) (by rfl) (by assumption) ?_ ?_; rotate_left; (focus ((intro w hSw); (try dsimp only at hSw); go_simp; (try with_reducible rfl))); (try simp only [Act.put, List.setIfInBounds_toArray, List.set_cons_zero, List.set_cons_succ])); (refine held_yes (v := ?_) 10 rfl (by kernel_rfl) (by kernel_rfl) (by kernel_rfl) (fun _ _ _ h => h) (by rfl) (by assumption) ?_ ?_; rotate_left; (focus ((intro w hSw); (try dsimp only at hSw); go_simp; (try with_reducible rfl))); (try simp only [Act.put, List.setIfInBounds_toArray, List.set_cons_zero, List.set_cons_succ]))
            (refine held_call 11 rfl (by kernel_rfl) (fun K hK => ?_); go_simp)
            go_at_call 221; refine (HA1.out _ HMd.out.a.f).mono ?_; rintro e wq ⟨rfl, rfl⟩
            (refine hK.out _ _ ⟨HMd.out.a.b.kk.1 0, HMd.out.a.b.mm.1 0, Fd.out.1, Rd.out.1⟩ (fun hHeld => ?_); clear hK K; (try simp only [Act.put, List.setIfInBounds_toArray, List.set_cons_zero, List.set_cons_succ]))
            (refine held_yes (v := ?_) 12 rfl (by kernel_rfl) (by kernel_rfl) (by kernel_rfl) (fun _ _ _ h => h) (by rfl) (by assumption) ?_ ?_; rotate_left; (focus ((intro w hSw); (try dsimp only at hSw); go_simp; (try with_reducible rfl))); (try simp only [Act.put, List.setIfInBounds_toArray, List.set_cons_zero, List.set_cons_succ])); (refine held_yes (v := ?_) 13 rfl (by kernel_rfl) (by kernel_rfl) (by kernel_rfl) (fun _ _ _ h => h) (by rfl) (by assumption) ?_ ?_; rotate_left; (focus ((intro w hSw); (try dsimp only at hSw); go_simp; (try with_reducible rfl))); (try simp only [Act.put, List.setIfInBounds_toArray, List.set_cons_zero, List.set_cons_succ])); (refine held_yes (v := ?_) 14 rfl (by kernel_rfl) (by kernel_rfl) (by kernel_rfl) (fun _ _ _ h => h) (by rfl) (by assumption) ?_ ?_; rotate_left; (focus ((intro w hSw); (try dsimp only at hSw); go_simp; (try with_reducible rfl))); (try simp only [Act.put, List.setIfInBounds_toArray, List.set_cons_zero, List.set_cons_succ])); (refine held_yes (v := ?_) 15 rfl (by kernel_rfl) (by kernel_rfl) (by kernel_rfl) (fun _ _ _ h => h) (by rfl) (by assumption) ?_ ?_; rotate_left; (focus ((intro w hSw); (try dsimp only at hSw); go_simp; (try with_reducible rfl))); (try simp only [Act.put, List.setIfInBounds_toArray, List.set_cons_zero, List.set_cons_succ])); (refine held_yes (v := ?_) 16 rfl (by kernel_rfl) (by kernel_rfl) (by kernel_rfl) (fun _ _ _ h => h) (by rfl) (by assumption) ?_ ?_; rotate_left; (focus ((intro w hSw); (try dsimp only at hSw); go_simp; (try with_reducible rfl))); (try simp only [Act.put, List.setIfInBounds_toArray, List.set_cons_zero, List.set_cons_succ])); (refine held_yes (v := ?_) 17 rfl (by kernel_rfl) (by kernel_rfl) (by kernel_rfl) (fun _ _ _ h => h) (by rfl) (by assumption) ?_ ?_; rotate_left; (focus ((intro w hSw); (try dsimp only at hSw); go_simp; (try with_reducible rfl))); (try simp only [Act.put, List.setIfInBounds_toArray, List.set_cons_zero, List.set_cons_succ])); (refine held_yes (v := ?_) 18 rfl (by kernel_rfl) (by kernel_rfl) (by kernel_rfl) (fun _ _ _ h => h) (by rfl) (by assumption) ?_ ?_; rotate_left; (focus ((intro w hSw); (try dsimp only at hSw); go_simp; (try with_reducible rfl))); (try simp only [Act.put, List.setIfInBounds_toArray, List.set_cons_zero, List.set_cons_succ])); (refine held_yes (v := ?_) 19 rfl (by kernel_rfl) (by kernel_rfl) (by kernel_rfl) (fun _ _ _ h => h) (by rfl) (by assumption) ?_ ?_; rotate_left; (focus ((intro w hSw); (try dsimp only at hSw); go_simp; (try with_reducible rfl))); (try simp only [Act.put, List.setIfInBounds_toArray, List.set_cons_zero, List.set_cons_succ])); (refine held_yes (v := ?_) 20 rfl (by kernel_rfl) (by kernel_rfl) (by kernel_rfl) (fun _ _ _ h => h) (by rfl) (by assumption) ?_ ?_; rotate_left; (focus ((intro w hSw); (try dsimp only at hSw); go_simp; (try with_reducible rfl))); (try simp only [Act.put, List.setIfInBounds_toArray, List.set_cons_zero, List.set_cons_succ])); (refine held_yes (v := ?_) 21 rfl (by kernel_rfl) (by kernel_rfl) (by kernel_rfl) (fun _ _ _ h => h) (by rfl) (by assumption) ?_ ?_; rotate_left; (focus ((intro w hSw); (try dsimp only at hSw); go_simp; (try with_reducible rfl))); (try simp only [Act.put, List.setIfInBounds_toArray, List.set_cons_zero, List.set_cons_succ])); (refine held_yes (v := ?_) 22 rfl (by kernel_rfl) (by kernel_rfl) (by kernel_rfl) (fun _ _ _ h => h) (by rfl) (by assumption) ?_ ?_; rotate_left; (focus ((intro w hSw); (try dsimp only at hSw); go_simp; (try with_reducible rfl))); (try simp only [Act.put, List.setIfInBounds_toArray, List.set_cons_zero, List.set_cons_succ])); (refine held_yes (v := ?_) 23 rfl (by kernel_rfl) (by kernel_rfl) (by kernel_rfl) (fun _ _ _ h => h) (by rfl) (by assumption) ?_ ?_; rotate_left; (focus ((intro w hSw); (try dsimp only at hSw); go_simp; (try with_reducible rfl))); (try simp only [Act.put, List.setIfInBounds_toArray, List.set_cons_zero, List.set_cons_succ]))
            (refine held_call 24 rfl (by kernel_rfl) (fun K hK => ?_); go_simp)
            go_at_call 221; refine (HA2.out _ HMd.out.a.f).mono ?_; rintro e wq ⟨rfl, rfl⟩
            (refine hK.out _ _ ⟨HMd.out.a.b.kk.1 0, HMd.out.a.b.mm.1 0, Fd.out.1, Rd.out.1⟩ (fun hHeld => ?_); clear hK K; (try simp only [Act.put, List.setIfInBounds_toArray, List.set_cons_zero, List.set_cons_succ]))
            (refine held_yes (v := ?_) 25 rfl (by kernel_rfl) (by kernel_rfl) (by kernel_rfl) (fun _ _ _ h => h) (by rfl) (by assumption) ?_ ?_; rotate_left; (focus ((intro w hSw); (try dsimp only at hSw); go_simp; (try with_reducible rfl))); (try simp only [Act.put, List.setIfInBounds_toArray, List.set_cons_zero, List.set_cons_succ]))
            refine wpAnyH_done (by kernel_rfl) ?_ _
            obtain ⟨cf, ff, zf⟩ := Fd.out
            obtain ⟨cr, fr, zr⟩ := Rd.out
            clear ff fr hHeld
            go_wp2_with fail
            clear cf zf cr zr
            refine AD.out.mono ?_
            rintro e w4 ⟨rfl, qv2, hmm⟩
            have HM4 := Lib.hid (HMd.out.trans hmm)
            clear hmm AD
            go_wp2_with fail
            exact ⟨⟨n + 1, _, qv2, st' + 1 + 1, by omega, by go_num, HM4, Lib.hid (HG.out.trans HGA.out), Lib.hid (HJ2.out _ HGA.out HLA.out), Lib.hid (by have := HS.out; omega)⟩, by simp [intOf]; omega⟩
          · rw [decide_eq_false m2] at HA2
            have HLA := Lib.hid (show LookA d.lk (ρ, x) fs fs' ⟨4, h0, 0, a0, b0, 0⟩ from ⟨(fun e => by simp at e), fun _ _ hb => absurd (HG.out.sub _ hb) m2, (fun e => by simp at e)⟩)
            clear m1 m2
            (refine held_yes (v := ?_) 0 rfl (by kernel_rfl) (by kernel_rfl) (by kernel_rfl) (fun _ _ _ h => h) (by rfl) (by assumption) ?_ ?_; rotate_left; (focus ((intro w hSw); (try dsimp only at hSw); go_simp; (try with_reducible rfl))); (try simp only [Act.put, List.setIfInBounds_toArray, List.set_cons_zero, List.set_cons_succ])); (refine held_yes (v := ?_) 1 rfl (by kernel_rfl) (by kernel_rfl) (by kernel_rfl) (fun _ _ _ h => h) (by rfl) (by assumption) ?_ ?_; rotate_left; (focus ((intro w hSw); (try dsimp only at hSw); go_simp; (try with_reducible rfl))); (try simp only [Act.put, List.setIfInBounds_toArray, List.set_cons_zero, List.set_cons_succ])); (refine held_yes (v := ?_) 2 rfl (by kernel_rfl) (by kernel_rfl) (by kernel_rfl) (fun _ _ _ h => h) (by rfl) (by assumption) ?_ ?_; rotate_left; (focus ((intro w hSw); (try dsimp only at hSw); go_simp; (try with_reducible rfl))); (try simp only [Act.put, List.setIfInBounds_toArray, List.set_cons_zero, List.set_cons_succ])); (refine held_yes (v := ?_) 3 rfl (by kernel_rfl) (by kernel_rfl) (by kernel_rfl) (fun _ _ _ h => h) (by rfl) (by assumption) ?_ ?_; rotate_left; (focus ((intro w hSw); (try dsimp only at hSw); go_simp; (try with_reducible rfl))); (try simp only [Act.put, List.setIfInBounds_toArray, List.set_cons_zero, List.set_cons_succ])); (refine held_yes (v := ?_) 4 rfl (by kernel_rfl) (by kernel_rfl) (by kernel_rfl) (fun _ _ _ h => h) (by rfl) (by assumption) ?_ ?_; rotate_left; (focus ((intro w hSw); (try dsimp only at hSw); go_simp; (try with_reducible rfl))); (try simp only [Act.put, List.setIfInBounds_toArray, List.set_cons_zero, List.set_cons_succ])); (refine held_yes (v := ?_) 5 rfl (by kernel_rfl) (by kernel_rfl) (by kernel_rfl) (fun _ _ _ h => h) (by rfl) (by assumption) ?_ ?_; rotate_left; (focus ((intro w hSw); (try dsimp only at hSw); go_simp; (try with_reducible rfl))); (try simp only [Act.put, List.setIfInBounds_toArray, List.set_cons_zero, List.set_cons_succ])); (refine held_yes (v := ?_) 6 rfl (by kernel_rfl) (by kernel_rfl) (by kernel_rfl) (fun _ _ _ h => h) (by rfl) (by assumption) ?_ ?_; rotate_left; (focus ((intro w hSw); (try dsimp only at hSw); go_simp; (try with_reducible rfl))); (try simp only [Act.put, List.setIfInBounds_toArray, List.set_cons_zero, List.set_cons_succ])); (refine held_yes (v := ?_) 7 rfl (by kernel_rfl) (by kernel_rfl) (by kernel_rfl) (fun _ _ _ h => h) (by rfl) (by assumption) ?_ ?_; rotate_left; (focus ((intro w hSw); (try dsimp only at hSw); go_simp; (try with_reducible rfl))); (try simp only [Act.put, List.setIfInBounds_toArray, List.set_cons_zero, List.set_cons_succ])); (refine held_yes (v := ?_) 8 rfl (by kernel_rfl) (by kernel_rfl) (by kernel_rfl) (fun _ _ _ h => h) (by rfl) (by assumption) ?_ ?_; rotate_left; (focus ((intro w hSw); (try dsimp only at hSw); go_simp; (try with_reducible rfl))); (try simp only [Act.put, List.setIfInBounds_toArray, List.set_cons_zero, List.set_cons_succ])); (refine held_yes (v := ?_) 9 rfl (by kernel_rfl) (by kernel_rfl) (by kernel_rfl) (fun _ _ _ h => h) (by rfl) (by assumption) ?_ ?_; rotate_left; (focus ((intro w hSw); (try dsimp only at hSw); go_simp; (try with_reducible rfl))); (try simp only [Act.put, List.setIfInBounds_toArray, List.set_cons_zero, List.set_cons_succ])); (refine held_yes (v := ?_) 10 rfl (by kernel_rfl) (by kernel_rfl) (by kernel_rfl) (fun _ _ _ h => h) (by rfl) (by assumption) ?_ ?_; rotate_left; (focus ((intro w hSw); (try dsimp only at hSw); go_simp; (try with_reducible rfl))); (try simp only [Act.put, List.setIfInBounds_toArray, List.set_cons_zero, List.set_cons_succ]))
            (refine held_call 11 rfl (by kernel_rfl) (fun K hK => ?_); go_simp)
            go_at_call 221; refine (HA1.out _ HMd.out.a.f).mono ?_; rintro e wq ⟨rfl, rfl⟩
            (refine hK.out _ _ ⟨HMd.out.a.b.kk.1 0, HMd.out.a.b.mm.1 0, Fd.out.1, Rd.out.1⟩ (fun hHeld => ?_); clear hK K; (try simp only [Act.put, List.setIfInBounds_toArray, List.set_cons_zero, List.set_cons_succ]))
            (refine held_yes (v := ?_) 12 rfl (by kernel_rfl) (by kernel_rfl) (by kernel_rfl) (fun _ _ _ h => h) (by rfl) (by assumption) ?_ ?_; rotate_left; (focus ((intro w hSw); (try dsimp only at hSw); go_simp; (try with_reducible rfl))); (try simp only [Act.put, List.setIfInBounds_toArray, List.set_cons_zero, List.set_cons_succ])); (refine held_yes (v := ?_) 13 rfl (by kernel_rfl) (by kernel_rfl) (by kernel_rfl) (fun _ _ _ h => h) (by rfl) (by assumption) ?_ ?_; rotate_left; (focus ((intro w hSw); (try dsimp only at hSw); go_simp; (try with_reducible rfl))); (try simp only [Act.put, List.setIfInBounds_toArray, List.set_cons_zero, List.set_cons_succ])); (refine held_yes (v := ?_) 14 rfl (by kernel_rfl) (by kernel_rfl) (by kernel_rfl) (fun _ _ _ h => h) (by rfl) (by assumption) ?_ ?_; rotate_left; (focus ((intro w hSw); (try dsimp only at hSw); go_simp; (try with_reducible rfl))); (try simp only [Act.put, List.setIfInBounds_toArray, List.set_cons_zero, List.set_cons_succ])); (refine held_yes (v := ?_) 15 rfl (by kernel_rfl) (by kernel_rfl) (by kernel_rfl) (fun _ _ _ h => h) (by rfl) (by assumption) ?_ ?_; rotate_left; (focus ((intro w hSw); (try dsimp only at hSw); go_simp; (try with_reducible rfl))); (try simp only [Act.put, List.setIfInBounds_toArray, List.set_cons_zero, List.set_cons_succ])); (refine held_yes (v := ?_) 16 rfl (by kernel_rfl) (by kernel_rfl) (by kernel_rfl) (fun _ _ _ h => h) (by rfl) (by assumption) ?_ ?_; rotate_left; (focus ((intro w hSw); (try dsimp only at hSw); go_simp; (try with_reducible rfl))); (try simp only [Act.put, List.setIfInBounds_toArray, List.set_cons_zero, List.set_cons_succ])); (refine held_yes (v := ?_) 17 rfl (by kernel_rfl) (by kernel_rfl) (by kernel_rfl) (fun _ _ _ h => h) (by rfl) (by assumption) ?_ ?_; rotate_left; (focus ((intro w hSw); (try dsimp only at hSw); go_simp; (try with_reducible rfl))); (try simp only [Act.put, List.setIfInBounds_toArray, List.set_cons_zero, List.set_cons_succ])); (refine held_yes (v := ?_) 18 rfl (by kernel_rfl) (by kernel_rfl) (by kernel_rfl) (fun _ _ _ h => h) (by rfl) (by assumption) ?_ ?_; rotate_left; (focus ((intro w hSw); (try dsimp only at hSw); go_simp; (try with_reducible rfl))); (try simp only [Act.put, List.setIfInBounds_toArray, List.set_cons_zero, List.set_cons_succ])); (refine held_yes (v := ?_) 19 rfl (by kernel_rfl) (by kernel_rfl) (by kernel_rfl) (fun _ _ _ h => h) (by rfl) (by assumption) ?_ ?_; rotate_left; (focus ((intro w hSw); (try dsimp only at hSw); go_simp; (try with_reducible rfl))); (try simp only [Act.put, List.setIfInBounds_toArray, List.set_cons_zero, List.set_cons_succ])); (refine held_yes (v := ?_) 20 rfl (by kernel_rfl) (by kernel_rfl) (by kernel_rfl) (fun _ _ _ h => h) (by rfl) (by assumption) ?_ ?_; rotate_left; (focus ((intro w hSw); (try dsimp only at hSw); go_simp; (try with_reducible rfl))); (try simp only [Act.put, List.setIfInBounds_toArray, List.set_cons_zero, List.set_cons_succ])); (refine held_yes (v := ?_) 21 rfl (by kernel_rfl) (by kernel_rfl) (by kernel_rfl) (fun _ _ _ h => h) (by rfl) (by assumption) ?_ ?_; rotate_left; (focus ((intro w hSw); (try dsimp only at hSw); go_simp; (try with_reducible rfl))); (try simp only [Act.put, List.setIfInBounds_toArray, List.set_cons_zero, List.set_cons_succ])); (refine held_yes (v := ?_) 22 rfl (by kernel_rfl) (by kernel_rfl) (by kernel_rfl) (fun _ _ _ h => h) (by rfl) (by assumption) ?_ ?_; rotate_left; (focus ((intro w hSw); (try dsimp only at hSw); go_simp; (try with_reducible rfl))); (try simp only [Act.put, List.setIfInBounds_toArray, List.set_cons_zero, List.set_cons_succ])); (refine held_yes (v := ?_) 23 rfl (by kernel_rfl) (by kernel_rfl) (by kernel_rfl) (fun _ _ _ h => h) (by rfl) (by assumption) ?_ ?_; rotate_left; (focus ((intro w hSw); (try dsimp only at hSw); go_simp; (try with_reducible rfl))); (try simp only [Act.put, List.setIfInBounds_toArray, List.set_cons_zero, List.set_cons_succ]))
            (refine held_call 24 rfl (by kernel_rfl) (fun K hK => ?_); go_simp)
            go_at_call 221; refine (HA2.out _ HMd.out.a.f).mono ?_; rintro e wq ⟨rfl, rfl⟩
            (refine hK.out _ _ ⟨HMd.out.a.b.kk.1 0, HMd.out.a.b.mm.1 0, Fd.out.1, Rd.out.1⟩ (fun hHeld => ?_); clear hK K; (try simp only [Act.put, List.setIfInBounds_toArray, List.set_cons_zero, List.set_cons_succ]))
            (refine held_yes (v := ?_) 25 rfl (by kernel_rfl) (by kernel_rfl) (by kernel_rfl) (fun _ _ _ h => h) (by rfl) (by assumption) ?_ ?_; rotate_left; (focus ((intro w hSw); (try dsimp only at hSw); go_simp; (try with_reducible rfl))); (try simp only [Act.put, List.setIfInBounds_toArray, List.set_cons_zero, List.set_cons_succ]))
            refine wpAnyH_done (by kernel_rfl) ?_ _
            go_wp2_with fail
            exact ⟨⟨n + 1, fs', qv', st' + 1, by omega, by go_num, HMd, HG, Lib.hid (HLK.out HLA.out), Lib.hid (by have := HS.out; omega)⟩, by simp [intOf]; omega⟩
        · rw [decide_eq_false m1] at HA1
          have HLA := Lib.hid (show LookA d.lk (ρ, x) fs fs' ⟨4, h0, 0, a0, b0, 0⟩ from ⟨(fun e => by simp at e), fun _ ha _ => absurd (HG.out.sub _ ha) m1, (fun e => by simp at e)⟩)
          clear m1
          (refine held_yes (v := ?_) 0 rfl (by kernel_rfl) (by kernel_rfl) (by kernel_rfl) (fun _ _ _ h => h) (by rfl) (by assumption) ?_ ?_; rotate_left; (focus ((intro w hSw); (try dsimp only at hSw); go_simp; (try with_reducible rfl))); (try simp only [Act.put, List.setIfInBounds_toArray, List.set_cons_zero, List.set_cons_succ])); (refine held_yes (v := ?_) 1 rfl (by kernel_rfl) (by kernel_rfl) (by kernel_rfl) (fun _ _ _ h => h) (by rfl) (by assumption) ?_ ?_; rotate_left; (focus ((intro w hSw); (try dsimp only at hSw); go_simp; (try with_reducible rfl))); (try simp only [Act.put, List.setIfInBounds_toArray, List.set_cons_zero, List.set_cons_succ])); (refine held_yes (v := ?_) 2 rfl (by kernel_rfl) (by kernel_rfl) (by kernel_rfl) (fun _ _ _ h => h) (by rfl) (by assumption) ?_ ?_; rotate_left; (focus ((intro w hSw); (try dsimp only at hSw); go_simp; (try with_reducible rfl))); (try simp only [Act.put, List.setIfInBounds_toArray, List.set_cons_zero, List.set_cons_succ])); (refine held_yes (v := ?_) 3 rfl (by kernel_rfl) (by kernel_rfl) (by kernel_rfl) (fun _ _ _ h => h) (by rfl) (by assumption) ?_ ?_; rotate_left; (focus ((intro w hSw); (try dsimp only at hSw); go_simp; (try with_reducible rfl))); (try simp only [Act.put, List.setIfInBounds_toArray, List.set_cons_zero, List.set_cons_succ])); (refine held_yes (v := ?_) 4 rfl (by kernel_rfl) (by kernel_rfl) (by kernel_rfl) (fun _ _ _ h => h) (by rfl) (by assumption) ?_ ?_; rotate_left; (focus ((intro w hSw); (try dsimp only at hSw); go_simp; (try with_reducible rfl))); (try simp only [Act.put, List.setIfInBounds_toArray, List.set_cons_zero, List.set_cons_succ])); (refine held_yes (v := ?_) 5 rfl (by kernel_rfl) (by kernel_rfl) (by kernel_rfl) (fun _ _ _ h => h) (by rfl) (by assumption) ?_ ?_; rotate_left; (focus ((intro w hSw); (try dsimp only at hSw); go_simp; (try with_reducible rfl))); (try simp only [Act.put, List.setIfInBounds_toArray, List.set_cons_zero, List.set_cons_succ])); (refine held_yes (v := ?_) 6 rfl (by kernel_rfl) (by kernel_rfl) (by kernel_rfl) (fun _ _ _ h => h) (by rfl) (by assumption) ?_ ?_; rotate_left; (focus ((intro w hSw); (try dsimp only at hSw); go_simp; (try with_reducible rfl))); (try simp only [Act.put, List.setIfInBounds_toArray, List.set_cons_zero, List.set_cons_succ])); (refine held_yes (v := ?_) 7 rfl (by kernel_rfl) (by kernel_rfl) (by kernel_rfl) (fun _ _ _ h => h) (by rfl) (by assumption) ?_ ?_; rotate_left; (focus ((intro w hSw); (try dsimp only at hSw); go_simp; (try with_reducible rfl))); (try simp only [Act.put, List.setIfInBounds_toArray, List.set_cons_zero, List.set_cons_succ])); (refine held_yes (v := ?_) 8 rfl (by kernel_rfl) (by kernel_rfl) (by kernel_rfl) (fun _ _ _ h => h) (by rfl) (by assumption) ?_ ?_; rotate_left; (focus ((intro w hSw); (try dsimp only at hSw); go_simp; (try with_reducible rfl))); (try simp only [Act.put, List.setIfInBounds_toArray, List.set_cons_zero, List.set_cons_succ])); (refine held_yes (v := ?_) 9 rfl (by kernel_rfl) (by kernel_rfl) (by kernel_rfl) (fun _ _ _ h => h) (by rfl) (by assumption) ?_ ?_; rotate_left; (focus ((intro w hSw); (try dsimp only at hSw); go_simp; (try with_reducible rfl))); (try simp only [Act.put, List.setIfInBounds_toArray, List.set_cons_zero, List.set_cons_succ])); (refine held_yes (v := ?_) 10 rfl (by kernel_rfl) (by kernel_rfl) (by kernel_rfl) (fun _ _ _ h => h) (by rfl) (by assumption) ?_ ?_; rotate_left; (focus ((intro w hSw); (try dsimp only at hSw); go_simp; (try with_reducible rfl))); (try simp only [Act.put, List.setIfInBounds_toArray, List.set_cons_zero, List.set_cons_succ]))
          (refine held_call 11 rfl (by kernel_rfl) (fun K hK => ?_); go_simp)
          go_at_call 221; refine (HA1.out _ HMd.out.a.f).mono ?_; rintro e wq ⟨rfl, rfl⟩
          (refine hK.out _ _ ⟨HMd.out.a.b.kk.1 0, HMd.out.a.b.mm.1 0, Fd.out.1, Rd.out.1⟩ (fun hHeld => ?_); clear hK K; (try simp only [Act.put, List.setIfInBounds_toArray, List.set_cons_zero, List.set_cons_succ]))
          (refine held_yes (v := ?_) 12 rfl (by kernel_rfl) (by kernel_rfl) (by kernel_rfl) (fun _ _ _ h => h) (by rfl) (by assumption) ?_ ?_; rotate_left; (focus ((intro w hSw); (try dsimp only at hSw); go_simp; (try with_reducible rfl))); (try simp only [Act.put, List.setIfInBounds_toArray, List.set_cons_zero, List.set_cons_succ]))
          (refine held_no 13 rfl (by kernel_rfl) (by kernel_rfl) (by kernel_rfl) (fun _ _ _ h => h) (by rfl) (by assumption) ?_; (try simp only [Act.put, List.setIfInBounds_toArray, List.set_cons_zero, List.set_cons_succ])); (refine held_no 14 rfl (by kernel_rfl) (by kernel_rfl) (by kernel_rfl) (fun _ _ _ h => h) (by rfl) (by assumption) ?_; (try simp only [Act.put, List.setIfInBounds_toArray, List.set_cons_zero, List.set_cons_succ])); (refine held_no 15 rfl (by kernel_rfl) (by kernel_rfl) (by kernel_rfl) (fun _ _ _ h => h) (by rfl) (by assumption) ?_; (try simp only [Act.put, List.setIfInBounds_toArray, List.set_cons_zero, List.set_cons_succ])); (refine held_no 16 rfl (by kernel_rfl) (by kernel_rfl) (by kernel_rfl) (fun _ _ _ h => h) (by rfl) (by assumption) ?_; (try simp only [Act.put, List.setIfInBounds_toArray, List.set_cons_zero, List.set_cons_succ])); (refine held_no 17 rfl (by kernel_rfl) (by kernel_rfl) (by kernel_rfl) (fun _ _ _ h => h) (by rfl) (by assumption) ?_; (try simp only [Act.put, List.setIfInBounds_toArray, List.set_cons_zero, List.set_cons_succ])); (refine held_no 18 rfl (by kernel_rfl) (by kernel_rfl) (by kernel_rfl) (fun _ _ _ h => h) (by rfl) (by assumption) ?_; (try simp only [Act.put, List.setIfInBounds_toArray, List.set_cons_zero, List.set_cons_succ])); (refine held_no 19 rfl (by kernel_rfl) (by kernel_rfl) (by kernel_rfl) (fun _ _ _ h => h) (by rfl) (by assumption) ?_; (try simp only [Act.put, List.setIfInBounds_toArray, List.set_cons_zero, List.set_cons_succ])); (refine held_no 20 rfl (by kernel_rfl) (by kernel_rfl) (by kernel_rfl) (fun _ _ _ h => h) (by rfl) (by assumption) ?_; (try simp only [Act.put, List.setIfInBounds_toArray, List.set_cons_zero, List.set_cons_succ])); (refine held_no 21 rfl (by kernel_rfl) (by kernel_rfl) (by kernel_rfl) (fun _ _ _ h => h) (by rfl) (by assumption) ?_; (try simp only [Act.put, List.setIfInBounds_toArray, List.set_cons_zero, List.set_cons_succ])); (refine held_no 22 rfl (by kernel_rfl) (by kernel_rfl) (by kernel_rfl) (fun _ _ _ h => h) (by rfl) (by assumption) ?_; (try simp only [Act.put, List.setIfInBounds_toArray, List.set_cons_zero, List.set_cons_succ])); (refine held_no 23 rfl (by kernel_rfl) (by kernel_rfl) (by kernel_rfl) (fun _ _ _ h => h) (by rfl) (by assumption) ?_; (try simp only [Act.put, List.setIfInBounds_toArray, List.set_cons_zero, List.set_cons_succ])); (refine held_no 24 rfl (by kernel_rfl) (by kernel_rfl) (by kernel_rfl) (fun _ _ _ h => h) (by rfl) (by assumption) ?_; (try simp only [Act.put, List.setIfInBounds_toArray, List.set_cons_zero, List.set_cons_succ]))
          (refine held_yes (v := ?_) 25 rfl (by kernel_rfl) (by kernel_rfl) (by kernel_rfl) (fun _ _ _ h => h) (by rfl) (by assumption) ?_ ?_; rotate_left; (focus ((intro w hSw); (try dsimp only at hSw); go_simp; (try with_reducible rfl))); (try simp only [Act.put, List.setIfInBounds_toArray, List.set_cons_zero, List.set_cons_succ]))
          refine wpAnyH_done (by kernel_rfl) ?_ _
          go_wp2_with fail
          exact ⟨⟨n + 1, fs', qv', st' + 1, by omega, by go_num, HMd, HG, Lib.hid (HLK.out HLA.out), Lib.hid (by have := HS.out; omega)⟩, by simp [intOf]; omega⟩
    · have HLB := Lib.hid (show ∀ j (hj : j < B.length), LookA d.lk (ρ, x) fs fs' B[j] from fun j hj => HJ.out j hj (by omega))
      have HS1 := Lib.hid (show st' ≤ st + B.length * (d.pr + 1) by have h1 := HS.out; have h2 : n = B.length := (by omega); rw [h2] at h1; exact h1)
      have hbd : Below wr.heap.size wr wr.drew := below_drew (Below.refl _ _)
      have hVc : wr.drew.cell? ⟨d.VIA, mv, none⟩ = some (.slice vo V.length vc) := by
        have := (HM.out.a.b.via.below hbd).1 mv
        rw [arrOf_get, if_pos hmv, HVR.out] at this
        exact this
      have HMd := Lib.hid (HM.out.below hbd)
      have Fd := Lib.hid ((HM.out.kp.blk F1.out HBX.out).below hbd)
      clear hbd HJ HS
      go_wp2_with fail
      refine wp_region_held_drew (S := (fun W => (∀ o, W.cell? ⟨d.K, o, none⟩ = (#[.pointer (some ⟨d.M, 0, none⟩), .slice (some ⟨d.BY, 0, none⟩) d.n d.n, .slice (some ⟨d.VIA, 0, none⟩) d.lk d.lk, qv'] : Array Value)[o]?) ∧ W.cell? ⟨d.M, 2, none⟩ = some (.int .i64 d.lk) ∧ (∀ o, W.cell? ⟨w.heap.size, o, none⟩ = (#[.int .i64 ρ, .int .i64 x] : Array Value)[o]?) ∧ W.cell? ⟨d.VIA, mv, none⟩ = some (.slice vo V.length vc))) (by kernel_rfl) ⟨HMd.out.a.b.kk.1, HMd.out.a.b.mm.1 2, Fd.out.1, hVc⟩ (fun hHeld => ?_)
      obtain ⟨wd, hwd⟩ : ∃ W, W = wr.drew := ⟨_, rfl⟩
      rw [← hwd] at HMd Fd hHeld hVc ⊢
      clear hwd HM hlt hn
      (refine held_yes (v := ?_) 0 rfl (by kernel_rfl) (by kernel_rfl) (by kernel_rfl) (fun _ _ _ h => h) (by rfl) (by assumption) ?_ ?_; rotate_left; (focus ((intro w hSw); (try dsimp only at hSw); go_simp; (try with_reducible rfl))); (try simp only [Act.put, List.setIfInBounds_toArray, List.set_cons_zero, List.set_cons_succ])); (refine held_yes (v := ?_) 1 rfl (by kernel_rfl) (by kernel_rfl) (by kernel_rfl) (fun _ _ _ h => h) (by rfl) (by assumption) ?_ ?_; rotate_left; (focus ((intro w hSw); (try dsimp only at hSw); go_simp; (try with_reducible rfl))); (try simp only [Act.put, List.setIfInBounds_toArray, List.set_cons_zero, List.set_cons_succ])); (refine held_yes (v := ?_) 2 rfl (by kernel_rfl) (by kernel_rfl) (by kernel_rfl) (fun _ _ _ h => h) (by rfl) (by assumption) ?_ ?_; rotate_left; (focus ((intro w hSw); (try dsimp only at hSw); go_simp; (try with_reducible rfl))); (try simp only [Act.put, List.setIfInBounds_toArray, List.set_cons_zero, List.set_cons_succ])); (refine held_yes (v := ?_) 3 rfl (by kernel_rfl) (by kernel_rfl) (by kernel_rfl) (fun _ _ _ h => h) (by rfl) (by assumption) ?_ ?_; rotate_left; (focus ((intro w hSw); (try dsimp only at hSw); go_simp; (try with_reducible rfl))); (try simp only [Act.put, List.setIfInBounds_toArray, List.set_cons_zero, List.set_cons_succ])); (refine held_yes (v := ?_) 4 rfl (by kernel_rfl) (by kernel_rfl) (by kernel_rfl) (fun _ _ _ h => h) (by rfl) (by assumption) ?_ ?_; rotate_left; (focus ((intro w hSw); (try dsimp only at hSw); go_simp; (try with_reducible rfl))); (try simp only [Act.put, List.setIfInBounds_toArray, List.set_cons_zero, List.set_cons_succ])); (refine held_yes (v := ?_) 5 rfl (by kernel_rfl) (by kernel_rfl) (by kernel_rfl) (fun _ _ _ h => h) (by rfl) (by assumption) ?_ ?_; rotate_left; (focus ((intro w hSw); (try dsimp only at hSw); go_simp; (try with_reducible rfl))); (try simp only [Act.put, List.setIfInBounds_toArray, List.set_cons_zero, List.set_cons_succ])); (refine held_yes (v := ?_) 6 rfl (by kernel_rfl) (by kernel_rfl) (by kernel_rfl) (fun _ _ _ h => h) (by rfl) (by assumption) ?_ ?_; rotate_left; (focus ((intro w hSw); (try dsimp only at hSw); go_simp; (try with_reducible rfl))); (try simp only [Act.put, List.setIfInBounds_toArray, List.set_cons_zero, List.set_cons_succ])); (refine held_yes (v := ?_) 7 rfl (by kernel_rfl) (by kernel_rfl) (by kernel_rfl) (fun _ _ _ h => h) (by rfl) (by assumption) ?_ ?_; rotate_left; (focus ((intro w hSw); (try dsimp only at hSw); go_simp; (try with_reducible rfl))); (try simp only [Act.put, List.setIfInBounds_toArray, List.set_cons_zero, List.set_cons_succ])); (refine held_yes (v := ?_) 8 rfl (by kernel_rfl) (by kernel_rfl) (by kernel_rfl) (fun _ _ _ h => h) (by rfl) (by assumption) ?_ ?_; rotate_left; (focus ((intro w hSw); (try dsimp only at hSw); go_simp; (try with_reducible rfl))); (try simp only [Act.put, List.setIfInBounds_toArray, List.set_cons_zero, List.set_cons_succ])); (refine held_yes (v := ?_) 9 rfl (by kernel_rfl) (by kernel_rfl) (by kernel_rfl) (fun _ _ _ h => h) (by rfl) (by assumption) ?_ ?_; rotate_left; (focus ((intro w hSw); (try dsimp only at hSw); go_simp; (try with_reducible rfl))); (try simp only [Act.put, List.setIfInBounds_toArray, List.set_cons_zero, List.set_cons_succ])); (refine held_yes (v := ?_) 10 rfl (by kernel_rfl) (by kernel_rfl) (by kernel_rfl) (fun _ _ _ h => h) (by rfl) (by assumption) ?_ ?_; rotate_left; (focus ((intro w hSw); (try dsimp only at hSw); go_simp; (try with_reducible rfl))); (try simp only [Act.put, List.setIfInBounds_toArray, List.set_cons_zero, List.set_cons_succ])); (refine held_yes (v := ?_) 11 rfl (by kernel_rfl) (by kernel_rfl) (by kernel_rfl) (fun _ _ _ h => h) (by rfl) (by assumption) ?_ ?_; rotate_left; (focus ((intro w hSw); (try dsimp only at hSw); go_simp; (try with_reducible rfl))); (try simp only [Act.put, List.setIfInBounds_toArray, List.set_cons_zero, List.set_cons_succ])); (refine held_yes (v := ?_) 12 rfl (by kernel_rfl) (by kernel_rfl) (by kernel_rfl) (fun _ _ _ h => h) (by rfl) (by assumption) ?_ ?_; rotate_left; (focus ((intro w hSw); (try dsimp only at hSw); go_simp; (try with_reducible rfl))); (try simp only [Act.put, List.setIfInBounds_toArray, List.set_cons_zero, List.set_cons_succ])); (refine held_yes (v := ?_) 13 rfl (by kernel_rfl) (by kernel_rfl) (by kernel_rfl) (fun _ _ _ h => h) (by rfl) (by assumption) ?_ ?_; rotate_left; (focus ((intro w hSw); (try dsimp only at hSw); go_simp; (try with_reducible rfl))); (try simp only [Act.put, List.setIfInBounds_toArray, List.set_cons_zero, List.set_cons_succ])); (refine held_yes (v := ?_) 14 rfl (by kernel_rfl) (by kernel_rfl) (by kernel_rfl) (fun _ _ _ h => h) (by rfl) (by assumption) ?_ ?_; rotate_left; (focus ((intro w hSw); (try dsimp only at hSw); go_simp; (try with_reducible rfl))); (try simp only [Act.put, List.setIfInBounds_toArray, List.set_cons_zero, List.set_cons_succ])); (refine held_yes (v := ?_) 15 rfl (by kernel_rfl) (by kernel_rfl) (by kernel_rfl) (fun _ _ _ h => h) (by rfl) (by assumption) ?_ ?_; rotate_left; (focus ((intro w hSw); (try dsimp only at hSw); go_simp; (try with_reducible rfl))); (try simp only [Act.put, List.setIfInBounds_toArray, List.set_cons_zero, List.set_cons_succ])); (refine held_yes (v := ?_) 16 rfl (by kernel_rfl) (by kernel_rfl) (by kernel_rfl) (fun _ _ _ h => h) (by rfl) (by assumption) ?_ ?_; rotate_left; (focus ((intro w hSw); (try dsimp only at hSw); go_simp; (try with_reducible rfl))); (try simp only [Act.put, List.setIfInBounds_toArray, List.set_cons_zero, List.set_cons_succ])); (refine held_yes (v := ?_) 17 rfl (by kernel_rfl) (by kernel_rfl) (by kernel_rfl) (fun _ _ _ h => h) (by rfl) (by assumption) ?_ ?_; rotate_left; (focus ((intro w hSw); (try dsimp only at hSw); go_simp; (try with_reducible rfl))); (try simp only [Act.put, List.setIfInBounds_toArray, List.set_cons_zero, List.set_cons_succ]))
      refine wpAnyH_done (by kernel_rfl) ?_ _
      clear hVc
      go_wp2_with fail
      go_loopw [112] (fun i wr => ∃ (n : Nat) (fs2 : List (Nat × Nat)) (qv2 : Value) (st2 : Nat), n ≤ V.length ∧ i = .int .i64 n ∧ Hid (MkMore wk d rs rv fs k qv wr fs2 qv2 st2) ∧ Hid (Grow d.lk rs fs fs2) ∧ Hid (∀ j (hj : j < B.length), LookA d.lk (ρ, x) fs fs2 B[j]) ∧ Hid (∀ j (hj : j < V.length), j < n → (V[j].a.toNat, q3) ∈ fs → (V[j].h.toNat, x) ∈ fs2) ∧ Hid (st2 ≤ st + B.length * (d.pr + 1) + n * 2)) (fun i _ => V.length - (intOf i).toNat)
      case atStart => exact ⟨0, fs', qv', st', by omega, rfl, HMd, HG, HLB, Lib.hid (fun j hj h => absurd h (by omega)), Lib.hid (by have := HS1.out; omega)⟩
      case round =>
        clear HMd Fd HG HLB HS1
        obtain ⟨n, fs', qv', st', hn, rfl, HM, HG, HJ, HJV, HS⟩ := hrel
        by_cases hlt : n < V.length
        · obtain ⟨b1, o1, c1, he1, hc1, hm1, hb1, hx1⟩ := (Sl.of_own HOV.out).pos (by omega)
          simp only [Value.slice.injEq, true_and] at he1
          obtain ⟨rfl, rfl⟩ := he1
          have hkb := HM.out.kp.block b1 hb1 (HVX.out b1 rfl)
          obtain ⟨p0, p1, p2, p3, p4, p5⟩ := ru_cell (w := wr) (fun j u hu => (World.cell?_of_block (a := ⟨b1, o1 + j, none⟩) hkb).trans (hx1 j u hu)) n hlt
          have hbr : b1 < wr.heap.size := Nat.lt_of_lt_of_le hb1 HM.out.kp.size
          have hmem : V[n] ∈ viaR rs mv := by have h1 := List.getElem_mem hlt; have h2 := HV.out; exact h2 ▸ h1
          obtain ⟨hmr, hk3, hvia⟩ := viaR_mem.1 hmem
          have hst2 : st' + 1 ≤ 100000000000 := by
            have h1 := HS.out
            have h2 : B.length * (d.pr + 1) ≤ 100000 * 65 := Nat.mul_le_mul (by omega) (by omega)
            omega
          have HJ2 : Hid (∀ fs2, Grow d.lk rs fs' fs2 → ((V[n].a.toNat, q3) ∈ fs → (V[n].h.toNat, x) ∈ fs2) → ∀ j (hj : j < V.length), j < n + 1 → (V[j].a.toNat, q3) ∈ fs → (V[j].h.toNat, x) ∈ fs2) := Lib.hid (fun fs2 hg hl j hj hjn hin => by
            by_cases e : j = n
            · subst e; exact hl hin
            · exact hg.sub _ (HJV.out j hj (by omega) hin))
          have hcases := okRu_cases (hok _ hmr)
          clear hx1 hkb hmem
          generalize V[n] = r at *
          obtain ⟨ck, fk, zk⟩ := HM.out.a.b.kk
          obtain ⟨cm, fm, zm⟩ := HM.out.a.b.mm
          have hMK : d.M < d.K := HM.out.a.ok.o4
          have hMC : d.M < wr.heap.size := zm
          obtain ⟨cf, ff, zf⟩ := (HM.out.kp.blk F1.out HBX.out)
          have hstw : IntKind.i64.wrap ((st' : Int) + 1) = (st' : Int) + 1 := Go.IntWalk.i64_in _ (by omega)
          rcases hcases with ⟨_, _, rfl, _, _⟩ | ⟨h0, a0, rfl, hh, ha⟩ | ⟨h0, a0, v0, rfl, hh, ha, hv⟩ | ⟨h0, a0, b0, rfl, hh, ha, hb⟩
          · simp at hk3
          · simp at hk3
          · have hv0 := Lib.hid (show v0 = mv from Int.ofNat.inj hvia)
            clear hvia hk3
            have HA1 := Lib.hid (fun W (h : FamAt W d.F d.W0 d.g0 d.n d.pr fs') => by have := fam_Has h (a0 : Int) (q3 : Int); rw [hasF_nat] at this; exact this)
            obtain ⟨w3, hw3⟩ : ∃ V, V = (wr.setCell ⟨d.M, 3, none⟩ (.int .i64 ((st' : Int) + 1))).alloc (.cells #[.int .i64 3, .int .i64 h0, .int .i64 0, .int .i64 a0, .int .i64 0, .int .i64 v0] 196) := ⟨_, rfl⟩
            have HM3 := Lib.hid (show MkMore wk d rs rv fs k qv w3 fs' qv' (st' + 1) by rw [hw3]; exact (HM.out.steps (st' + 1)).below ((Below.refl _ _).alloc (Nat.le_refl _) _))
            have hrX : ¬ mkX d qv' wr.heap.size := mkX_far HM.out.a HM.out.a.b.le (fun e => by have := (HM.out.a.qge _ e).2; omega)
            have R3 := Lib.hid (show Blk w3 wr.heap.size #[.int .i64 3, .int .i64 h0, .int .i64 0, .int .i64 a0, .int .i64 0, .int .i64 v0] by rw [hw3]; have := Blk.new (wr.setCell ⟨d.M, 3, none⟩ (.int .i64 ((st' : Int) + 1))) #[.int .i64 3, .int .i64 h0, .int .i64 0, .int .i64 a0, .int .i64 0, .int .i64 v0] 196; simpa using this)
            have F3 := Lib.hid (HM3.out.kp.blk F1.out HBX.out)
            go_wp2_with fail
            rw [← hw3]
            clear hw3 ck fk zk cm fm zm cf ff zf
            have hbd : Below w3.heap.size w3 w3.drew := below_drew (Below.refl _ _)
            have HMd := Lib.hid (HM3.out.below hbd)
            have Fd := Lib.hid (F3.out.below hbd)
            have Rd := Lib.hid (R3.out.below hbd)
            clear hbd HM3 F3 R3
            refine wp_region_held_drew (S := (fun W => W.cell? ⟨d.K, 0, none⟩ = some (.pointer (some ⟨d.M, 0, none⟩)) ∧ W.cell? ⟨d.M, 0, none⟩ = some (.pointer (some ⟨d.F, 0, none⟩)) ∧ W.cell? ⟨d.M, 2, none⟩ = some (.int .i64 d.lk) ∧ (∀ o, W.cell? ⟨w.heap.size, o, none⟩ = (#[.int .i64 ρ, .int .i64 x] : Array Value)[o]?) ∧ (∀ o, W.cell? ⟨wr.heap.size, o, none⟩ = (#[.int .i64 3, .int .i64 h0, .int .i64 0, .int .i64 a0, .int .i64 0, .int .i64 v0] : Array Value)[o]?))) (by kernel_rfl) ⟨HMd.out.a.b.kk.1 0, HMd.out.a.b.mm.1 0, HMd.out.a.b.mm.1 2, Fd.out.1, Rd.out.1⟩ (fun hHeld => ?_)
            obtain ⟨wd, hwd⟩ : ∃ W, W = w3.drew := ⟨_, rfl⟩
            rw [← hwd] at HMd Fd Rd hHeld ⊢
            clear hwd
            by_cases m1 : (a0, q3) ∈ fs'
            · rw [decide_eq_true m1] at HA1
              have AD := Lib.hid (mk_add HMd.out.a h0 x hh hx (by omega))
              have HGA := Lib.hid (Grow.add (lk := d.lk) (rs := rs) (fs := fs') (r := h0) (c := x) (fun E hE h => hE.link _ hmr rfl q3 x (h _ m1) (by simp only [Int.toNat_natCast]; rw [hv0.out, HQM.out]; exact h _ (HG.out.sub _ hf))))
              clear m1
              (refine held_yes (v := ?_) 0 rfl (by kernel_rfl) (by kernel_rfl) (by kernel_rfl) (fun _ _ _ h => h) (by rfl) (by assumption) ?_ ?_; rotate_left; (focus ((intro w hSw); (try dsimp only at hSw); go_simp; (try with_reducible rfl))); (try simp only [Act.put, List.setIfInBounds_toArray, List.set_cons_zero, List.set_cons_succ])); (refine held_yes (v := ?_) 1 rfl (by kernel_rfl) (by kernel_rfl) (by kernel_rfl) (fun _ _ _ h => h) (by rfl) (by assumption) ?_ ?_; rotate_left; (focus ((intro w hSw); (try dsimp only at hSw); go_simp; (try with_reducible rfl))); (try simp only [Act.put, List.setIfInBounds_toArray, List.set_cons_zero, List.set_cons_succ])); (refine held_yes (v := ?_) 2 rfl (by kernel_rfl) (by kernel_rfl) (by kernel_rfl) (fun _ _ _ h => h) (by rfl) (by assumption) ?_ ?_; rotate_left; (focus ((intro w hSw); (try dsimp only at hSw); go_simp; (try with_reducible rfl))); (try simp only [Act.put, List.setIfInBounds_toArray, List.set_cons_zero, List.set_cons_succ])); (refine held_yes (v := ?_) 3 rfl (by kernel_rfl) (by kernel_rfl) (by kernel_rfl) (fun _ _ _ h => h) (by rfl) (by assumption) ?_ ?_; rotate_left; (focus ((intro w hSw); (try dsimp only at hSw); go_simp; (try with_reducible rfl))); (try simp only [Act.put, List.setIfInBounds_toArray, List.set_cons_zero, List.set_cons_succ])); (refine held_yes (v := ?_) 4 rfl (by kernel_rfl) (by kernel_rfl) (by kernel_rfl) (fun _ _ _ h => h) (by rfl) (by assumption) ?_ ?_; rotate_left; (focus ((intro w hSw); (try dsimp only at hSw); go_simp; (try with_reducible rfl))); (try simp only [Act.put, List.setIfInBounds_toArray, List.set_cons_zero, List.set_cons_succ])); (refine held_yes (v := ?_) 5 rfl (by kernel_rfl) (by kernel_rfl) (by kernel_rfl) (fun _ _ _ h => h) (by rfl) (by assumption) ?_ ?_; rotate_left; (focus ((intro w hSw); (try dsimp only at hSw); go_simp; (try with_reducible rfl))); (try simp only [Act.put, List.setIfInBounds_toArray, List.set_cons_zero, List.set_cons_succ])); (refine held_yes (v := ?_) 6 rfl (by kernel_rfl) (by kernel_rfl) (by kernel_rfl) (fun _ _ _ h => h) (by rfl) (by assumption) ?_ ?_; rotate_left; (focus ((intro w hSw); (try dsimp only at hSw); go_simp; (try with_reducible rfl))); (try simp only [Act.put, List.setIfInBounds_toArray, List.set_cons_zero, List.set_cons_succ])); (refine held_yes (v := ?_) 7 rfl (by kernel_rfl) (by kernel_rfl) (by kernel_rfl) (fun _ _ _ h => h) (by rfl) (by assumption) ?_ ?_; rotate_left; (focus ((intro w hSw); (try dsimp only at hSw); go_simp; (try with_reducible rfl))); (try simp only [Act.put, List.setIfInBounds_toArray, List.set_cons_zero, List.set_cons_succ])); (refine held_yes (v := ?_) 8 rfl (by kernel_rfl) (by kernel_rfl) (by kernel_rfl) (fun _ _ _ h => h) (by rfl) (by assumption) ?_ ?_; rotate_left; (focus ((intro w hSw); (try dsimp only at hSw); go_simp; (try with_reducible rfl))); (try simp only [Act.put, List.setIfInBounds_toArray, List.set_cons_zero, List.set_cons_succ])); (refine held_yes (v := ?_) 9 rfl (by kernel_rfl) (by kernel_rfl) (by kernel_rfl) (fun _ _ _ h => h) (by rfl) (by assumption) ?_ ?_; rotate_left; (focus ((intro w hSw); (try dsimp only at hSw); go_simp; (try with_reducible rfl))); (try simp only [Act.put, List.setIfInBounds_toArray, List.set_cons_zero, List.set_cons_succ])); (refine held_yes (v := ?_) 10 rfl (by kernel_rfl) (by kernel_rfl) (by kernel_rfl) (fun _ _ _ h => h) (by rfl) (by assumption) ?_ ?_; rotate_left; (focus ((intro w hSw); (try dsimp only at hSw); go_simp; (try with_reducible rfl))); (try simp only [Act.put, List.setIfInBounds_toArray, List.set_cons_zero, List.set_cons_succ])); (refine held_yes (v := ?_) 11 rfl (by kernel_rfl) (by kernel_rfl) (by kernel_rfl) (fun _ _ _ h => h) (by rfl) (by assumption) ?_ ?_; rotate_left; (focus ((intro w hSw); (try dsimp only at hSw); go_simp; (try with_reducible rfl))); (try simp only [Act.put, List.setIfInBounds_toArray, List.set_cons_zero, List.set_cons_succ])); (refine held_yes (v := ?_) 12 rfl (by kernel_rfl) (by kernel_rfl) (by kernel_rfl) (fun _ _ _ h => h) (by rfl) (by assumption) ?_ ?_; rotate_left; (focus ((intro w hSw); (try dsimp only at hSw); go_simp; (try with_reducible rfl))); (try simp only [Act.put, List.setIfInBounds_toArray, List.set_cons_zero, List.set_cons_succ])); (refine held_yes (v := ?_) 13 rfl (by kernel_rfl) (by kernel_rfl) (by kernel_rfl) (fun _ _ _ h => h) (by rfl) (by assumption) ?_ ?_; rotate_left; (focus ((intro w hSw); (try dsimp only at hSw); go_simp; (try with_reducible rfl))); (try simp only [Act.put, List.setIfInBounds_toArray, List.set_cons_zero, List.set_cons_succ])); (refine held_yes (v := ?_) 14 rfl (by kernel_rfl) (by kernel_rfl) (by kernel_rfl) (fun _ _ _ h => h) (by rfl) (by assumption) ?_ ?_; rotate_left; (focus ((intro w hSw); (try dsimp only at hSw); go_simp; (try with_reducible rfl))); (try simp only [Act.put, List.setIfInBounds_toArray, List.set_cons_zero, List.set_cons_succ])); (refine held_yes (v := ?_) 15 rfl (by kernel_rfl) (by kernel_rfl) (by kernel_rfl) (fun _ _ _ h => h) (by rfl) (by assumption) ?_ ?_; rotate_left; (focus ((intro w hSw); (try dsimp only at hSw); go_simp; (try with_reducible rfl))); (try simp only [Act.put, List.setIfInBounds_toArray, List.set_cons_zero, List.set_cons_succ])); (refine held_yes (v := ?_) 16 rfl (by kernel_rfl) (by kernel_rfl) (by kernel_rfl) (fun _ _ _ h => h) (by rfl) (by assumption) ?_ ?_; rotate_left; (focus ((intro w hSw); (try dsimp only at hSw); go_simp; (try with_reducible rfl))); (try simp only [Act.put, List.setIfInBounds_toArray, List.set_cons_zero, List.set_cons_succ])); (refine held_yes (v := ?_) 17 rfl (by kernel_rfl) (by kernel_rfl) (by kernel_rfl) (fun _ _ _ h => h) (by rfl) (by assumption) ?_ ?_; rotate_left; (focus ((intro w hSw); (try dsimp only at hSw); go_simp; (try with_reducible rfl))); (try simp only [Act.put, List.setIfInBounds_toArray, List.set_cons_zero, List.set_cons_succ])); (refine held_yes (v := ?_) 18 rfl (by kernel_rfl) (by kernel_rfl) (by kernel_rfl) (fun _ _ _ h => h) (by rfl) (by assumption) ?_ ?_; rotate_left; (focus ((intro w hSw); (try dsimp only at hSw); go_simp; (try with_reducible rfl))); (try simp only [Act.put, List.setIfInBounds_toArray, List.set_cons_zero, List.set_cons_succ]))
              (refine held_call 19 rfl (by kernel_rfl) (fun K hK => ?_); go_simp)
              go_at_call 221; refine (HA1.out _ HMd.out.a.f).mono ?_; rintro e wq ⟨rfl, rfl⟩
              (refine hK.out _ _ ⟨HMd.out.a.b.kk.1 0, HMd.out.a.b.mm.1 0, HMd.out.a.b.mm.1 2, Fd.out.1, Rd.out.1⟩ (fun hHeld => ?_); clear hK K; (try simp only [Act.put, List.setIfInBounds_toArray, List.set_cons_zero, List.set_cons_succ]))
              refine wpAnyH_done (by kernel_rfl) ?_ _
              obtain ⟨cf, ff, zf⟩ := Fd.out
              obtain ⟨cr, fr, zr⟩ := Rd.out
              clear ff fr hHeld
              go_wp2_with fail
              clear cf zf cr zr
              refine AD.out.mono ?_
              rintro e w4 ⟨rfl, qv2, hmm⟩
              have HM4 := Lib.hid (HMd.out.trans hmm)
              clear hmm AD
              go_wp2_with fail
              exact ⟨⟨n + 1, _, qv2, st' + 1 + 1, by omega, by go_num, HM4, Lib.hid (HG.out.trans HGA.out), Lib.hid (fun j hj => (HJ.out j hj).mono HGA.out.sub), Lib.hid (HJ2.out _ HGA.out (fun _ => addF_mem _ _ _)), Lib.hid (by have := HS.out; omega)⟩, by simp [intOf]; omega⟩
            · rw [decide_eq_false m1] at HA1
              have HLA := Lib.hid (HJ2.out fs' (Grow.refl _ _ _) (fun hin => absurd (HG.out.sub _ hin) m1))
              clear m1
              (refine held_yes (v := ?_) 0 rfl (by kernel_rfl) (by kernel_rfl) (by kernel_rfl) (fun _ _ _ h => h) (by rfl) (by assumption) ?_ ?_; rotate_left; (focus ((intro w hSw); (try dsimp only at hSw); go_simp; (try with_reducible rfl))); (try simp only [Act.put, List.setIfInBounds_toArray, List.set_cons_zero, List.set_cons_succ])); (refine held_yes (v := ?_) 1 rfl (by kernel_rfl) (by kernel_rfl) (by kernel_rfl) (fun _ _ _ h => h) (by rfl) (by assumption) ?_ ?_; rotate_left; (focus ((intro w hSw); (try dsimp only at hSw); go_simp; (try with_reducible rfl))); (try simp only [Act.put, List.setIfInBounds_toArray, List.set_cons_zero, List.set_cons_succ])); (refine held_yes (v := ?_) 2 rfl (by kernel_rfl) (by kernel_rfl) (by kernel_rfl) (fun _ _ _ h => h) (by rfl) (by assumption) ?_ ?_; rotate_left; (focus ((intro w hSw); (try dsimp only at hSw); go_simp; (try with_reducible rfl))); (try simp only [Act.put, List.setIfInBounds_toArray, List.set_cons_zero, List.set_cons_succ])); (refine held_yes (v := ?_) 3 rfl (by kernel_rfl) (by kernel_rfl) (by kernel_rfl) (fun _ _ _ h => h) (by rfl) (by assumption) ?_ ?_; rotate_left; (focus ((intro w hSw); (try dsimp only at hSw); go_simp; (try with_reducible rfl))); (try simp only [Act.put, List.setIfInBounds_toArray, List.set_cons_zero, List.set_cons_succ])); (refine held_yes (v := ?_) 4 rfl (by kernel_rfl) (by kernel_rfl) (by kernel_rfl) (fun _ _ _ h => h) (by rfl) (by assumption) ?_ ?_; rotate_left; (focus ((intro w hSw); (try dsimp only at hSw); go_simp; (try with_reducible rfl))); (try simp only [Act.put, List.setIfInBounds_toArray, List.set_cons_zero, List.set_cons_succ])); (refine held_yes (v := ?_) 5 rfl (by kernel_rfl) (by kernel_rfl) (by kernel_rfl) (fun _ _ _ h => h) (by rfl) (by assumption) ?_ ?_; rotate_left; (focus ((intro w hSw); (try dsimp only at hSw); go_simp; (try with_reducible rfl))); (try simp only [Act.put, List.setIfInBounds_toArray, List.set_cons_zero, List.set_cons_succ])); (refine held_yes (v := ?_) 6 rfl (by kernel_rfl) (by kernel_rfl) (by kernel_rfl) (fun _ _ _ h => h) (by rfl) (by assumption) ?_ ?_; rotate_left; (focus ((intro w hSw); (try dsimp only at hSw); go_simp; (try with_reducible rfl))); (try simp only [Act.put, List.setIfInBounds_toArray, List.set_cons_zero, List.set_cons_succ])); (refine held_yes (v := ?_) 7 rfl (by kernel_rfl) (by kernel_rfl) (by kernel_rfl) (fun _ _ _ h => h) (by rfl) (by assumption) ?_ ?_; rotate_left; (focus ((intro w hSw); (try dsimp only at hSw); go_simp; (try with_reducible rfl))); (try simp only [Act.put, List.setIfInBounds_toArray, List.set_cons_zero, List.set_cons_succ])); (refine held_yes (v := ?_) 8 rfl (by kernel_rfl) (by kernel_rfl) (by kernel_rfl) (fun _ _ _ h => h) (by rfl) (by assumption) ?_ ?_; rotate_left; (focus ((intro w hSw); (try dsimp only at hSw); go_simp; (try with_reducible rfl))); (try simp only [Act.put, List.setIfInBounds_toArray, List.set_cons_zero, List.set_cons_succ])); (refine held_yes (v := ?_) 9 rfl (by kernel_rfl) (by kernel_rfl) (by kernel_rfl) (fun _ _ _ h => h) (by rfl) (by assumption) ?_ ?_; rotate_left; (focus ((intro w hSw); (try dsimp only at hSw); go_simp; (try with_reducible rfl))); (try simp only [Act.put, List.setIfInBounds_toArray, List.set_cons_zero, List.set_cons_succ])); (refine held_yes (v := ?_) 10 rfl (by kernel_rfl) (by kernel_rfl) (by kernel_rfl) (fun _ _ _ h => h) (by rfl) (by assumption) ?_ ?_; rotate_left; (focus ((intro w hSw); (try dsimp only at hSw); go_simp; (try with_reducible rfl))); (try simp only [Act.put, List.setIfInBounds_toArray, List.set_cons_zero, List.set_cons_succ])); (refine held_yes (v := ?_) 11 rfl (by kernel_rfl) (by kernel_rfl) (by kernel_rfl) (fun _ _ _ h => h) (by rfl) (by assumption) ?_ ?_; rotate_left; (focus ((intro w hSw); (try dsimp only at hSw); go_simp; (try with_reducible rfl))); (try simp only [Act.put, List.setIfInBounds_toArray, List.set_cons_zero, List.set_cons_succ])); (refine held_yes (v := ?_) 12 rfl (by kernel_rfl) (by kernel_rfl) (by kernel_rfl) (fun _ _ _ h => h) (by rfl) (by assumption) ?_ ?_; rotate_left; (focus ((intro w hSw); (try dsimp only at hSw); go_simp; (try with_reducible rfl))); (try simp only [Act.put, List.setIfInBounds_toArray, List.set_cons_zero, List.set_cons_succ])); (refine held_yes (v := ?_) 13 rfl (by kernel_rfl) (by kernel_rfl) (by kernel_rfl) (fun _ _ _ h => h) (by rfl) (by assumption) ?_ ?_; rotate_left; (focus ((intro w hSw); (try dsimp only at hSw); go_simp; (try with_reducible rfl))); (try simp only [Act.put, List.setIfInBounds_toArray, List.set_cons_zero, List.set_cons_succ])); (refine held_yes (v := ?_) 14 rfl (by kernel_rfl) (by kernel_rfl) (by kernel_rfl) (fun _ _ _ h => h) (by rfl) (by assumption) ?_ ?_; rotate_left; (focus ((intro w hSw); (try dsimp only at hSw); go_simp; (try with_reducible rfl))); (try simp only [Act.put, List.setIfInBounds_toArray, List.set_cons_zero, List.set_cons_succ])); (refine held_yes (v := ?_) 15 rfl (by kernel_rfl) (by kernel_rfl) (by kernel_rfl) (fun _ _ _ h => h) (by rfl) (by assumption) ?_ ?_; rotate_left; (focus ((intro w hSw); (try dsimp only at hSw); go_simp; (try with_reducible rfl))); (try simp only [Act.put, List.setIfInBounds_toArray, List.set_cons_zero, List.set_cons_succ])); (refine held_yes (v := ?_) 16 rfl (by kernel_rfl) (by kernel_rfl) (by kernel_rfl) (fun _ _ _ h => h) (by rfl) (by assumption) ?_ ?_; rotate_left; (focus ((intro w hSw); (try dsimp only at hSw); go_simp; (try with_reducible rfl))); (try simp only [Act.put, List.setIfInBounds_toArray, List.set_cons_zero, List.set_cons_succ])); (refine held_yes (v := ?_) 17 rfl (by kernel_rfl) (by kernel_rfl) (by kernel_rfl) (fun _ _ _ h => h) (by rfl) (by assumption) ?_ ?_; rotate_left; (focus ((intro w hSw); (try dsimp only at hSw); go_simp; (try with_reducible rfl))); (try simp only [Act.put, List.setIfInBounds_toArray, List.set_cons_zero, List.set_cons_succ])); (refine held_yes (v := ?_) 18 rfl (by kernel_rfl) (by kernel_rfl) (by kernel_rfl) (fun _ _ _ h => h) (by rfl) (by assumption) ?_ ?_; rotate_left; (focus ((intro w hSw); (try dsimp only at hSw); go_simp; (try with_reducible rfl))); (try simp only [Act.put, List.setIfInBounds_toArray, List.set_cons_zero, List.set_cons_succ]))
              (refine held_call 19 rfl (by kernel_rfl) (fun K hK => ?_); go_simp)
              go_at_call 221; refine (HA1.out _ HMd.out.a.f).mono ?_; rintro e wq ⟨rfl, rfl⟩
              (refine hK.out _ _ ⟨HMd.out.a.b.kk.1 0, HMd.out.a.b.mm.1 0, HMd.out.a.b.mm.1 2, Fd.out.1, Rd.out.1⟩ (fun hHeld => ?_); clear hK K; (try simp only [Act.put, List.setIfInBounds_toArray, List.set_cons_zero, List.set_cons_succ]))
              refine wpAnyH_done (by kernel_rfl) ?_ _
              go_wp2_with fail
              exact ⟨⟨n + 1, fs', qv', st' + 1, by omega, by go_num, HMd, HG, HJ, HLA, Lib.hid (by have := HS.out; omega)⟩, by simp [intOf]; omega⟩
          · simp at hk3
        · have HJA := Lib.hid (show ∀ j (hj : j < V.length), (V[j].a.toNat, q3) ∈ fs → (V[j].h.toNat, x) ∈ fs' from fun j hj => HJV.out j hj (by omega))
          go_wp2
          go_end0
          refine ⟨rfl, fs', qv', st', ⟨HM.out.a, HK0.out.trans HM.out.kp (fun _ _ h => h), ?_⟩, HG.out, ⟨?_, ?_, ?_, ?_⟩, ?_⟩
          · rcases HM.out.qn with h | ⟨y, hy, hl⟩
            · exact .inl h
            · exact .inr ⟨y, hy, Nat.le_trans HK0.out.size hl⟩
          · intro r hr hk2 hra
            obtain ⟨j, hj, e⟩ := HIN.out r hr (by omega) (.inl hra)
            have := (HJ.out j hj).incl
            rw [e] at this
            exact this hk2
          · intro r hr hk4 hra h1 h2
            obtain ⟨j, hj, e⟩ := HIN.out r hr (by omega) (hra.elim .inl (fun h => .inr ⟨hk4, h⟩))
            have := (HJ.out j hj).both
            rw [e] at this
            exact this hk4 h1 h2
          · intro r hr hk3 hra y hy
            obtain ⟨j, hj, e⟩ := HIN.out r hr (by omega) (.inl hra)
            have := (HJ.out j hj).link
            rw [e] at this
            exact this hk3 y hy
          · intro r hr hk3 hrv h1
            obtain ⟨j, hj, e⟩ := HIV.out r hr hk3 (hrv.trans HMD.out.symm)
            have := HJA.out j hj
            rw [e] at this
            exact this (by rw [HQD.out]; exact h1)
          · have h1 := HS.out
            have h2 : B.length * (d.pr + 1) ≤ rs.length * (d.pr + 1) := Nat.mul_le_mul_right _ hBlen
            omega
end Go.Proofs.YtcmdhfccdkjenaaGreatDoor
