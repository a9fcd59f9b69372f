/- sem.maker.look. table.Right (printed by gen_tabright.py). sem.Eval. (*set.Family).List of any row; (*sem.Model).Members, Steps. -/
import Derived.Test.YtcmdhfccdkjenaaGreatDoorPart11
import Derived.Test.YtcmdhfccdkjenaaGreatDoorPart6
namespace Go.Proofs.YtcmdhfccdkjenaaGreatDoor
open Go.RowKit Go.Shelf

set_option maxRecDepth 100000 in
set_option maxHeartbeats 16000000 in
theorem mk_look {w : World} {d : MkI} {rs : List Ru} {rv : Nat → Value} {fs : List (Nat × Nat)} {k : Nat} {qv : Value} {st : Nat} (h : MkAt w d rs rv fs k qv st) (ρ x : Nat) (hf : (ρ, x) ∈ fs) (hok : ∀ r ∈ rs, okRu d.pr d.lk r = true) (hst : st ≤ 90000000000) (hrs : rs.length ≤ 100000) :
    Calls Tryz.prog 187 #[.pointer (some ⟨d.K, 0, none⟩), .agg #[.int .i64 ρ, .int .i64 x]] w fun e w' => e = .returned (.tuple #[]) ∧ ∃ fs' qv' st', MkMore w d rs rv fs k qv w' fs' qv' st' ∧ Grow d.lk rs fs fs' ∧ Looked d.lk rs (ρ, x) fs fs' ∧ st' ≤ st + rs.length * (d.pr + 1) + rs.length * 2 := by
  have HH := Lib.hid h
  have hrx := h.f.rng _ hf
  dsimp only at hrx
  obtain ⟨hρ, hx⟩ := hrx
  have p64 := h.ok.p64
  have l64 := h.ok.l64
  have hle := h.b.le
  have hlk : 0 < d.lk := Nat.pos_of_ne_zero (fun e => by unfold MkI.n at hρ; rw [e] at hρ; omega)
  have hnn : d.n ≤ 64 * 64 := Nat.mul_le_mul p64 l64
  obtain ⟨w1, hw1⟩ : ∃ V, V = w.alloc (.cells #[.int .i64 ρ, .int .i64 x] 200) := ⟨_, rfl⟩
  have hb1 : Below w.heap.size w w1 := by rw [hw1]; exact (Below.refl _ _).alloc (Nat.le_refl _) _
  have H1 := Lib.hid (MkMore.start h |>.below hb1)
  have F1 := Lib.hid (show Blk w1 w.heap.size #[.int .i64 ρ, .int .i64 x] by rw [hw1]; exact Blk.new _ _ _)
  have hbfX : ¬ mkX d qv w.heap.size := mkX_far h (by omega) (fun e => by have := (h.qge w.heap.size e).2; omega)
  have hown := h.b.own ρ (by omega)
  obtain ⟨ro, rc, hrv⟩ := own_form hown
  have HBL := Lib.hid (show rowL d.n rs ρ = byR rs ρ from if_pos hρ)
  have hBlen := rowL_len d.n rs ρ
  have hrowX : ∀ g, (rv ρ).ownBlock = some g → ¬ mkX d qv g := fun g hg => mkX_far h (hown.lt g hg).1 (h.b.qa ρ (by omega) g hg)
  rw [HBL.out] at hown hBlen hrv
  clear HBL
  generalize hB : byR rs ρ = B at *
  have HB := Lib.hid hB
  clear hB
  rw [hrv] at hown hrowX
  have HOW := Lib.hid hown
  have HRX := Lib.hid hrowX
  have HBX := Lib.hid hbfX
  clear hbfX
  clear hown hrowX
  obtain ⟨mv, hmd⟩ : ∃ m, m = ρ % d.lk := ⟨_, rfl⟩
  obtain ⟨q3, hqd⟩ : ∃ q, q = ρ / d.lk := ⟨_, rfl⟩
  have hmv : mv < d.lk := by rw [hmd]; exact Nat.mod_lt _ hlk
  have HQM := Lib.hid (show q3 * d.lk + mv = ρ by rw [hqd, hmd, Nat.mul_comm]; exact Nat.div_add_mod _ _)
  have hownV := h.b.own (d.n + mv) (by omega)
  obtain ⟨vo, vc, hvv⟩ := own_form hownV
  have HVL := Lib.hid (show rowL d.n rs (d.n + mv) = viaR rs mv by unfold rowL; rw [if_neg (by omega), show d.n + mv - d.n = mv by omega])
  have hVlen := rowL_len d.n rs (d.n + mv)
  have hviaX : ∀ g, (rv (d.n + mv)).ownBlock = some g → ¬ mkX d qv g := fun g hg => mkX_far h (hownV.lt g hg).1 (h.b.qa (d.n + mv) (by omega) g hg)
  rw [HVL.out] at hownV hVlen hvv
  clear HVL
  generalize hV : viaR rs mv = V at *
  have HV := Lib.hid hV
  clear hV
  rw [hvv] at hownV hviaX
  have HOV := Lib.hid hownV
  have HVX := Lib.hid hviaX
  have HVR := Lib.hid hvv
  clear hownV hviaX hvv
  have HK0w := 0
  clear HK0w
  have HIN := Lib.hid (show ∀ r ∈ rs, r.k ≠ 1 → (r.a.toNat = ρ ∨ r.k = 4 ∧ r.b.toNat = ρ) → ∃ j, ∃ hj : j < B.length, B[j] = r from fun r hr hk ha => by
    have hm : r ∈ byR rs ρ := byR_mem.2 ⟨hr, hk, by
      rcases okRu_cases (hok _ hr) with ⟨_, _, rfl, _, _⟩ | ⟨h0, a0, rfl, hh, ha'⟩ | ⟨h0, a0, v0, rfl, hh, ha', hv⟩ | ⟨h0, a0, b0, rfl, hh, ha', hb⟩
      · exact absurd rfl hk
      · simp at ha ⊢; omega
      · simp at ha ⊢; omega
      · simp at ha ⊢; omega⟩
    rw [HB.out] at hm
    exact List.getElem_of_mem hm)
  have HIV := Lib.hid (show ∀ r ∈ rs, r.k = 3 → r.via.toNat = mv → ∃ j, ∃ hj : j < V.length, V[j] = r from fun r hr hk ha => by
    have hm : r ∈ viaR rs mv := viaR_mem.2 ⟨hr, hk, by
      rcases okRu_cases (hok _ hr) with ⟨_, _, rfl, _, _⟩ | ⟨h0, a0, rfl, hh, ha'⟩ | ⟨h0, a0, v0, rfl, hh, ha', hv⟩ | ⟨h0, a0, b0, rfl, hh, ha', hb⟩
      · simp at hk
      · simp at hk
      · simp at ha ⊢; omega
      · simp at hk⟩
    rw [HV.out] at hm
    exact List.getElem_of_mem hm)
  have hlk0 : ((d.lk : Int) == 0) = false := by rw [beq_eq_false_iff_ne]; omega
  have hlk1 : ¬ (d.lk : Int) = 0 := by omega
  have hlk2 : ¬ d.lk = 0 := by omega
  have hd1 : (ρ : Int).tmod (d.lk : Int) = (mv : Int) := by rw [Int.tmod_eq_emod_of_nonneg (by omega), hmd, Int.natCast_emod]
  have hd2 : (ρ : Int) % (d.lk : Int) = (mv : Int) := by rw [hmd, Int.natCast_emod]
  have hd3 : (ρ : Int).tdiv (d.lk : Int) = (q3 : Int) := by rw [Int.tdiv_eq_ediv_of_nonneg (by omega), hqd, Int.natCast_ediv]
  have hd4 : (ρ : Int) / (d.lk : Int) = (q3 : Int) := by rw [hqd, Int.natCast_ediv]
  have hd5 : IntKind.i64.wrap (mv : Int) = (mv : Int) := Go.IntWalk.i64_in _ (by omega)
  have hq3l : q3 ≤ ρ := by rw [hqd]; exact Nat.div_le_self _ _
  have hd6 : IntKind.i64.wrap (q3 : Int) = (q3 : Int) := Go.IntWalk.i64_in _ (by omega)
  have HMD := Lib.hid hmd
  have HQD := Lib.hid hqd
  clear hmd hqd
  have BYc : ∀ W, Below w.heap.size w W → W.cell? ⟨d.BY, ρ, none⟩ = some (.slice ro B.length rc) := fun W hb => by
    have := (h.b.by_.below hb).1 ρ
    rw [arrOf_get, if_pos hρ, hrv] at this
    exact this
  have BYC := Lib.hid BYc
  clear BYc h
  go_enter Tryz.func187, Tryz.ntmps187
  go_wp2_with fail
  rw [← hw1]
  have hb1d : Below w.heap.size w w1.drew := hb1.trans ((below_drew (Below.refl _ _)).mono hb1.size)
  have H1 := Lib.hid (H1.out.below (below_drew (Below.refl _ _)))
  have F1 := Lib.hid (F1.out.below (below_drew (Below.refl _ _)))
  refine wp_region_held_drew (S := (fun W => (∀ o, W.cell? ⟨d.K, o, none⟩ = (#[.pointer (some ⟨d.M, 0, none⟩), .slice (some ⟨d.BY, 0, none⟩) d.n d.n, .slice (some ⟨d.VIA, 0, none⟩) d.lk d.lk, qv] : Array Value)[o]?) ∧ (∀ o, W.cell? ⟨w.heap.size, o, none⟩ = (#[.int .i64 ρ, .int .i64 x] : Array Value)[o]?) ∧ W.cell? ⟨d.BY, ρ, none⟩ = some (.slice ro B.length rc))) (by kernel_rfl) ⟨H1.out.a.b.kk.1, F1.out.1, BYC.out _ hb1d⟩ (fun hHeld => ?_)
  obtain ⟨wk, hwk⟩ : ∃ W, W = w1.drew := ⟨_, rfl⟩
  rw [← hwk] at H1 F1 hHeld hb1d ⊢
  clear hwk hw1
  (refine hyes 0 ?_); (refine hyes 1 ?_); (refine hyes 2 ?_); (refine hyes 3 ?_); (refine hyes 4 ?_); (refine hyes 5 ?_); (refine hyes 6 ?_); (refine hyes 7 ?_); (refine hyes 8 ?_); (refine hyes 9 ?_); (try simp only [Act.put, List.setIfInBounds_toArray, List.set])
  refine wpAnyH_done (by kernel_rfl) ?_ _
  have HOW := Lib.hid (own_below HOW.out hb1d)
  have HOV := Lib.hid (own_below HOV.out hb1d)
  have HK0 := Lib.hid (Kp.of_below (X := mkX d qv) hb1d)
  clear hHeld
  go_wp2_with fail
  go_loopw [17] (fun i wr => ∃ (n : Nat) (fs' : List (Nat × Nat)) (qv' : Value) (st' : Nat), n ≤ B.length ∧ i = .int .i64 n ∧ Hid (MkMore wk d rs rv fs k qv wr fs' qv' st') ∧ Hid (Grow d.lk rs fs fs') ∧ Hid (∀ j (hj : j < B.length), j < n → LookA d.lk (ρ, x) fs fs' B[j]) ∧ Hid (st' ≤ st + n * (d.pr + 1))) (fun i _ => B.length - (intOf i).toNat)
  case atStart => exact ⟨0, fs, qv, st, by omega, rfl, Lib.hid (MkMore.start H1.out.a), Lib.hid (Grow.refl _ _ _), Lib.hid (fun j hj h => absurd h (by omega)), Lib.hid (by omega)⟩
  case round =>
    obtain ⟨n, fs', qv', st', hn, rfl, HM, HG, HJ, HS⟩ := hrel
    by_cases hlt : n < B.length
    · obtain ⟨b1, o1, c1, he1, hc1, hm1, hb1, hx1⟩ := (Sl.of_own HOW.out).pos (by omega)
      simp only [Value.slice.injEq, true_and] at he1
      obtain ⟨rfl, rfl⟩ := he1
      have hkb := HM.out.kp.block b1 hb1 (HRX.out b1 rfl)
      obtain ⟨p0, p1, p2, p3, p4, p5⟩ := ru_cell (w := wr) (fun j u hu => (World.cell?_of_block (a := ⟨b1, o1 + j, none⟩) hkb).trans (hx1 j u hu)) n hlt
      have hbr : b1 < wr.heap.size := Nat.lt_of_lt_of_le hb1 HM.out.kp.size
      have hmem : B[n] ∈ byR rs ρ := by have h1 := List.getElem_mem hlt; have h2 := HB.out; exact h2 ▸ h1
      obtain ⟨hmr, hk1, hka⟩ := byR_mem.1 hmem
      have hst2 : st' + 1 ≤ 100000000000 := by
        have h1 := HS.out
        have h2 : n * (d.pr + 1) ≤ 100000 * 65 := Nat.mul_le_mul (by omega) (by omega)
        omega
      have HJ2 : Hid (∀ fs2, Grow d.lk rs fs' fs2 → LookA d.lk (ρ, x) fs fs2 B[n] → ∀ j (hj : j < B.length), j < n + 1 → LookA d.lk (ρ, x) fs fs2 B[j]) := Lib.hid (fun fs2 hg hl j hj hjn => by
        by_cases e : j = n
        · subst e; exact hl
        · exact (HJ.out j hj (by omega)).mono hg.sub)
      have hcases := okRu_cases (hok _ hmr)
      clear hx1 hkb hmem
      generalize B[n] = r at *
      have HLK := Lib.hid (fun hl => HJ2.out fs' (Grow.refl _ _ _) hl)
      obtain ⟨ck, fk, zk⟩ := HM.out.a.b.kk
      obtain ⟨cm, fm, zm⟩ := HM.out.a.b.mm
      have hMK : d.M < d.K := HM.out.a.ok.o4
      have hMC : d.M < wr.heap.size := zm
      have hfc := (HM.out.kp.blk F1.out HBX.out)
      obtain ⟨cf, ff, zf⟩ := hfc
      have hstw : IntKind.i64.wrap ((st' : Int) + 1) = (st' : Int) + 1 := Go.IntWalk.i64_in _ (by omega)
      have hmulS : (n + 1) * (d.pr + 1) = n * (d.pr + 1) + (d.pr + 1) := Nat.succ_mul _ _
      rcases hcases with ⟨_, _, rfl, _, _⟩ | ⟨h0, a0, rfl, hh, ha⟩ | ⟨h0, a0, v0, rfl, hh, ha, hv⟩ | ⟨h0, a0, b0, rfl, hh, ha, hb⟩
      · exact absurd rfl hk1
      · have haρ : a0 = ρ := by
          rcases hka with e | e
          · exact Int.ofNat.inj e
          · have := e.1; simp at this
        subst haρ
        clear HLK
        obtain ⟨w3, hw3⟩ : ∃ V, V = (wr.setCell ⟨d.M, 3, none⟩ (.int .i64 ((st' : Int) + 1))).alloc (.cells #[.int .i64 2, .int .i64 h0, .int .i64 0, .int .i64 a0, .int .i64 0, .int .i64 0] 196) := ⟨_, rfl⟩
        have HM3 := Lib.hid (show MkMore wk d rs rv fs k qv w3 fs' qv' (st' + 1) by rw [hw3]; exact (HM.out.steps (st' + 1)).below ((Below.refl _ _).alloc (Nat.le_refl _) _))
        have hrX : ¬ mkX d qv' wr.heap.size := mkX_far HM.out.a HM.out.a.b.le (fun e => by have := (HM.out.a.qge _ e).2; omega)
        have R3 := Lib.hid (show Blk w3 wr.heap.size #[.int .i64 2, .int .i64 h0, .int .i64 0, .int .i64 a0, .int .i64 0, .int .i64 0] by rw [hw3]; have := Blk.new (wr.setCell ⟨d.M, 3, none⟩ (.int .i64 ((st' : Int) + 1))) #[.int .i64 2, .int .i64 h0, .int .i64 0, .int .i64 a0, .int .i64 0, .int .i64 0] 196; simpa using this)
        have F3 := Lib.hid (HM3.out.kp.blk F1.out HBX.out)
        have AD := Lib.hid (mk_add HM3.out.a h0 x hh hx (by omega))
        have HGA := Lib.hid (Grow.add (lk := d.lk) (rs := rs) (fs := fs') (r := h0) (c := x) (fun E hE h => hE.incl _ hmr rfl x (h _ (HG.out.sub _ hf))))
        have HLA := Lib.hid (show LookA d.lk (a0, x) fs (addF fs' h0 x) ⟨2, h0, 0, a0, 0, 0⟩ from ⟨fun _ => addF_mem _ _ _, (fun e => by simp at e), (fun e => by simp at e)⟩)
        go_wp2_with fail
        rw [← hw3]
        clear hw3 ck fk zk cm fm zm cf ff zf
        refine AD.out.mono ?_
        rintro e w4 ⟨rfl, qv2, hmm⟩
        have HM4 := Lib.hid (HM3.out.trans hmm)
        clear hmm AD
        go_wp2_with fail
        exact ⟨⟨n + 1, _, qv2, st' + 1 + 1, by omega, by go_num, HM4, Lib.hid (HG.out.trans HGA.out), Lib.hid (HJ2.out _ HGA.out HLA.out), Lib.hid (by have := HS.out; omega)⟩, by simp [intOf]; omega⟩
      · have haρ : a0 = ρ := by
          rcases hka with e | e
          · exact Int.ofNat.inj e
          · have := e.1; simp at this
        subst haρ
        clear HLK
        obtain ⟨q1, hq1⟩ : ∃ q, q = x * d.lk := ⟨_, rfl⟩
        obtain ⟨q2, hq2⟩ : ∃ q, q = q1 + v0 := ⟨_, rfl⟩
        have hq2n : q2 < d.n := by
          have h1 : (x + 1) * d.lk ≤ d.pr * d.lk := Nat.mul_le_mul_right _ hx
          rw [Nat.succ_mul, ← hq1] at h1
          unfold MkI.n
          omega
        have hw1' : IntKind.i64.wrap ((x : Int) * (d.lk : Int)) = (q1 : Int) := by rw [hq1, Int.natCast_mul]; exact Go.IntWalk.i64_in _ (by rw [← Int.natCast_mul, ← hq1]; omega)
        have hw2' : IntKind.i64.wrap ((q1 : Int) + (v0 : Int)) = (q2 : Int) := by rw [hq2, Int.natCast_add]; exact Go.IntWalk.i64_in _ (by omega)
        obtain ⟨w3, hw3⟩ : ∃ V, V = (wr.setCell ⟨d.M, 3, none⟩ (.int .i64 ((st' : Int) + 1))).alloc (.cells #[.int .i64 3, .int .i64 h0, .int .i64 0, .int .i64 a0, .int .i64 0, .int .i64 v0] 196) := ⟨_, rfl⟩
        have HM3 := Lib.hid (show MkMore wk d rs rv fs k qv w3 fs' qv' (st' + 1) by rw [hw3]; exact (HM.out.steps (st' + 1)).below ((Below.refl _ _).alloc (Nat.le_refl _) _))
        have hrX : ¬ mkX d qv' wr.heap.size := mkX_far HM.out.a HM.out.a.b.le (fun e => by have := (HM.out.a.qge _ e).2; omega)
        have R3 := Lib.hid (show Blk w3 wr.heap.size #[.int .i64 3, .int .i64 h0, .int .i64 0, .int .i64 a0, .int .i64 0, .int .i64 v0] by rw [hw3]; have := Blk.new (wr.setCell ⟨d.M, 3, none⟩ (.int .i64 ((st' : Int) + 1))) #[.int .i64 3, .int .i64 h0, .int .i64 0, .int .i64 a0, .int .i64 0, .int .i64 v0] 196; simpa using this)
        have F3 := Lib.hid (HM3.out.kp.blk F1.out HBX.out)
        have HLA := Lib.hid (fun fs2 (ha2 : AllOf fs' q2 h0 (colsOf fs' q2) fs2) => show LookA d.lk (a0, x) fs fs2 ⟨3, h0, 0, a0, 0, v0⟩ from ⟨(fun e => by simp at e), (fun e => by simp at e), fun _ y hy => ha2.all y (colsOf_mem.2 ⟨by have := (HH.out.f.rng _ hy).2; dsimp only at this; omega, by rw [hq2, hq1]; exact HG.out.sub _ hy⟩)⟩)
        have HGA := Lib.hid (fun fs2 (ha2 : AllOf fs' q2 h0 (colsOf fs' q2) fs2) => Grow.all (lk := d.lk) (rs := rs) ha2 (fun E hE h c hc => hE.link _ hmr rfl x c (by simp only [Int.toNat_natCast]; exact h _ (HG.out.sub _ hf)) (by simp only [Int.toNat_natCast]; rw [← hq1, ← hq2]; exact h _ hc)))
        have HCL := Lib.hid (colsOf_le HM.out.a.f.rng q2)
        go_wp2_with fail
        rw [← hw3]
        clear hw3 ck fk zk cm fm zm cf ff zf
        have hbd : Below w3.heap.size w3 w3.drew := below_drew (Below.refl _ _)
        have HMd := Lib.hid (HM3.out.below hbd)
        have Fd := Lib.hid (F3.out.below hbd)
        have Rd := Lib.hid (R3.out.below hbd)
        clear hbd HM3 F3 R3
        refine wp_region_held_drew (S := (fun W => W.cell? ⟨d.K, 0, none⟩ = some (.pointer (some ⟨d.M, 0, none⟩)) ∧ W.cell? ⟨d.M, 2, none⟩ = some (.int .i64 d.lk) ∧ (∀ o, W.cell? ⟨w.heap.size, o, none⟩ = (#[.int .i64 a0, .int .i64 x] : Array Value)[o]?) ∧ (∀ o, W.cell? ⟨wr.heap.size, o, none⟩ = (#[.int .i64 3, .int .i64 h0, .int .i64 0, .int .i64 a0, .int .i64 0, .int .i64 v0] : Array Value)[o]?))) (by kernel_rfl) ⟨HMd.out.a.b.kk.1 0, HMd.out.a.b.mm.1 2, Fd.out.1, Rd.out.1⟩ (fun hHeld => ?_)
        obtain ⟨wd, hwd⟩ : ∃ W, W = w3.drew := ⟨_, rfl⟩
        rw [← hwd] at HMd Fd Rd hHeld ⊢
        clear hwd
        have AL := Lib.hid (mk_all HMd.out.a q2 h0 hq2n hh (by omega))
        clear hq1 hq2
        (refine hyes 0 ?_); (refine hyes 1 ?_); (refine hyes 2 ?_); (refine hyes 3 ?_); (refine hyes 4 ?_); (refine hyes 5 ?_); (refine hyes 6 ?_); (refine hyes 7 ?_); (refine hyes 8 ?_); (refine hyes 9 ?_); (refine hyes 10 ?_); (refine hyes 11 ?_); (refine hyes 12 ?_); (refine hyes 13 ?_); (refine hyes 14 ?_); (refine hyes 15 ?_); (try simp only [Act.put, List.setIfInBounds_toArray, List.set])
        (refine held_call 16 rfl (by kernel_rfl) (fun K hK => ?_); go_simp)
        go_at_call 220; refine AL.out.mono ?_; rintro e w5 ⟨rfl, fs2, qv2, st2, hmm, ha2, hs2⟩; have HM5 := Lib.hid (HMd.out.trans hmm); have F5 := Lib.hid (HM5.out.kp.blk F1.out HBX.out); have R5 := Lib.hid (hmm.kp.blk Rd.out hrX)
        (refine hK.out _ _ ⟨HM5.out.a.b.kk.1 0, HM5.out.a.b.mm.1 2, F5.out.1, R5.out.1⟩ (fun hHeld => ?_); clear hK K; (try simp only [Act.put, List.setIfInBounds_toArray, List.set]))
        refine wpAnyH_done (by kernel_rfl) ?_ _
        have HGA2 := Lib.hid (HGA.out fs2 ha2)
        have HLA2 := Lib.hid (HLA.out fs2 ha2)
        have hcl := HCL.out
        clear hmm AL ha2 HGA HLA HMd Fd Rd
        go_wp2_with fail
        exact ⟨⟨n + 1, fs2, qv2, st2, by omega, by go_num, HM5, Lib.hid (HG.out.trans HGA2.out), Lib.hid (HJ2.out _ HGA2.out HLA2.out), Lib.hid (by have := HS.out; omega)⟩, by simp [intOf]; omega⟩
      · have HA1 := Lib.hid (fun W (h : FamAt W d.F d.W0 d.g0 d.n d.pr fs') => by have := fam_Has h (a0 : Int) (x : Int); rw [hasF_nat] at this; exact this)
        have HA2 := Lib.hid (fun W (h : FamAt W d.F d.W0 d.g0 d.n d.pr fs') => by have := fam_Has h (b0 : Int) (x : Int); rw [hasF_nat] at this; exact this)
        obtain ⟨w3, hw3⟩ : ∃ V, V = (wr.setCell ⟨d.M, 3, none⟩ (.int .i64 ((st' : Int) + 1))).alloc (.cells #[.int .i64 4, .int .i64 h0, .int .i64 0, .int .i64 a0, .int .i64 b0, .int .i64 0] 196) := ⟨_, rfl⟩
        have HM3 := Lib.hid (show MkMore wk d rs rv fs k qv w3 fs' qv' (st' + 1) by rw [hw3]; exact (HM.out.steps (st' + 1)).below ((Below.refl _ _).alloc (Nat.le_refl _) _))
        have hrX : ¬ mkX d qv' wr.heap.size := mkX_far HM.out.a HM.out.a.b.le (fun e => by have := (HM.out.a.qge _ e).2; omega)
        have R3 := Lib.hid (show Blk w3 wr.heap.size #[.int .i64 4, .int .i64 h0, .int .i64 0, .int .i64 a0, .int .i64 b0, .int .i64 0] by rw [hw3]; have := Blk.new (wr.setCell ⟨d.M, 3, none⟩ (.int .i64 ((st' : Int) + 1))) #[.int .i64 4, .int .i64 h0, .int .i64 0, .int .i64 a0, .int .i64 b0, .int .i64 0] 196; simpa using this)
        have F3 := Lib.hid (HM3.out.kp.blk F1.out HBX.out)
        go_wp2_with fail
        rw [← hw3]
        clear hw3 ck fk zk cm fm zm cf ff zf
        have hbd : Below w3.heap.size w3 w3.drew := below_drew (Below.refl _ _)
        have HMd := Lib.hid (HM3.out.below hbd)
        have Fd := Lib.hid (F3.out.below hbd)
        have Rd := Lib.hid (R3.out.below hbd)
        clear hbd HM3 F3 R3
        refine wp_region_held_drew (S := (fun W => W.cell? ⟨d.K, 0, none⟩ = some (.pointer (some ⟨d.M, 0, none⟩)) ∧ W.cell? ⟨d.M, 0, none⟩ = some (.pointer (some ⟨d.F, 0, none⟩)) ∧ (∀ o, W.cell? ⟨w.heap.size, o, none⟩ = (#[.int .i64 ρ, .int .i64 x] : Array Value)[o]?) ∧ (∀ o, W.cell? ⟨wr.heap.size, o, none⟩ = (#[.int .i64 4, .int .i64 h0, .int .i64 0, .int .i64 a0, .int .i64 b0, .int .i64 0] : Array Value)[o]?))) (by kernel_rfl) ⟨HMd.out.a.b.kk.1 0, HMd.out.a.b.mm.1 0, Fd.out.1, Rd.out.1⟩ (fun hHeld => ?_)
        obtain ⟨wd, hwd⟩ : ∃ W, W = w3.drew := ⟨_, rfl⟩
        rw [← hwd] at HMd Fd Rd hHeld ⊢
        clear hwd
        by_cases m1 : (a0, x) ∈ fs'
        · rw [decide_eq_true m1] at HA1
          by_cases m2 : (b0, x) ∈ fs'
          · rw [decide_eq_true m2] at HA2
            have AD := Lib.hid (mk_add HMd.out.a h0 x hh hx (by omega))
            have HGA := Lib.hid (Grow.add (lk := d.lk) (rs := rs) (fs := fs') (r := h0) (c := x) (fun E hE h => hE.both _ hmr rfl x (h _ m1) (h _ m2)))
            have HLA := Lib.hid (show LookA d.lk (ρ, x) fs (addF fs' h0 x) ⟨4, h0, 0, a0, b0, 0⟩ from ⟨(fun e => by simp at e), fun _ _ _ => addF_mem _ _ _, (fun e => by simp at e)⟩)
            clear m1 m2 HLK
            (refine hyes 0 ?_); (refine hyes 1 ?_); (refine hyes 2 ?_); (refine hyes 3 ?_); (refine hyes 4 ?_); (refine hyes 5 ?_); (refine hyes 6 ?_); (refine hyes 7 ?_); (refine hyes 8 ?_); (refine hyes 9 ?_); (refine hyes 10 ?_); (try simp only [Act.put, List.setIfInBounds_toArray, List.set])
            (refine held_call 11 rfl (by kernel_rfl) (fun K hK => ?_); go_simp)
            go_at_call 221; refine (HA1.out _ HMd.out.a.f).mono ?_; rintro e wq ⟨rfl, rfl⟩
            (refine hK.out _ _ ⟨HMd.out.a.b.kk.1 0, HMd.out.a.b.mm.1 0, Fd.out.1, Rd.out.1⟩ (fun hHeld => ?_); clear hK K; (try simp only [Act.put, List.setIfInBounds_toArray, List.set]))
            (refine hyes 12 ?_); (refine hyes 13 ?_); (refine hyes 14 ?_); (refine hyes 15 ?_); (refine hyes 16 ?_); (refine hyes 17 ?_); (refine hyes 18 ?_); (refine hyes 19 ?_); (refine hyes 20 ?_); (refine hyes 21 ?_); (refine hyes 22 ?_); (refine hyes 23 ?_); (try simp only [Act.put, List.setIfInBounds_toArray, List.set])
            (refine held_call 24 rfl (by kernel_rfl) (fun K hK => ?_); go_simp)
            go_at_call 221; refine (HA2.out _ HMd.out.a.f).mono ?_; rintro e wq ⟨rfl, rfl⟩
            (refine hK.out _ _ ⟨HMd.out.a.b.kk.1 0, HMd.out.a.b.mm.1 0, Fd.out.1, Rd.out.1⟩ (fun hHeld => ?_); clear hK K; (try simp only [Act.put, List.setIfInBounds_toArray, List.set]))
            (refine hyes 25 ?_); (try simp only [Act.put, List.setIfInBounds_toArray, List.set])
            refine wpAnyH_done (by kernel_rfl) ?_ _
            obtain ⟨cf, ff, zf⟩ := Fd.out
            obtain ⟨cr, fr, zr⟩ := Rd.out
            clear ff fr hHeld
            go_wp2_with fail
            clear cf zf cr zr
            refine AD.out.mono ?_
            rintro e w4 ⟨rfl, qv2, hmm⟩
            have HM4 := Lib.hid (HMd.out.trans hmm)
            clear hmm AD
            go_wp2_with fail
            exact ⟨⟨n + 1, _, qv2, st' + 1 + 1, by omega, by go_num, HM4, Lib.hid (HG.out.trans HGA.out), Lib.hid (HJ2.out _ HGA.out HLA.out), Lib.hid (by have := HS.out; omega)⟩, by simp [intOf]; omega⟩
          · rw [decide_eq_false m2] at HA2
            have HLA := Lib.hid (show LookA d.lk (ρ, x) fs fs' ⟨4, h0, 0, a0, b0, 0⟩ from ⟨(fun e => by simp at e), fun _ _ hb => absurd (HG.out.sub _ hb) m2, (fun e => by simp at e)⟩)
            clear m1 m2
            (refine hyes 0 ?_); (refine hyes 1 ?_); (refine hyes 2 ?_); (refine hyes 3 ?_); (refine hyes 4 ?_); (refine hyes 5 ?_); (refine hyes 6 ?_); (refine hyes 7 ?_); (refine hyes 8 ?_); (refine hyes 9 ?_); (refine hyes 10 ?_); (try simp only [Act.put, List.setIfInBounds_toArray, List.set])
            (refine held_call 11 rfl (by kernel_rfl) (fun K hK => ?_); go_simp)
            go_at_call 221; refine (HA1.out _ HMd.out.a.f).mono ?_; rintro e wq ⟨rfl, rfl⟩
            (refine hK.out _ _ ⟨HMd.out.a.b.kk.1 0, HMd.out.a.b.mm.1 0, Fd.out.1, Rd.out.1⟩ (fun hHeld => ?_); clear hK K; (try simp only [Act.put, List.setIfInBounds_toArray, List.set]))
            (refine hyes 12 ?_); (refine hyes 13 ?_); (refine hyes 14 ?_); (refine hyes 15 ?_); (refine hyes 16 ?_); (refine hyes 17 ?_); (refine hyes 18 ?_); (refine hyes 19 ?_); (refine hyes 20 ?_); (refine hyes 21 ?_); (refine hyes 22 ?_); (refine hyes 23 ?_); (try simp only [Act.put, List.setIfInBounds_toArray, List.set])
            (refine held_call 24 rfl (by kernel_rfl) (fun K hK => ?_); go_simp)
            go_at_call 221; refine (HA2.out _ HMd.out.a.f).mono ?_; rintro e wq ⟨rfl, rfl⟩
            (refine hK.out _ _ ⟨HMd.out.a.b.kk.1 0, HMd.out.a.b.mm.1 0, Fd.out.1, Rd.out.1⟩ (fun hHeld => ?_); clear hK K; (try simp only [Act.put, List.setIfInBounds_toArray, List.set]))
            (refine hyes 25 ?_); (try simp only [Act.put, List.setIfInBounds_toArray, List.set])
            refine wpAnyH_done (by kernel_rfl) ?_ _
            go_wp2_with fail
            exact ⟨⟨n + 1, fs', qv', st' + 1, by omega, by go_num, HMd, HG, Lib.hid (HLK.out HLA.out), Lib.hid (by have := HS.out; omega)⟩, by simp [intOf]; omega⟩
        · rw [decide_eq_false m1] at HA1
          have HLA := Lib.hid (show LookA d.lk (ρ, x) fs fs' ⟨4, h0, 0, a0, b0, 0⟩ from ⟨(fun e => by simp at e), fun _ ha _ => absurd (HG.out.sub _ ha) m1, (fun e => by simp at e)⟩)
          clear m1
          (refine hyes 0 ?_); (refine hyes 1 ?_); (refine hyes 2 ?_); (refine hyes 3 ?_); (refine hyes 4 ?_); (refine hyes 5 ?_); (refine hyes 6 ?_); (refine hyes 7 ?_); (refine hyes 8 ?_); (refine hyes 9 ?_); (refine hyes 10 ?_); (try simp only [Act.put, List.setIfInBounds_toArray, List.set])
          (refine held_call 11 rfl (by kernel_rfl) (fun K hK => ?_); go_simp)
          go_at_call 221; refine (HA1.out _ HMd.out.a.f).mono ?_; rintro e wq ⟨rfl, rfl⟩
          (refine hK.out _ _ ⟨HMd.out.a.b.kk.1 0, HMd.out.a.b.mm.1 0, Fd.out.1, Rd.out.1⟩ (fun hHeld => ?_); clear hK K; (try simp only [Act.put, List.setIfInBounds_toArray, List.set]))
          (refine hyes 12 ?_); (try simp only [Act.put, List.setIfInBounds_toArray, List.set])
          (refine hno 13 ?_); (refine hno 14 ?_); (refine hno 15 ?_); (refine hno 16 ?_); (refine hno 17 ?_); (refine hno 18 ?_); (refine hno 19 ?_); (refine hno 20 ?_); (refine hno 21 ?_); (refine hno 22 ?_); (refine hno 23 ?_); (refine hno 24 ?_); (try simp only [Act.put, List.setIfInBounds_toArray, List.set])
          (refine hyes 25 ?_); (try simp only [Act.put, List.setIfInBounds_toArray, List.set])
          refine wpAnyH_done (by kernel_rfl) ?_ _
          go_wp2_with fail
          exact ⟨⟨n + 1, fs', qv', st' + 1, by omega, by go_num, HMd, HG, Lib.hid (HLK.out HLA.out), Lib.hid (by have := HS.out; omega)⟩, by simp [intOf]; omega⟩
    · have HLB := Lib.hid (show ∀ j (hj : j < B.length), LookA d.lk (ρ, x) fs fs' B[j] from fun j hj => HJ.out j hj (by omega))
      have HS1 := Lib.hid (show st' ≤ st + B.length * (d.pr + 1) by have h1 := HS.out; have h2 : n = B.length := (by omega); rw [h2] at h1; exact h1)
      have hbd : Below wr.heap.size wr wr.drew := below_drew (Below.refl _ _)
      have hVc : wr.drew.cell? ⟨d.VIA, mv, none⟩ = some (.slice vo V.length vc) := by
        have := (HM.out.a.b.via.below hbd).1 mv
        rw [arrOf_get, if_pos hmv, HVR.out] at this
        exact this
      have HMd := Lib.hid (HM.out.below hbd)
      have Fd := Lib.hid ((HM.out.kp.blk F1.out HBX.out).below hbd)
      clear hbd HJ HS
      go_wp2_with fail
      refine wp_region_held_drew (S := (fun W => (∀ o, W.cell? ⟨d.K, o, none⟩ = (#[.pointer (some ⟨d.M, 0, none⟩), .slice (some ⟨d.BY, 0, none⟩) d.n d.n, .slice (some ⟨d.VIA, 0, none⟩) d.lk d.lk, qv'] : Array Value)[o]?) ∧ W.cell? ⟨d.M, 2, none⟩ = some (.int .i64 d.lk) ∧ (∀ o, W.cell? ⟨w.heap.size, o, none⟩ = (#[.int .i64 ρ, .int .i64 x] : Array Value)[o]?) ∧ W.cell? ⟨d.VIA, mv, none⟩ = some (.slice vo V.length vc))) (by kernel_rfl) ⟨HMd.out.a.b.kk.1, HMd.out.a.b.mm.1 2, Fd.out.1, hVc⟩ (fun hHeld => ?_)
      obtain ⟨wd, hwd⟩ : ∃ W, W = wr.drew := ⟨_, rfl⟩
      rw [← hwd] at HMd Fd hHeld hVc ⊢
      clear hwd HM hlt hn
      (refine hyes 0 ?_); (refine hyes 1 ?_); (refine hyes 2 ?_); (refine hyes 3 ?_); (refine hyes 4 ?_); (refine hyes 5 ?_); (refine hyes 6 ?_); (refine hyes 7 ?_); (refine hyes 8 ?_); (refine hyes 9 ?_); (refine hyes 10 ?_); (refine hyes 11 ?_); (refine hyes 12 ?_); (refine hyes 13 ?_); (refine hyes 14 ?_); (refine hyes 15 ?_); (refine hyes 16 ?_); (refine hyes 17 ?_); (try simp only [Act.put, List.setIfInBounds_toArray, List.set])
      refine wpAnyH_done (by kernel_rfl) ?_ _
      clear hVc
      go_wp2_with fail
      go_loopw [112] (fun i wr => ∃ (n : Nat) (fs2 : List (Nat × Nat)) (qv2 : Value) (st2 : Nat), n ≤ V.length ∧ i = .int .i64 n ∧ Hid (MkMore wk d rs rv fs k qv wr fs2 qv2 st2) ∧ Hid (Grow d.lk rs fs fs2) ∧ Hid (∀ j (hj : j < B.length), LookA d.lk (ρ, x) fs fs2 B[j]) ∧ Hid (∀ j (hj : j < V.length), j < n → (V[j].a.toNat, q3) ∈ fs → (V[j].h.toNat, x) ∈ fs2) ∧ Hid (st2 ≤ st + B.length * (d.pr + 1) + n * 2)) (fun i _ => V.length - (intOf i).toNat)
      case atStart => exact ⟨0, fs', qv', st', by omega, rfl, HMd, HG, HLB, Lib.hid (fun j hj h => absurd h (by omega)), Lib.hid (by have := HS1.out; omega)⟩
      case round =>
        clear HMd Fd HG HLB HS1
        obtain ⟨n, fs', qv', st', hn, rfl, HM, HG, HJ, HJV, HS⟩ := hrel
        by_cases hlt : n < V.length
        · obtain ⟨b1, o1, c1, he1, hc1, hm1, hb1, hx1⟩ := (Sl.of_own HOV.out).pos (by omega)
          simp only [Value.slice.injEq, true_and] at he1
          obtain ⟨rfl, rfl⟩ := he1
          have hkb := HM.out.kp.block b1 hb1 (HVX.out b1 rfl)
          obtain ⟨p0, p1, p2, p3, p4, p5⟩ := ru_cell (w := wr) (fun j u hu => (World.cell?_of_block (a := ⟨b1, o1 + j, none⟩) hkb).trans (hx1 j u hu)) n hlt
          have hbr : b1 < wr.heap.size := Nat.lt_of_lt_of_le hb1 HM.out.kp.size
          have hmem : V[n] ∈ viaR rs mv := by have h1 := List.getElem_mem hlt; have h2 := HV.out; exact h2 ▸ h1
          obtain ⟨hmr, hk3, hvia⟩ := viaR_mem.1 hmem
          have hst2 : st' + 1 ≤ 100000000000 := by
            have h1 := HS.out
            have h2 : B.length * (d.pr + 1) ≤ 100000 * 65 := Nat.mul_le_mul (by omega) (by omega)
            omega
          have HJ2 : Hid (∀ fs2, Grow d.lk rs fs' fs2 → ((V[n].a.toNat, q3) ∈ fs → (V[n].h.toNat, x) ∈ fs2) → ∀ j (hj : j < V.length), j < n + 1 → (V[j].a.toNat, q3) ∈ fs → (V[j].h.toNat, x) ∈ fs2) := Lib.hid (fun fs2 hg hl j hj hjn hin => by
            by_cases e : j = n
            · subst e; exact hl hin
            · exact hg.sub _ (HJV.out j hj (by omega) hin))
          have hcases := okRu_cases (hok _ hmr)
          clear hx1 hkb hmem
          generalize V[n] = r at *
          obtain ⟨ck, fk, zk⟩ := HM.out.a.b.kk
          obtain ⟨cm, fm, zm⟩ := HM.out.a.b.mm
          have hMK : d.M < d.K := HM.out.a.ok.o4
          have hMC : d.M < wr.heap.size := zm
          obtain ⟨cf, ff, zf⟩ := (HM.out.kp.blk F1.out HBX.out)
          have hstw : IntKind.i64.wrap ((st' : Int) + 1) = (st' : Int) + 1 := Go.IntWalk.i64_in _ (by omega)
          rcases hcases with ⟨_, _, rfl, _, _⟩ | ⟨h0, a0, rfl, hh, ha⟩ | ⟨h0, a0, v0, rfl, hh, ha, hv⟩ | ⟨h0, a0, b0, rfl, hh, ha, hb⟩
          · simp at hk3
          · simp at hk3
          · have hv0 := Lib.hid (show v0 = mv from Int.ofNat.inj hvia)
            clear hvia hk3
            have HA1 := Lib.hid (fun W (h : FamAt W d.F d.W0 d.g0 d.n d.pr fs') => by have := fam_Has h (a0 : Int) (q3 : Int); rw [hasF_nat] at this; exact this)
            obtain ⟨w3, hw3⟩ : ∃ V, V = (wr.setCell ⟨d.M, 3, none⟩ (.int .i64 ((st' : Int) + 1))).alloc (.cells #[.int .i64 3, .int .i64 h0, .int .i64 0, .int .i64 a0, .int .i64 0, .int .i64 v0] 196) := ⟨_, rfl⟩
            have HM3 := Lib.hid (show MkMore wk d rs rv fs k qv w3 fs' qv' (st' + 1) by rw [hw3]; exact (HM.out.steps (st' + 1)).below ((Below.refl _ _).alloc (Nat.le_refl _) _))
            have hrX : ¬ mkX d qv' wr.heap.size := mkX_far HM.out.a HM.out.a.b.le (fun e => by have := (HM.out.a.qge _ e).2; omega)
            have R3 := Lib.hid (show Blk w3 wr.heap.size #[.int .i64 3, .int .i64 h0, .int .i64 0, .int .i64 a0, .int .i64 0, .int .i64 v0] by rw [hw3]; have := Blk.new (wr.setCell ⟨d.M, 3, none⟩ (.int .i64 ((st' : Int) + 1))) #[.int .i64 3, .int .i64 h0, .int .i64 0, .int .i64 a0, .int .i64 0, .int .i64 v0] 196; simpa using this)
            have F3 := Lib.hid (HM3.out.kp.blk F1.out HBX.out)
            go_wp2_with fail
            rw [← hw3]
            clear hw3 ck fk zk cm fm zm cf ff zf
            have hbd : Below w3.heap.size w3 w3.drew := below_drew (Below.refl _ _)
            have HMd := Lib.hid (HM3.out.below hbd)
            have Fd := Lib.hid (F3.out.below hbd)
            have Rd := Lib.hid (R3.out.below hbd)
            clear hbd HM3 F3 R3
            refine wp_region_held_drew (S := (fun W => W.cell? ⟨d.K, 0, none⟩ = some (.pointer (some ⟨d.M, 0, none⟩)) ∧ W.cell? ⟨d.M, 0, none⟩ = some (.pointer (some ⟨d.F, 0, none⟩)) ∧ W.cell? ⟨d.M, 2, none⟩ = some (.int .i64 d.lk) ∧ (∀ o, W.cell? ⟨w.heap.size, o, none⟩ = (#[.int .i64 ρ, .int .i64 x] : Array Value)[o]?) ∧ (∀ o, W.cell? ⟨wr.heap.size, o, none⟩ = (#[.int .i64 3, .int .i64 h0, .int .i64 0, .int .i64 a0, .int .i64 0, .int .i64 v0] : Array Value)[o]?))) (by kernel_rfl) ⟨HMd.out.a.b.kk.1 0, HMd.out.a.b.mm.1 0, HMd.out.a.b.mm.1 2, Fd.out.1, Rd.out.1⟩ (fun hHeld => ?_)
            obtain ⟨wd, hwd⟩ : ∃ W, W = w3.drew := ⟨_, rfl⟩
            rw [← hwd] at HMd Fd Rd hHeld ⊢
            clear hwd
            by_cases m1 : (a0, q3) ∈ fs'
            · rw [decide_eq_true m1] at HA1
              have AD := Lib.hid (mk_add HMd.out.a h0 x hh hx (by omega))
              have HGA := Lib.hid (Grow.add (lk := d.lk) (rs := rs) (fs := fs') (r := h0) (c := x) (fun E hE h => hE.link _ hmr rfl q3 x (h _ m1) (by simp only [Int.toNat_natCast]; rw [hv0.out, HQM.out]; exact h _ (HG.out.sub _ hf))))
              clear m1
              (refine hyes 0 ?_); (refine hyes 1 ?_); (refine hyes 2 ?_); (refine hyes 3 ?_); (refine hyes 4 ?_); (refine hyes 5 ?_); (refine hyes 6 ?_); (refine hyes 7 ?_); (refine hyes 8 ?_); (refine hyes 9 ?_); (refine hyes 10 ?_); (refine hyes 11 ?_); (refine hyes 12 ?_); (refine hyes 13 ?_); (refine hyes 14 ?_); (refine hyes 15 ?_); (refine hyes 16 ?_); (refine hyes 17 ?_); (refine hyes 18 ?_); (try simp only [Act.put, List.setIfInBounds_toArray, List.set])
              (refine held_call 19 rfl (by kernel_rfl) (fun K hK => ?_); go_simp)
              go_at_call 221; refine (HA1.out _ HMd.out.a.f).mono ?_; rintro e wq ⟨rfl, rfl⟩
              (refine hK.out _ _ ⟨HMd.out.a.b.kk.1 0, HMd.out.a.b.mm.1 0, HMd.out.a.b.mm.1 2, Fd.out.1, Rd.out.1⟩ (fun hHeld => ?_); clear hK K; (try simp only [Act.put, List.setIfInBounds_toArray, List.set]))
              refine wpAnyH_done (by kernel_rfl) ?_ _
              obtain ⟨cf, ff, zf⟩ := Fd.out
              obtain ⟨cr, fr, zr⟩ := Rd.out
              clear ff fr hHeld
              go_wp2_with fail
              clear cf zf cr zr
              refine AD.out.mono ?_
              rintro e w4 ⟨rfl, qv2, hmm⟩
              have HM4 := Lib.hid (HMd.out.trans hmm)
              clear hmm AD
              go_wp2_with fail
              exact ⟨⟨n + 1, _, qv2, st' + 1 + 1, by omega, by go_num, HM4, Lib.hid (HG.out.trans HGA.out), Lib.hid (fun j hj => (HJ.out j hj).mono HGA.out.sub), Lib.hid (HJ2.out _ HGA.out (fun _ => addF_mem _ _ _)), Lib.hid (by have := HS.out; omega)⟩, by simp [intOf]; omega⟩
            · rw [decide_eq_false m1] at HA1
              have HLA := Lib.hid (HJ2.out fs' (Grow.refl _ _ _) (fun hin => absurd (HG.out.sub _ hin) m1))
              clear m1
              (refine hyes 0 ?_); (refine hyes 1 ?_); (refine hyes 2 ?_); (refine hyes 3 ?_); (refine hyes 4 ?_); (refine hyes 5 ?_); (refine hyes 6 ?_); (refine hyes 7 ?_); (refine hyes 8 ?_); (refine hyes 9 ?_); (refine hyes 10 ?_); (refine hyes 11 ?_); (refine hyes 12 ?_); (refine hyes 13 ?_); (refine hyes 14 ?_); (refine hyes 15 ?_); (refine hyes 16 ?_); (refine hyes 17 ?_); (refine hyes 18 ?_); (try simp only [Act.put, List.setIfInBounds_toArray, List.set])
              (refine held_call 19 rfl (by kernel_rfl) (fun K hK => ?_); go_simp)
              go_at_call 221; refine (HA1.out _ HMd.out.a.f).mono ?_; rintro e wq ⟨rfl, rfl⟩
              (refine hK.out _ _ ⟨HMd.out.a.b.kk.1 0, HMd.out.a.b.mm.1 0, HMd.out.a.b.mm.1 2, Fd.out.1, Rd.out.1⟩ (fun hHeld => ?_); clear hK K; (try simp only [Act.put, List.setIfInBounds_toArray, List.set]))
              refine wpAnyH_done (by kernel_rfl) ?_ _
              go_wp2_with fail
              exact ⟨⟨n + 1, fs', qv', st' + 1, by omega, by go_num, HMd, HG, HJ, HLA, Lib.hid (by have := HS.out; omega)⟩, by simp [intOf]; omega⟩
          · simp at hk3
        · have HJA := Lib.hid (show ∀ j (hj : j < V.length), (V[j].a.toNat, q3) ∈ fs → (V[j].h.toNat, x) ∈ fs' from fun j hj => HJV.out j hj (by omega))
          go_wp2
          go_end0
          refine ⟨rfl, fs', qv', st', ⟨HM.out.a, HK0.out.trans HM.out.kp (fun _ _ h => h), ?_⟩, HG.out, ⟨?_, ?_, ?_, ?_⟩, ?_⟩
          · rcases HM.out.qn with h | ⟨y, hy, hl⟩
            · exact .inl h
            · exact .inr ⟨y, hy, Nat.le_trans HK0.out.size hl⟩
          · intro r hr hk2 hra
            obtain ⟨j, hj, e⟩ := HIN.out r hr (by omega) (.inl hra)
            have := (HJ.out j hj).incl
            rw [e] at this
            exact this hk2
          · intro r hr hk4 hra h1 h2
            obtain ⟨j, hj, e⟩ := HIN.out r hr (by omega) (hra.elim .inl (fun h => .inr ⟨hk4, h⟩))
            have := (HJ.out j hj).both
            rw [e] at this
            exact this hk4 h1 h2
          · intro r hr hk3 hra y hy
            obtain ⟨j, hj, e⟩ := HIN.out r hr (by omega) (.inl hra)
            have := (HJ.out j hj).link
            rw [e] at this
            exact this hk3 y hy
          · intro r hr hk3 hrv h1
            obtain ⟨j, hj, e⟩ := HIV.out r hr hk3 (hrv.trans HMD.out.symm)
            have := HJA.out j hj
            rw [e] at this
            exact this (by rw [HQD.out]; exact h1)
          · have h1 := HS.out
            have h2 : B.length * (d.pr + 1) ≤ rs.length * (d.pr + 1) := Nat.mul_le_mul_right _ hBlen
            omega
end Go.Proofs.YtcmdhfccdkjenaaGreatDoor
namespace Go.Proofs.YtcmdhfccdkjenaaGreatDoor
open Go.RowKit Go.Shelf

set_option maxRecDepth 100000 in
set_option maxHeartbeats 4000000 in
theorem right_role (g g' p l : Nat) (i : Int) (w : World) (c0 : w.cell? ⟨g, 0, none⟩ = some (.int .i64 p)) (c1 : w.cell? ⟨g', 0, none⟩ = some (.int .i64 l)) (hp : p ≤ 1000) (hl : l ≤ 1000) :
    Calls Tryz.prog 218 #[.int .i64 i, .pointer (some ⟨g, 0, none⟩), .pointer (some ⟨g', 0, none⟩)] w fun e w' => e = .returned (.bool (inR (p * l) i)) ∧ w' = w := by
  have hmul : p * l ≤ 1000 * 1000 := Nat.mul_le_mul hp hl
  have wr1 : IntKind.i64.wrap ((p : Int) * (l : Int)) = (p : Int) * (l : Int) := Go.IntWalk.i64_in _ (by rw [← Int.natCast_mul]; omega)
  have R := Lib.hid (show inR (p * l) i = (decide (0 ≤ i) && decide (i < (p : Int) * (l : Int))) by unfold inR; rw [← Int.natCast_mul]; simp)
  by_cases h0 : 0 ≤ i
  · by_cases h1 : i < (p : Int) * (l : Int)
    · go_enter Tryz.func218, Tryz.ntmps218
      go_wp2
      go_ret
      exact ⟨by rw [R.out]; simp [h0, h1], rfl⟩
    · go_enter Tryz.func218, Tryz.ntmps218
      go_wp2
      go_ret
      exact ⟨by rw [R.out]; simp [h0, h1], rfl⟩
  · have hd := Lib.hid (decide_eq_false h0)
    go_enter Tryz.func218, Tryz.ntmps218
    go_wp2
    go_ret
    exact ⟨by rw [R.out, hd.out]; rfl, rfl⟩
structure RightAt (w : World) (p l : Int) (A B : Array Value) (wx : World) : Prop where
  p : Blk wx w.heap.size #[.int .i64 p]
  l : Blk wx (w.heap.size + 1) #[.int .i64 l]
  a : Blk wx (w.heap.size + 1 + 1) A
  b : Blk wx (w.heap.size + 1 + 1 + 1) B
  low : Below w.heap.size w wx
theorem RightAt.put {w wx : World} {p l : Int} {A B C : Array Value} {o : Nat} {v : Value} (h : RightAt w p l A B wx) (ho : o < B.size) (hC : B.setIfInBounds o v = C) : RightAt w p l A C (wx.setCell ⟨w.heap.size + 1 + 1 + 1, o, none⟩ v) :=
  ⟨h.p.far (by omega), h.l.far (by omega), h.a.far (by omega), by rw [← hC]; exact h.b.put (o := o) (v := v) ho, below_put h.low (by omega)⟩
theorem RightAt.drew {w wx : World} {p l : Int} {A B : Array Value} (h : RightAt w p l A B wx) : RightAt w p l A B wx.drew :=
  have hb : Below wx.heap.size wx wx.drew := below_drew (Below.refl _ _)
  ⟨h.p.below hb, h.l.below hb, h.a.below hb, h.b.below hb, h.low.trans (hb.mono h.low.size)⟩
theorem RightAt.new (w : World) (p l : Int) (A B : Array Value) (t u : TypeId) : RightAt w p l A B ((((w.alloc (.cells #[.int .i64 p] t)).alloc (.cells #[.int .i64 l] t)).alloc (.cells A u)).alloc (.cells B u)) :=
  ⟨(((Blk.new w _ t).alloc _).alloc _).alloc _,
   by have := (((Blk.new (w.alloc (.cells #[.int .i64 p] t)) #[.int .i64 l] t).alloc (.cells A u)).alloc (.cells B u)); simpa using this,
   by have := ((Blk.new ((w.alloc (.cells #[.int .i64 p] t)).alloc (.cells #[.int .i64 l] t)) A u).alloc (.cells B u)); simpa using this,
   by have := (Blk.new (((w.alloc (.cells #[.int .i64 p] t)).alloc (.cells #[.int .i64 l] t)).alloc (.cells A u)) B u); simpa using this,
   ((((Below.refl _ _).alloc (Nat.le_refl _) _).alloc (by simp) _).alloc (by simp; omega) _).alloc (by simp; omega) _⟩
section
variable {p l : Nat} {rh who ra rb via : Int}
theorem okRu_1 (hp : p ≤ 1000) (hl : l ≤ 1000) : okRu p l ⟨1, rh, who, ra, rb, via⟩ = (inR (p * l) rh && (eqRu ⟨1, rh, who, ra, rb, via⟩ ⟨1, rh, who, 0, 0, 0⟩ && (decide (0 ≤ who) && decide (who < (p : Int))))) := by
  unfold okRu; rw [decide_eq_true hp, decide_eq_true hl]; simp [eqRu, inR]
theorem okRu_2 (hp : p ≤ 1000) (hl : l ≤ 1000) : okRu p l ⟨2, rh, who, ra, rb, via⟩ = (inR (p * l) rh && (eqRu ⟨2, rh, who, ra, rb, via⟩ ⟨2, rh, 0, ra, 0, 0⟩ && inR (p * l) ra)) := by
  unfold okRu; rw [decide_eq_true hp, decide_eq_true hl]; simp [eqRu]
theorem okRu_3 (hp : p ≤ 1000) (hl : l ≤ 1000) : okRu p l ⟨3, rh, who, ra, rb, via⟩ = (inR (p * l) rh && (eqRu ⟨3, rh, who, ra, rb, via⟩ ⟨3, rh, 0, ra, 0, via⟩ && (inR (p * l) ra && (decide (0 ≤ via) && decide (via < (l : Int)))))) := by
  unfold okRu; rw [decide_eq_true hp, decide_eq_true hl]; simp [eqRu, inR, Bool.and_assoc]
theorem okRu_4 (hp : p ≤ 1000) (hl : l ≤ 1000) : okRu p l ⟨4, rh, who, ra, rb, via⟩ = (inR (p * l) rh && (inR (p * l) rb && (eqRu ⟨4, rh, who, ra, rb, via⟩ ⟨4, rh, 0, ra, rb, 0⟩ && inR (p * l) ra))) := by
  unfold okRu; rw [decide_eq_true hp, decide_eq_true hl]; simp [eqRu, Bool.and_assoc, Bool.and_left_comm, Bool.and_comm]
theorem okRu_0 {k : Int} (h1 : ¬ k = 1) (h2 : ¬ k = 2) (h3 : ¬ k = 3) (h4 : ¬ k = 4) : okRu p l ⟨k, rh, who, ra, rb, via⟩ = false := by
  unfold okRu; simp [h1, h2, h3, h4]
end
set_option maxRecDepth 100000 in
set_option maxHeartbeats 16000000 in
theorem table_Right (p l : Nat) (r : Ru) (w : World) (hp : p ≤ 1000) (hl : l ≤ 1000) :
    Calls Tryz.prog 185 #[.int .i64 p, .int .i64 l, ruv r] w fun e w' => e = .returned (.bool (okRu p l r)) ∧ Below w.heap.size w w' := by
  obtain ⟨k, rh, who, ra, rb, via⟩ := r
  have t1 : decide ((p : Int) < 0) = false := by rw [decide_eq_false_iff_not]; omega
  have t2 : decide ((l : Int) < 0) = false := by rw [decide_eq_false_iff_not]; omega
  have t3 : decide (1000 < (p : Int)) = false := by rw [decide_eq_false_iff_not]; omega
  have t4 : decide (1000 < (l : Int)) = false := by rw [decide_eq_false_iff_not]; omega
  have R1 := Lib.hid (okRu_1 (rh := rh) (who := who) (ra := ra) (rb := rb) (via := via) hp hl)
  have R2 := Lib.hid (okRu_2 (rh := rh) (who := who) (ra := ra) (rb := rb) (via := via) hp hl)
  have R3 := Lib.hid (okRu_3 (rh := rh) (who := who) (ra := ra) (rb := rb) (via := via) hp hl)
  have R4 := Lib.hid (okRu_4 (rh := rh) (who := who) (ra := ra) (rb := rb) (via := via) hp hl)
  have R0 := Lib.hid (@okRu_0 p l rh who ra rb via k)
  have RO := Lib.hid (fun (A B : Array Value) W (h : RightAt w p l A B W) => right_role w.heap.size (w.heap.size + 1) p l rh W (h.p.1 0) (h.l.1 0) hp hl)
  have RA := Lib.hid (fun (A B : Array Value) W (h : RightAt w p l A B W) => right_role w.heap.size (w.heap.size + 1) p l ra W (h.p.1 0) (h.l.1 0) hp hl)
  have RB := Lib.hid (fun (A B : Array Value) W (h : RightAt w p l A B W) => right_role w.heap.size (w.heap.size + 1) p l rb W (h.p.1 0) (h.l.1 0) hp hl)
  have HT := Lib.hid (RightAt.new w p l #[.int .i64 k, .int .i64 rh, .int .i64 who, .int .i64 ra, .int .i64 rb, .int .i64 via] #[.int .i64 k, .int .i64 rh, .int .i64 0, .int .i64 0, .int .i64 0, .int .i64 0] 3 196)
  clear hp hl
  generalize inR (p * l) rh = ok at RO R1 R2 R3 R4
  generalize inR (p * l) ra = oa at RA R2 R3 R4
  generalize inR (p * l) rb = ob at RB R4
  go_enter Tryz.func185, Tryz.ntmps185
  go_wp2_with fail
  obtain ⟨w1, hw1⟩ : ∃ V, V = (((w.alloc (.cells #[.int .i64 p] 3)).alloc (.cells #[.int .i64 l] 3)).alloc (.cells #[.int .i64 k, .int .i64 rh, .int .i64 who, .int .i64 ra, .int .i64 rb, .int .i64 via] 196)).alloc (.cells #[.int .i64 k, .int .i64 rh, .int .i64 0, .int .i64 0, .int .i64 0, .int .i64 0] 196) := ⟨_, rfl⟩
  rw [← hw1] at HT ⊢
  clear hw1 t1 t2 t3 t4
  refine (RO.out _ _ _ HT.out).mono ?_
  rintro e wx ⟨rfl, rfl⟩
  obtain ⟨cp, fp, zp⟩ := HT.out.p
  obtain ⟨cl, fl, zl⟩ := HT.out.l
  obtain ⟨ca, fa, za⟩ := HT.out.a
  obtain ⟨cb, fb, zb⟩ := HT.out.b
  by_cases hk : k = 1
  · skip
    subst hk
    go_upto_region 12 with fail
    clear cp fp zp cl fl zl ca fa za cb fb zb
    generalize hw : wx.setCell ⟨w.heap.size + 1 + 1 + 1, 2, none⟩ (.int .i64 who) = wp1
    have HT := Lib.hid (show RightAt w p l #[.int .i64 1, .int .i64 rh, .int .i64 who, .int .i64 ra, .int .i64 rb, .int .i64 via] #[.int .i64 1, .int .i64 rh, .int .i64 who, .int .i64 0, .int .i64 0, .int .i64 0] wp1 by rw [← hw]; exact HT.out.put (o := 2) (v := .int .i64 who) (by simp) (by simp))
    clear hw
    obtain ⟨cp, fp, zp⟩ := HT.out.p
    obtain ⟨cl, fl, zl⟩ := HT.out.l
    obtain ⟨ca, fa, za⟩ := HT.out.a
    obtain ⟨cb, fb, zb⟩ := HT.out.b
    have HE : ∀ W, (binOp .eql 196 (.agg #[.int .i64 1, .int .i64 rh, .int .i64 who, .int .i64 ra, .int .i64 rb, .int .i64 via]) (.agg #[.int .i64 1, .int .i64 rh, .int .i64 who, .int .i64 0, .int .i64 0, .int .i64 0])).run Tryz.prog W = .ok (.bool (eqRu ⟨1, rh, who, ra, rb, via⟩ ⟨1, rh, who, 0, 0, 0⟩)) W := fun W => rule_eql 1 rh who ra rb via 1 rh who 0 0 0 W
    generalize eqRu ⟨1, rh, who, ra, rb, via⟩ ⟨1, rh, who, 0, 0, 0⟩ = ee at HE R1
    cases ok with
    | false =>
      go_wp2
      go_ret
      exact ⟨by rw [R1.out]; rfl, HT.out.low⟩
    | true =>
      cases ee with
      | false =>
        go_wp2
        go_ret
        exact ⟨by rw [R1.out]; rfl, HT.out.low⟩
      | true =>
        by_cases h0 : 0 ≤ who
        · skip
          have hd : decide (0 ≤ who) = true := decide_eq_true h0
          by_cases h1 : who < (p : Int)
          · skip
            have hd2 : decide (who < (p : Int)) = true := decide_eq_true h1
            go_wp2
            go_ret
            exact ⟨by rw [R1.out, hd, hd2]; rfl, HT.out.low⟩
          · skip
            have hd2 : decide (who < (p : Int)) = false := decide_eq_false h1
            go_wp2
            go_ret
            exact ⟨by rw [R1.out, hd, hd2]; rfl, HT.out.low⟩
        · skip
          have hd : decide (0 ≤ who) = false := decide_eq_false h0
          go_wp2
          go_ret
          exact ⟨by rw [R1.out, hd]; rfl, HT.out.low⟩
  have n1 := hk
  clear hk
  by_cases hk : k = 2
  · skip
    subst hk
    go_upto_region 16 with fail
    clear cp fp zp cl fl zl ca fa za cb fb zb
    generalize hw : wx.setCell ⟨w.heap.size + 1 + 1 + 1, 3, none⟩ (.int .i64 ra) = wp2
    have HT := Lib.hid (show RightAt w p l #[.int .i64 2, .int .i64 rh, .int .i64 who, .int .i64 ra, .int .i64 rb, .int .i64 via] #[.int .i64 2, .int .i64 rh, .int .i64 0, .int .i64 ra, .int .i64 0, .int .i64 0] wp2 by rw [← hw]; exact HT.out.put (o := 3) (v := .int .i64 ra) (by simp) (by simp))
    clear hw
    obtain ⟨cp, fp, zp⟩ := HT.out.p
    obtain ⟨cl, fl, zl⟩ := HT.out.l
    obtain ⟨ca, fa, za⟩ := HT.out.a
    obtain ⟨cb, fb, zb⟩ := HT.out.b
    have HE : ∀ W, (binOp .eql 196 (.agg #[.int .i64 2, .int .i64 rh, .int .i64 who, .int .i64 ra, .int .i64 rb, .int .i64 via]) (.agg #[.int .i64 2, .int .i64 rh, .int .i64 0, .int .i64 ra, .int .i64 0, .int .i64 0])).run Tryz.prog W = .ok (.bool (eqRu ⟨2, rh, who, ra, rb, via⟩ ⟨2, rh, 0, ra, 0, 0⟩)) W := fun W => rule_eql 2 rh who ra rb via 2 rh 0 ra 0 0 W
    generalize eqRu ⟨2, rh, who, ra, rb, via⟩ ⟨2, rh, 0, ra, 0, 0⟩ = ee at HE R2
    cases ok with
    | false =>
      go_wp2
      go_ret
      exact ⟨by rw [R2.out]; rfl, HT.out.low⟩
    | true =>
      cases ee with
      | false =>
        go_wp2
        go_ret
        exact ⟨by rw [R2.out]; rfl, HT.out.low⟩
      | true =>
        go_wp2_with fail
        refine (RA.out _ _ _ HT.out).mono ?_
        rintro e wz ⟨rfl, rfl⟩
        go_wp2
        go_ret
        exact ⟨by rw [R2.out]; rfl, HT.out.low⟩
  have n2 := hk
  clear hk
  by_cases hk : k = 3
  · skip
    subst hk
    go_wp2_with fail
    clear cp fp zp cl fl zl ca fa za cb fb zb
    refine wp_region_held_drew (S := (fun W => ∀ o, W.cell? ⟨w.heap.size + 1 + 1, o, none⟩ = (#[.int .i64 3, .int .i64 rh, .int .i64 who, .int .i64 ra, .int .i64 rb, .int .i64 via] : Array Value)[o]?)) (by kernel_rfl) HT.out.drew.a.1 (fun hHeld => ?_)
    have HT := HT.out.drew
    obtain ⟨wk, hwk⟩ : ∃ W, W = wx.drew := ⟨_, rfl⟩
    rw [← hwk] at HT hHeld ⊢
    clear hwk
    (refine hyes 0 ?_); (refine hyes 1 ?_); (refine hyes 2 ?_); (refine hyes 3 ?_); (refine hyes 4 ?_); (try simp only [Act.put, List.setIfInBounds_toArray, List.set])
    obtain ⟨cb, fb, zb⟩ := HT.b
    (refine held_call 5 rfl (by kernel_rfl) (fun K hK => ?_); go_simp)
    clear cb fb zb
    generalize hw : wk.setCell ⟨w.heap.size + 1 + 1 + 1, 3, none⟩ (.int .i64 ra) = wk1
    have HT : RightAt w p l #[.int .i64 3, .int .i64 rh, .int .i64 who, .int .i64 ra, .int .i64 rb, .int .i64 via] #[.int .i64 3, .int .i64 rh, .int .i64 0, .int .i64 ra, .int .i64 0, .int .i64 0] wk1 := by rw [← hw]; exact HT.put (o := 3) (v := .int .i64 ra) (by simp) (by simp)
    clear hw
    (refine hK.out _ _ (HT.a.1) (fun hHeld => ?_); clear hK K; (try simp only [Act.put, List.setIfInBounds_toArray, List.set]))
    (refine hyes 6 ?_); (try simp only [Act.put, List.setIfInBounds_toArray, List.set])
    obtain ⟨cb, fb, zb⟩ := HT.b
    (refine held_call 7 rfl (by kernel_rfl) (fun K hK => ?_); go_simp)
    clear cb fb zb
    generalize hw : wk1.setCell ⟨w.heap.size + 1 + 1 + 1, 5, none⟩ (.int .i64 via) = wk2
    have HT : RightAt w p l #[.int .i64 3, .int .i64 rh, .int .i64 who, .int .i64 ra, .int .i64 rb, .int .i64 via] #[.int .i64 3, .int .i64 rh, .int .i64 0, .int .i64 ra, .int .i64 0, .int .i64 via] wk2 := by rw [← hw]; exact HT.put (o := 5) (v := .int .i64 via) (by simp) (by simp)
    clear hw
    (refine hK.out _ _ (HT.a.1) (fun hHeld => ?_); clear hK K; (try simp only [Act.put, List.setIfInBounds_toArray, List.set]))
    refine wpAnyH_done (by kernel_rfl) ?_ _
    have HT := Lib.hid HT
    obtain ⟨cp, fp, zp⟩ := HT.out.p
    obtain ⟨cl, fl, zl⟩ := HT.out.l
    obtain ⟨ca, fa, za⟩ := HT.out.a
    obtain ⟨cb, fb, zb⟩ := HT.out.b
    have HE : ∀ W, (binOp .eql 196 (.agg #[.int .i64 3, .int .i64 rh, .int .i64 who, .int .i64 ra, .int .i64 rb, .int .i64 via]) (.agg #[.int .i64 3, .int .i64 rh, .int .i64 0, .int .i64 ra, .int .i64 0, .int .i64 via])).run Tryz.prog W = .ok (.bool (eqRu ⟨3, rh, who, ra, rb, via⟩ ⟨3, rh, 0, ra, 0, via⟩)) W := fun W => rule_eql 3 rh who ra rb via 3 rh 0 ra 0 via W
    generalize eqRu ⟨3, rh, who, ra, rb, via⟩ ⟨3, rh, 0, ra, 0, via⟩ = ee at HE R3
    cases ok with
    | false =>
      go_wp2
      go_ret
      exact ⟨by rw [R3.out]; rfl, HT.out.low⟩
    | true =>
      cases ee with
      | false =>
        go_wp2
        go_ret
        exact ⟨by rw [R3.out]; rfl, HT.out.low⟩
      | true =>
        go_wp2_with fail
        refine (RA.out _ _ _ HT.out).mono ?_
        rintro e wz ⟨rfl, rfl⟩
        cases oa with
        | false =>
          go_wp2
          go_ret
          exact ⟨by rw [R3.out]; rfl, HT.out.low⟩
        | true =>
          by_cases h0 : 0 ≤ via
          · skip
            have hd : decide (0 ≤ via) = true := decide_eq_true h0
            by_cases h1 : via < (l : Int)
            · skip
              have hd2 : decide (via < (l : Int)) = true := decide_eq_true h1
              go_wp2
              go_ret
              exact ⟨by rw [R3.out, hd, hd2]; rfl, HT.out.low⟩
            · skip
              have hd2 : decide (via < (l : Int)) = false := decide_eq_false h1
              go_wp2
              go_ret
              exact ⟨by rw [R3.out, hd, hd2]; rfl, HT.out.low⟩
          · skip
            have hd : decide (0 ≤ via) = false := decide_eq_false h0
            go_wp2
            go_ret
            exact ⟨by rw [R3.out, hd]; rfl, HT.out.low⟩
  have n3 := hk
  clear hk
  by_cases hk : k = 4
  · skip
    subst hk
    go_upto_region 14 with fail
    clear cp fp zp cl fl zl ca fa za cb fb zb
    generalize hw : wx.setCell ⟨w.heap.size + 1 + 1 + 1, 4, none⟩ (.int .i64 rb) = wp3
    have HT := Lib.hid (show RightAt w p l #[.int .i64 4, .int .i64 rh, .int .i64 who, .int .i64 ra, .int .i64 rb, .int .i64 via] #[.int .i64 4, .int .i64 rh, .int .i64 0, .int .i64 0, .int .i64 rb, .int .i64 0] wp3 by rw [← hw]; exact HT.out.put (o := 4) (v := .int .i64 rb) (by simp) (by simp))
    clear hw
    cases ok with
    | false =>
      obtain ⟨cp, fp, zp⟩ := HT.out.p
      obtain ⟨cl, fl, zl⟩ := HT.out.l
      obtain ⟨ca, fa, za⟩ := HT.out.a
      obtain ⟨cb, fb, zb⟩ := HT.out.b
      go_upto_region 16 with fail
      clear cp fp zp cl fl zl ca fa za cb fb zb
      generalize hw : wp3.setCell ⟨w.heap.size + 1 + 1 + 1, 3, none⟩ (.int .i64 ra) = wp4
      have HT := Lib.hid (show RightAt w p l #[.int .i64 4, .int .i64 rh, .int .i64 who, .int .i64 ra, .int .i64 rb, .int .i64 via] #[.int .i64 4, .int .i64 rh, .int .i64 0, .int .i64 ra, .int .i64 rb, .int .i64 0] wp4 by rw [← hw]; exact HT.out.put (o := 3) (v := .int .i64 ra) (by simp) (by simp))
      clear hw
      obtain ⟨cp, fp, zp⟩ := HT.out.p
      obtain ⟨cl, fl, zl⟩ := HT.out.l
      obtain ⟨ca, fa, za⟩ := HT.out.a
      obtain ⟨cb, fb, zb⟩ := HT.out.b
      go_wp2
      go_ret
      exact ⟨by rw [R4.out]; rfl, HT.out.low⟩
    | true =>
      obtain ⟨cp, fp, zp⟩ := HT.out.p
      obtain ⟨cl, fl, zl⟩ := HT.out.l
      obtain ⟨ca, fa, za⟩ := HT.out.a
      obtain ⟨cb, fb, zb⟩ := HT.out.b
      go_wp2_with fail
      refine (RB.out _ _ _ HT.out).mono ?_
      rintro e wy ⟨rfl, rfl⟩
      go_upto_region 16 with fail
      clear cp fp zp cl fl zl ca fa za cb fb zb
      generalize hw : wy.setCell ⟨w.heap.size + 1 + 1 + 1, 3, none⟩ (.int .i64 ra) = wp5
      have HT := Lib.hid (show RightAt w p l #[.int .i64 4, .int .i64 rh, .int .i64 who, .int .i64 ra, .int .i64 rb, .int .i64 via] #[.int .i64 4, .int .i64 rh, .int .i64 0, .int .i64 ra, .int .i64 rb, .int .i64 0] wp5 by rw [← hw]; exact HT.out.put (o := 3) (v := .int .i64 ra) (by simp) (by simp))
      clear hw
      obtain ⟨cp, fp, zp⟩ := HT.out.p
      obtain ⟨cl, fl, zl⟩ := HT.out.l
      obtain ⟨ca, fa, za⟩ := HT.out.a
      obtain ⟨cb, fb, zb⟩ := HT.out.b
      have HE : ∀ W, (binOp .eql 196 (.agg #[.int .i64 4, .int .i64 rh, .int .i64 who, .int .i64 ra, .int .i64 rb, .int .i64 via]) (.agg #[.int .i64 4, .int .i64 rh, .int .i64 0, .int .i64 ra, .int .i64 rb, .int .i64 0])).run Tryz.prog W = .ok (.bool (eqRu ⟨4, rh, who, ra, rb, via⟩ ⟨4, rh, 0, ra, rb, 0⟩)) W := fun W => rule_eql 4 rh who ra rb via 4 rh 0 ra rb 0 W
      generalize eqRu ⟨4, rh, who, ra, rb, via⟩ ⟨4, rh, 0, ra, rb, 0⟩ = ee at HE R4
      cases ob with
      | false =>
        go_wp2
        go_ret
        exact ⟨by rw [R4.out]; rfl, HT.out.low⟩
      | true =>
        cases ee with
        | false =>
          go_wp2
          go_ret
          exact ⟨by rw [R4.out]; rfl, HT.out.low⟩
        | true =>
          go_wp2_with fail
          refine (RA.out _ _ _ HT.out).mono ?_
          rintro e wz ⟨rfl, rfl⟩
          go_wp2
          go_ret
          exact ⟨by rw [R4.out]; rfl, HT.out.low⟩
  go_wp2
  go_ret
  exact ⟨by rw [R0.out n1 n2 n3 hk]; rfl, HT.out.low⟩
end Go.Proofs.YtcmdhfccdkjenaaGreatDoor
namespace Go.Proofs.YtcmdhfccdkjenaaGreatDoor
open Go.RowKit Go.Shelf

theorem sem_within (n : Nat) (w : World) (h : n ≤ 64) : Calls Tryz.prog 183 #[.int .i64 n] w fun e w' => e = .returned (.int .i64 n) ∧ w' = w := by
  go_enter Tryz.func183, Tryz.ntmps183
  go_wp2
  go_ret
  refine ⟨?_, rfl⟩
  show Ending.returned (.int .i64 (max 0 (min (n : Int) 64))) = _
  congr 2
  omega
theorem ru_rows_info : (Tryz.prog.info? 153).map (fun i => (i.zero, i.size, i.bytes)) = some (some (.slice none 0 0), 1, 24) := by kernel_rfl
theorem MkAt.new {w : World} {d : MkI} (ok : d.ok) (hf : FamAt w d.F d.W0 d.g0 d.n d.pr []) (hm : Blk w d.M #[.pointer (some ⟨d.F, 0, none⟩), .int .i64 d.pr, .int .i64 d.lk, .int .i64 (0 : Nat)])
    (hk : Blk w d.K #[.pointer (some ⟨d.M, 0, none⟩), .slice (some ⟨d.BY, 0, none⟩) d.n d.n, .slice (some ⟨d.VIA, 0, none⟩) d.lk d.lk, .slice none 0 0]) (hb : Blk w d.BY (arrOf d.n (fun _ => .slice none 0 0))) (hv : Blk w d.VIA (arrOf d.lk (fun _ => .slice none 0 0)))
    (hC : d.C ≤ w.heap.size) (ht : TB w) : MkAt w d [] (fun _ => .slice none 0 0) [] 0 (.slice none 0 0) 0 :=
  ⟨⟨hm, hk, hb, hv, fun p _ => by
      have e : rowL d.n [] p = [] := by unfold rowL byR viaR; split <;> rfl
      rw [e]; exact World.ownsRow_nil _ _ _ _, fun p q _ _ _ g hg => by simp [Value.ownBlock] at hg, fun p _ g hg => by simp [Value.ownBlock] at hg, hC⟩, hf, .inl ⟨rfl, rfl⟩, ok, Nat.le_refl _, ht, Nat.le_refl _⟩
theorem QAt.pop {w : World} {C : Nat} {g off n cap : Nat} {f : Nat × Nat} {q : List (Nat × Nat)} (h : QAt w C (.slice (some ⟨g, off, none⟩) n cap) (f :: q)) :
    n = q.length + 1 ∧ w.cell? ⟨g, off, none⟩ = some (.int .i64 (f.1 : Int)) ∧ w.cell? ⟨g, off + 1, none⟩ = some (.int .i64 (f.2 : Int)) ∧ n ≤ cap ∧ cap ≤ maxLen ∧ QAt w C (.slice (some ⟨g, off + 2, none⟩) q.length (cap - 1)) q := by
  rcases h with ⟨h, _⟩ | ⟨g', off', cap', h, h1, h2, h3, h4, h5, h6⟩
  · cases h
  · simp only [Value.slice.injEq, Option.some.injEq, Addr.mk.injEq] at h
    obtain ⟨⟨rfl, rfl, _⟩, rfl, rfl⟩ := h
    rw [List.length_cons] at h3 ⊢
    refine ⟨rfl, h5 0 _ rfl, h5 1 _ rfl, h3, h4, .inr ⟨g, off + 2, cap - 1, rfl, h1, h2, by omega, by omega, fun j v hv => ?_, fun j hj => ?_⟩⟩
    · have := h5 (j + 2) v (by show ([Value.int .i64 (f.1 : Int), .int .i64 (f.2 : Int)] ++ qcells q)[j + 2]? = some v; rw [List.getElem?_append_right (by simp)]; simpa using hv)
      rw [show off + 2 + j = off + (j + 2) by omega]; exact this
    · have := h6 (j + 2) (by omega)
      rw [show off + 2 + j = off + (j + 2) by omega]; exact this
theorem QAt.last {w : World} {C : Nat} {g off n cap : Nat} {f : Nat × Nat} {q : List (Nat × Nat)} (h : QAt w C (.slice (some ⟨g, off, none⟩) n cap) (f :: q)) (hc : cap = 1) : QAt w C (.slice (some ⟨g, off, none⟩) q.length 0) q := by
  rcases h with ⟨h, _⟩ | ⟨g', off', cap', h, h1, h2, h3, h4, h5, h6⟩
  · cases h
  · simp only [Value.slice.injEq, Option.some.injEq, Addr.mk.injEq] at h
    obtain ⟨⟨rfl, rfl, _⟩, rfl, rfl⟩ := h
    rw [List.length_cons] at h3
    have e : q = [] := List.eq_nil_of_length_eq_zero (by omega)
    subst e
    exact .inr ⟨g, off, 0, rfl, h1, h2, Nat.le_refl _, by omega, fun j v hv => by simp [qcells] at hv, fun j hj => by omega⟩
theorem MkAt.pop {w : World} {d : MkI} {rs : List Ru} {rv : Nat → Value} {fs : List (Nat × Nat)} {k : Nat} {g off n cap : Nat} {st : Nat} (h : MkAt w d rs rv fs k (.slice (some ⟨g, off, none⟩) n cap) st) (hk : k < fs.length) (oo c2 : Nat) (ho : (oo = off + 2 ∧ c2 = cap - 1) ∨ (oo = off ∧ c2 = 0 ∧ cap = 1)) :
    MkAt (w.setCell ⟨d.K, 3, none⟩ (.slice (some ⟨g, oo, none⟩) (n - 1) c2)) d rs rv fs (k + 1) (.slice (some ⟨g, oo, none⟩) (n - 1) c2) st := by
  have hq := h.q
  rw [List.drop_eq_getElem_cons hk] at hq
  obtain ⟨hn, _, _, _, _, hq1⟩ := hq.pop
  have e : n - 1 = (fs.drop (k + 1)).length := by omega
  have hq' : QAt w d.C (.slice (some ⟨g, oo, none⟩) (n - 1) c2) (fs.drop (k + 1)) := by
    rw [e]
    rcases ho with ⟨rfl, rfl⟩ | ⟨rfl, rfl, hc⟩
    · exact hq1
    · exact hq.last hc
  have ok := h.ok
  have o0 := ok.o0; have o1 := ok.o1; have o2 := ok.o2; have o3 := ok.o3; have o4 := ok.o4; have o5 := ok.o5; have o6 := ok.o6; have o8 := ok.o8; have o9 := ok.o9
  have ks : Kp (fun b => b = d.K) w (w.setCell ⟨d.K, 3, none⟩ (.slice (some ⟨g, oo, none⟩) (n - 1) c2)) := Kp.set rfl
  have hgC := (h.qge g rfl).1
  have hgq : ∀ g', (Value.slice (some ⟨g, oo, none⟩) (n - 1) c2).ownBlock = some g' → ¬ g' = d.K := by
    intro g' hg' e2
    have e3 : g = g' := by simpa [Value.ownBlock] using hg'
    omega
  exact ⟨mkB_queue h.b ok _ (fun p hp g' hg' e => h.b.qa p hp g' hg' (by simpa [Value.ownBlock] using e)), h.f.kp ks (by omega) (by omega) (fun i hi => by omega), hq'.kp ks hgq, ok, hk, h.tb.kp ks (by omega), h.sl⟩
def leftW (N K F : Nat) (w : World) : Nat :=
  (N - (match w.cell? ⟨F, 3, none⟩ with | some (.int _ t) => t.toNat | _ => 0)) + (match w.cell? ⟨K, 3, none⟩ with | some (.slice _ n _) => n | _ => 0)
theorem leftW_at {w : World} {d : MkI} {rs : List Ru} {rv : Nat → Value} {fs : List (Nat × Nat)} {k : Nat} {qv : Value} {st : Nat} (h : MkAt w d rs rv fs k qv st) : leftW (d.n * d.pr) d.K d.F w = d.n * d.pr - k := by
  have h1 : w.cell? ⟨d.F, 3, none⟩ = some (.int .i64 (fs.length : Int)) := h.f.ff.1 3
  have h2 : w.cell? ⟨d.K, 3, none⟩ = some qv := h.b.kk.1 3
  have h3 := fam_len h.f
  have h4 := h.kl
  unfold leftW
  rw [h1, h2]
  have hq : (match some qv with | some (.slice _ n _) => n | _ => 0) = (fs.drop k).length := by
    obtain ⟨a, c, e⟩ := h.q.form
    rw [e]
  rw [hq, List.length_drop]
  show d.n * d.pr - (fs.length : Int).toNat + (fs.length - k) = _
  rw [Int.toNat_natCast]
  omega
def goodR (p l : Nat) (rules : List Ru) : List Ru := rules.filter (okRu p l)
structure ModAt (w : World) (M F W0 g0 p l : Nat) (fs : List (Nat × Nat)) (st : Nat) : Prop where
  mm : Blk w M #[.pointer (some ⟨F, 0, none⟩), .int .i64 p, .int .i64 l, .int .i64 st]
  f : FamAt w F W0 g0 (p * l) p fs
  sl : fs.length ≤ st
theorem ModAt.below {w w' : World} {M F W0 g0 p l : Nat} {fs : List (Nat × Nat)} {st : Nat} (h : ModAt w M F W0 g0 p l fs st) (hb : Below w.heap.size w w') : ModAt w' M F W0 g0 p l fs st := ⟨h.mm.below hb, h.f.below hb, h.sl⟩
theorem ev_blocks {w3 : World} {K : Nat} {m X Y : Value} {a1 a2 : Array Value} {t : TypeId} (hK : Blk w3 K #[m, .slice none 0 0, .slice none 0 0, .slice none 0 0]) :
    Blk (((((w3.setCell ⟨K, 1, none⟩ X).setCell ⟨K, 2, none⟩ Y).alloc (.cells a1 t)).alloc (.cells a2 t)).drew) K #[m, X, Y, .slice none 0 0] ∧ Blk (((((w3.setCell ⟨K, 1, none⟩ X).setCell ⟨K, 2, none⟩ Y).alloc (.cells a1 t)).alloc (.cells a2 t)).drew) w3.heap.size a1 ∧
    Blk (((((w3.setCell ⟨K, 1, none⟩ X).setCell ⟨K, 2, none⟩ Y).alloc (.cells a1 t)).alloc (.cells a2 t)).drew) (w3.heap.size + 1) a2 ∧ Below K w3 (((((w3.setCell ⟨K, 1, none⟩ X).setCell ⟨K, 2, none⟩ Y).alloc (.cells a1 t)).alloc (.cells a2 t)).drew) := by
  have h1 : Blk ((w3.setCell ⟨K, 1, none⟩ X).setCell ⟨K, 2, none⟩ Y) K #[m, X, Y, .slice none 0 0] := by simpa using (hK.put (o := 1) (v := X) (by simp)).put (o := 2) (v := Y) (by simp)
  have hs : ((w3.setCell ⟨K, 1, none⟩ X).setCell ⟨K, 2, none⟩ Y).heap.size = w3.heap.size := by simp [World.setCell]
  have hKl := hK.2.2
  have hb : Below K w3 ((w3.setCell ⟨K, 1, none⟩ X).setCell ⟨K, 2, none⟩ Y) := below_put (below_put (Below.refl _ _) (Nat.le_refl _)) (Nat.le_refl _)
  generalize (w3.setCell ⟨K, 1, none⟩ X).setCell ⟨K, 2, none⟩ Y = W at *
  have hd : ∀ V : World, Below V.heap.size V V.drew := fun V => below_drew (Below.refl _ _)
  refine ⟨((h1.alloc _).alloc _).below (hd _), ?_, ?_, below_drew ((hb.alloc (by omega) _).alloc (by simp; omega) _)⟩
  · rw [← hs]; exact ((Blk.new W a1 t).alloc _).below (hd _)
  · have := (Blk.new (W.alloc (.cells a1 t)) a2 t).below (hd _)
    rw [← hs]; simpa using this
theorem goodR_snoc {p l : Nat} {rules : List Ru} {k : Nat} (hk : k < rules.length) : goodR p l (rules.take (k + 1)) = goodR p l (rules.take k) ++ (if okRu p l rules[k] = true then [rules[k]] else []) := by
  unfold goodR
  rw [List.take_succ_eq_append_getElem hk, List.filter_append, List.filter_cons, List.filter_nil]
set_option maxRecDepth 100000 in
set_option maxHeartbeats 16000000 in
theorem sem_Eval (p l : Nat) (vr : Value) (rules : List Ru) (w : World) (hp : p ≤ 64) (hl : l ≤ 64) (hr : SlA w 6 vr rules.length (rules.flatMap Ru.cells)) (hn : rules.length ≤ 5000) (ht : TB w) :
    Calls Tryz.prog 141 #[.int .i64 p, .int .i64 l, vr] w fun e w' => ∃ M F W0 g0 fs st, e = .returned (.pointer (some ⟨M, 0, none⟩)) ∧ ModAt w' M F W0 g0 p l fs st ∧ LeastN l (goodR p l rules) (fun r x => (r, x) ∈ fs) ∧ st ≤ 2 * rules.length + fs.length * (rules.length * (p + 3)) ∧ Below w.heap.size w w' := by
  have W1 := Lib.hid (fun W => sem_within p W hp)
  have W2 := Lib.hid (fun W => sem_within l W hl)
  have HR := Lib.hid hr
  have HTB := Lib.hid ht
  have hnl : p * l ≤ 64 * 64 := Nat.mul_le_mul hp hl
  have SN := Lib.hid (fun W => set_New (p * l) p W (by omega) ((Nat.eq_zero_or_pos p).elim (fun h => .inr (by rw [h, Nat.zero_mul])) .inl) hp)
  have hmk1 := fun W => run_mk 191 153 (.slice none 0 0) 24 Tryz.underlying191 ru_rows_info rfl (by decide) (p * l) (by omega) W
  have hmk2 := fun W => run_mk 191 153 (.slice none 0 0) 24 Tryz.underlying191 ru_rows_info rfl (by decide) l (by omega) W
  obtain ⟨n, hnn⟩ : ∃ n, n = p * l := ⟨_, rfl⟩
  have hwm : IntKind.i64.wrap ((p : Int) * (l : Int)) = (n : Int) := by rw [hnn, Int.natCast_mul]; exact Go.IntWalk.i64_in _ (by rw [← Int.natCast_mul]; omega)
  rw [← hnn] at SN hmk1 hnl
  have hwm2 : (p : Int) * (l : Int) = (n : Int) := by rw [hnn, Int.natCast_mul]
  have HNN := Lib.hid hnn
  clear hnn
  obtain ⟨ra, rc, rfl⟩ := hr.form
  clear hr ht
  go_enter Tryz.func141, Tryz.ntmps141
  go_wp2_with fail
  refine (W1.out _).mono ?_
  rintro e w1 ⟨rfl, rfl⟩
  go_wp2_with fail
  refine (W2.out _).mono ?_
  rintro e w1 ⟨rfl, rfl⟩
  go_wp2_with fail
  refine (SN.out _).mono ?_
  rintro e w2 ⟨F, W0, g0, rfl, hF, hb, hFge, hg0⟩
  have HF := Lib.hid hF
  have HB := Lib.hid hb
  clear hF hb SN W1 W2
  go_upto_region 3 with fail
  obtain ⟨w3, hw3⟩ : ∃ V, V = (w2.alloc (.cells #[.pointer (some ⟨F, 0, none⟩), .int .i64 p, .int .i64 l, .int .i64 0] 157)).alloc (.cells #[.pointer (some ⟨w2.heap.size, 0, none⟩), .slice none 0 0, .slice none 0 0, .slice none 0 0] 194) := ⟨_, rfl⟩
  rw [← hw3]
  have hb3 : Below w2.heap.size w2 w3 := by rw [hw3]; exact ((Below.refl _ _).alloc (Nat.le_refl _) _).alloc (by simp) _
  have hs3 : w3.heap.size = w2.heap.size + 2 := by rw [hw3]; simp
  have HM3 := Lib.hid (show Blk w3 w2.heap.size #[.pointer (some ⟨F, 0, none⟩), .int .i64 p, .int .i64 l, .int .i64 0] by rw [hw3]; exact (Blk.new _ _ _).alloc _)
  have HK3 := Lib.hid (show Blk w3 (w2.heap.size + 1) #[.pointer (some ⟨w2.heap.size, 0, none⟩), .slice none 0 0, .slice none 0 0, .slice none 0 0] by rw [hw3]; have := Blk.new (w2.alloc (.cells #[.pointer (some ⟨F, 0, none⟩), .int .i64 p, .int .i64 l, .int .i64 0] 157)) #[.pointer (some ⟨w2.heap.size, 0, none⟩), .slice none 0 0, .slice none 0 0, .slice none 0 0] 194; simpa using this)
  have HF3 := Lib.hid (HF.out.below hb3)
  have HB3 := Lib.hid (HB.out.trans (hb3.mono HB.out.size))
  clear hw3 hb3 HB HF
  obtain ⟨ck, fk, zk⟩ := HK3.out
  go_cut [] (fun wx => ∃ (BY VIA : Nat) (V : World), V = wx ∧ Hid (BY ≠ VIA ∧ w3.heap.size ≤ BY ∧ w3.heap.size ≤ VIA ∧ Below (w2.heap.size + 1) w3 V ∧ Blk V (w2.heap.size + 1) #[.pointer (some ⟨w2.heap.size, 0, none⟩), .slice (some ⟨BY, 0, none⟩) n n, .slice (some ⟨VIA, 0, none⟩) l l, .slice none 0 0] ∧ Blk V BY (arrOf n (fun _ => .slice none 0 0)) ∧ Blk V VIA (arrOf l (fun _ => .slice none 0 0))))
  case first =>
    go_region
    · go_wp2_with fail
      go_meet
      have h := ev_blocks (X := .slice (some ⟨w2.heap.size + 2, 0, none⟩) n n) (Y := .slice (some ⟨w2.heap.size + 2 + 1, 0, none⟩) l l) (a1 := arrOf n (fun _ => .slice none 0 0)) (a2 := arrOf l (fun _ => .slice none 0 0)) (t := 153) HK3.out
      rw [hs3] at h
      exact ⟨w2.heap.size + 2, w2.heap.size + 2 + 1, _, rfl, Lib.hid ⟨by omega, by omega, by omega, h.2.2.2, h.1, h.2.1, h.2.2.1⟩⟩
    · go_wp2_with fail
      go_meet
      have h := ev_blocks (X := .slice (some ⟨w2.heap.size + 2 + 1, 0, none⟩) n n) (Y := .slice (some ⟨w2.heap.size + 2, 0, none⟩) l l) (a1 := arrOf l (fun _ => .slice none 0 0)) (a2 := arrOf n (fun _ => .slice none 0 0)) (t := 153) HK3.out
      rw [hs3] at h
      exact ⟨w2.heap.size + 2 + 1, w2.heap.size + 2, _, rfl, Lib.hid ⟨by omega, by omega, by omega, h.2.2.2, h.1, h.2.2.1, h.2.1⟩⟩
  case rest =>
    obtain ⟨BY, VIA, wx, rfl, hc⟩ := hcut
    obtain ⟨c1, c2, c3, c4, c5, c6, c7⟩ := hc.out
    have h0TB := HTB.out 0 (by decide)
    have hgl : 0 < w1.heap.size := World.block_lt_of_cell? w1 _ h0TB
    have fl := HF3.out
    have fo1 := fl.o1
    have fo2 := fl.o2
    have kx : Kp (fun b => w2.heap.size + 1 ≤ b) w3 wx := ⟨c4.os, c4.tape, c4.output, c4.size, fun j _ hj => c4.block j (by omega)⟩
    have e := HNN.out
    clear hwm hwm2 hmk1 hmk2 ck fk zk
    subst e
    have hw13 : w1.heap.size ≤ w2.heap.size + 1 := by omega
    have HBx := Lib.hid (HB3.out.trans (c4.mono hw13))
    have H0 : ∃ d : MkI, d.K = w2.heap.size + 1 ∧ d.pr = p ∧ d.lk = l ∧ d.F ≥ w1.heap.size ∧ MkAt wx d [] (fun _ => .slice none 0 0) [] 0 (.slice none 0 0) 0 := by
      refine ⟨⟨wx.heap.size, w2.heap.size + 1, w2.heap.size, F, W0, g0, BY, VIA, p, l⟩, rfl, rfl, rfl, hFge, ?_⟩
      refine MkAt.new ⟨Nat.lt_of_lt_of_le hgl hFge, fo1, fo2, hg0, Nat.lt_succ_self _, (by show w2.heap.size + 1 < BY; omega), (by show w2.heap.size + 1 < VIA; omega), c1, c6.2.2, c7.2.2, hp, hl⟩ ?_ ?_ c5 c6 c7 (Nat.le_refl _) (HTB.out.below HBx.out)
      · exact fl.kp kx (by omega) (by omega) (fun i hi => by omega)
      · exact kx.blk HM3.out (by show ¬ (w2.heap.size + 1 ≤ w2.heap.size); omega)
    obtain ⟨d, hdK, hdp, hdl, hdF, hM⟩ := H0
    have HM := Lib.hid hM
    rw [← hdK]
    clear hM c1 c2 c3 c4 c5 c6 c7 hc h0TB hgl fl fo1 fo2 kx HB3 HF3 HM3 HK3 hs3 hFge hg0 hdK HNN
    subst hdp hdl
    have HR2 := Lib.hid (fun W (hb : Below w1.heap.size w1 W) => HR.out.below hb)
    have RT := Lib.hid (fun r W => table_Right d.pr d.lk r W (by omega) (by omega))
    go_wp2_with fail
    go_loopw [40] (fun i wr => ∃ (n : Nat) (rv : Nat → Value) (fs : List (Nat × Nat)) (qv : Value) (st : Nat), n ≤ rules.length ∧ i = .int .i64 n ∧ Hid (MkAt wr d (goodR d.pr d.lk (rules.take n)) rv fs 0 qv st) ∧ Hid (Below w1.heap.size w1 wr) ∧ Hid (∀ E : Nat → Nat → Prop, CloN d.lk (goodR d.pr d.lk rules) E → ∀ f ∈ fs, E f.1 f.2) ∧ Hid (∀ r ∈ goodR d.pr d.lk (rules.take n), MemP r fs) ∧ Hid (st ≤ 2 * n)) (fun i _ => rules.length - (intOf i).toNat)
    case atStart => exact ⟨0, fun _ => .slice none 0 0, [], .slice none 0 0, 0, by omega, rfl, HM, HBx, Lib.hid (fun _ _ f hf => by cases hf), Lib.hid (fun r hr => by cases hr), Lib.hid (by omega)⟩
    case round =>
      clear HM HBx
      obtain ⟨n, rv, fs, qv, st, hnle, rfl, HM, HB, HSo, HMe, HSt⟩ := hrel
      by_cases hlt : n < rules.length
      · obtain ⟨b1, o1, c1, he1, hc1, hm1, hb1, hx1⟩ := HR.out.pos (by omega)
        simp only [Value.slice.injEq, true_and] at he1
        obtain ⟨rfl, rfl⟩ := he1
        obtain ⟨p0, p1, p2, p3, p4, p5⟩ := ru_cell (w := wr) (fun j u hu => (HB.out.cell (p := ⟨b1, o1 + j, none⟩) hb1).trans (hx1 j u hu)) n hlt
        have hbr : b1 < wr.heap.size := Nat.lt_of_lt_of_le hb1 HB.out.size
        have HGS := Lib.hid (goodR_snoc (p := d.pr) (l := d.lk) hlt)
        have hmr := List.getElem_mem hlt
        clear hx1
        generalize rules[n] = r at *
        have RTr := Lib.hid (RT.out r)
        have hgl : (goodR d.pr d.lk (rules.take n)).length ≤ 100000 := by
          have h1 := List.length_filter_le (okRu d.pr d.lk) (rules.take n)
          have h2 := List.length_take_le n rules
          unfold goodR
          omega
        cases hok : okRu d.pr d.lk r with
        | false =>
          rw [hok] at RTr HGS
          have HG2 := Lib.hid (show goodR d.pr d.lk (rules.take (n + 1)) = goodR d.pr d.lk (rules.take n) by rw [HGS.out]; simp)
          obtain ⟨k0, k1, k2, k3, k4, k5⟩ := r
          clear hok HGS
          go_wp2_with fail
          refine (RTr.out _).mono ?_
          rintro e w4 ⟨rfl, hb⟩
          have hba : Below wr.heap.size wr w4 := ((Below.refl _ _).alloc (Nat.le_refl _) _).trans (hb.mono (by simp))
          have HM2 := Lib.hid (HM.out.below hba)
          have HB2 := Lib.hid (HB.out.trans (hba.mono HB.out.size))
          clear hb hba RTr
          go_wp2_with fail
          exact ⟨⟨n + 1, rv, fs, qv, st, by omega, by go_num, Lib.hid (by rw [HG2.out]; exact HM2.out), HB2, HSo, Lib.hid (by rw [HG2.out]; exact HMe.out), Lib.hid (by have := HSt.out; omega)⟩, by simp [intOf]; omega⟩
        | true =>
          rw [hok] at RTr HGS
          have HG2 := Lib.hid (show goodR d.pr d.lk (rules.take (n + 1)) = goodR d.pr d.lk (rules.take n) ++ [r] by rw [HGS.out]; simp)
          have hin : r ∈ goodR d.pr d.lk rules := List.mem_filter.2 ⟨hmr, hok⟩
          have PU := Lib.hid (fun W (h : MkAt W d (goodR d.pr d.lk (rules.take n)) rv fs 0 qv st) => mk_put h r hok (by have := HSt.out; omega) hgl (goodR d.pr d.lk rules) hin)
          clear hok HGS
          obtain ⟨k0, k1, k2, k3, k4, k5⟩ := r
          have hkk := HM.out.b.kk
          obtain ⟨w4a, hw4a⟩ : ∃ V, V = wr.alloc (.cells #[.int .i64 k0, .int .i64 k1, .int .i64 k2, .int .i64 k3, .int .i64 k4, .int .i64 k5] 196) := ⟨_, rfl⟩
          have hb4 : Below wr.heap.size wr w4a := by rw [hw4a]; exact (Below.refl _ _).alloc (Nat.le_refl _) _
          have HR4 := Lib.hid (show Blk w4a wr.heap.size #[.int .i64 k0, .int .i64 k1, .int .i64 k2, .int .i64 k3, .int .i64 k4, .int .i64 k5] by rw [hw4a]; exact Blk.new _ _ _)
          clear hkk
          go_wp2_with fail
          rw [← hw4a]
          clear hw4a
          refine (RTr.out _).mono ?_
          rintro e w5 ⟨rfl, hb⟩
          have hba : Below wr.heap.size wr w5 := hb4.trans (hb.mono hb4.size)
          have HM2 := Lib.hid (HM.out.below hba)
          have HB2 := Lib.hid (HB.out.trans (hba.mono HB.out.size))
          have HR5 := Lib.hid (HR4.out.below hb)
          clear hb hba RTr hb4 HR4 HM HB
          obtain ⟨cr, fr, zr⟩ := HR5.out
          clear fr
          go_wp2_with fail
          clear cr zr
          refine (PU.out _ HM2.out).mono ?_
          rintro e w6 ⟨rfl, rv', fs', qv', st', hM6, hb6, hg6, hm6, hs6⟩
          have HM6 := Lib.hid hM6
          have HB6 := Lib.hid (HB2.out.trans (hb6.mono hdF))
          have HSo6 := Lib.hid (fun E hE => hg6.sound E hE (HSo.out E hE))
          have HMe6 := Lib.hid (show ∀ r ∈ goodR d.pr d.lk (rules.take n) ++ [⟨k0, k1, k2, k3, k4, k5⟩], MemP r fs' from fun r hr => by
            rcases List.mem_append.1 hr with hr | hr
            · exact fun hk => hg6.sub _ (HMe.out r hr hk)
            · rw [List.mem_singleton.1 hr]; exact hm6)
          have HSt6 := Lib.hid (show st' ≤ 2 * (n + 1) by have := HSt.out; omega)
          clear hM6 hb6 hg6 hm6 hs6 PU
          go_wp2_with fail
          exact ⟨⟨n + 1, rv', fs', qv', st', by omega, by go_num, Lib.hid (by rw [HG2.out]; exact HM6.out), HB6, HSo6, Lib.hid (by rw [HG2.out]; exact HMe6.out), HSt6⟩, by simp [intOf]; omega⟩
      · have hnn : n = rules.length := by omega
        have htk : rules.take n = rules := List.take_of_length_le (by omega)
        rw [htk] at HM HMe
        have HSt0 := Lib.hid (show st ≤ 2 * rules.length by have := HSt.out; omega)
        have hgok : ∀ r ∈ goodR d.pr d.lk rules, okRu d.pr d.lk r = true := fun r hr => (List.mem_filter.1 hr).2
        have hgl : (goodR d.pr d.lk rules).length ≤ rules.length := List.length_filter_le _ _
        have HI0 := Lib.hid (show SemInv d.pr d.lk (goodR d.pr d.lk rules) fs 0 from ⟨HM.out.f.nodup, HM.out.f.rng, HSo.out, HMe.out, fun _ _ _ _ h => by simp at h, fun _ _ _ _ _ h => by simp at h, fun _ _ _ _ h => by simp at h⟩)
        obtain ⟨R, hR⟩ : ∃ R, R = goodR d.pr d.lk rules := ⟨_, rfl⟩
        rw [← hR] at HM HI0 hgok hgl
        have HRR := Lib.hid hR
        clear hR htk HSo HMe HSt
        go_wp2_with fail
        clear hlt hnle hnn
        go_loopw [] (fun wr => ∃ (fs : List (Nat × Nat)) (k : Nat) (qv : Value) (st : Nat), Hid (MkAt wr d R rv fs k qv st) ∧ Hid (SemInv d.pr d.lk R fs k) ∧ Hid (Below w1.heap.size w1 wr) ∧ Hid (st ≤ 2 * rules.length + k * (rules.length * (d.pr + 3)))) (fun wr => leftW (d.n * d.pr) d.K d.F wr)
        case atStart => exact ⟨fs, 0, qv, st, HM, HI0, HB, Lib.hid (by have := HSt0.out; omega)⟩
        case round =>
          clear HM HI0 HB HSt0
          obtain ⟨fs, k, qv, st, HM, HI, HB, HS⟩ := hrel
          have hfl := fam_len HM.out.f
          have hN : d.n * d.pr ≤ 4096 * 64 := Nat.mul_le_mul HM.out.f.r64 HM.out.f.c64
          by_cases hk : k < fs.length
          · have hqe : ∃ g off m cap, qv = .slice (some ⟨g, off, none⟩) m cap := by
              rcases HM.out.q with ⟨_, h⟩ | ⟨g, off, cap, h, _⟩
              · rw [List.drop_eq_getElem_cons hk] at h; cases h
              · exact ⟨g, off, _, cap, h⟩
            obtain ⟨g, off, m, cap, rfl⟩ := hqe
            have hq := HM.out.q
            rw [List.drop_eq_getElem_cons hk] at hq
            obtain ⟨hm, q0, q1, hmc, hcm, _⟩ := hq.pop
            have hgl2 := (HM.out.qge g rfl).2
            have hmp := fun o2 c2 ho => HM.out.pop hk o2 c2 ho
            have HMP := Lib.hid hmp
            have hfm := List.getElem_mem hk
            have HFK := Lib.hid (show ∀ fs', Looked d.lk R (fs[k].1, fs[k].2) fs fs' → Looked d.lk R fs[k] fs fs' from fun _ h => h)
            have HIS := Lib.hid (fun fs' => HI.out.step (fs' := fs') hk (fun r hr h3 => by
              rcases okRu_cases (hgok r hr) with ⟨_, _, rfl, _, _⟩ | ⟨_, _, rfl, _, _⟩ | ⟨_, _, v0, rfl, _, _, hv⟩ | ⟨_, _, _, rfl, _, _, _⟩
              · simp at h3
              · simp at h3
              · simpa using hv
              · simp at h3))
            have hst : st ≤ 90000000000 := by
              have h1 := HS.out
              have h2 : rules.length * (d.pr + 3) ≤ 5000 * 67 := Nat.mul_le_mul hn (by omega)
              have h3 : k * (rules.length * (d.pr + 3)) ≤ 262144 * (5000 * 67) := Nat.mul_le_mul (by omega) h2
              omega
            have LK := Lib.hid (fun o2 c2 W (h : MkAt W d R rv fs (k + 1) (.slice (some ⟨g, o2, none⟩) (m - 1) c2) st) => mk_look h fs[k].1 fs[k].2 hfm hgok hst (by omega))
            have hm0 : 0 < m := by omega
            have hm1 : ((m : Int) - 1) = ((m - 1 : Nat) : Int) := by omega
            have hmx : maxLen = 9223372036854775807 := by decide
            rw [hmx] at hcm
            clear hq hm hmp hmx
            obtain ⟨ck, fk, zk⟩ := HM.out.b.kk
            generalize fs[k] = f at *
            obtain ⟨ρ, x⟩ := f
            dsimp only at q0 q1 LK HFK
            have hFK : d.F ≤ d.K := by have := HM.out.ok.o4; have := HM.out.ok.o3; have := HM.out.ok.o1; have := HM.out.ok.o2; omega
            have hFs : d.F ≤ wr.heap.size := HM.out.lowF
            go_wp2_with fail
            all_goals
              first
                | have HMP := Lib.hid (HMP.out (off + 2) (cap - 1) (.inl ⟨rfl, rfl⟩)); have LK := Lib.hid (LK.out (off + 2) (cap - 1)); refine (LK.out _ (HMP.out.below ((Below.refl _ _).alloc (Nat.le_refl _) _))).mono ?_
                | have HMP := Lib.hid (HMP.out off 0 (.inr ⟨rfl, rfl, by omega⟩)); have LK := Lib.hid (LK.out off 0); refine (LK.out _ (HMP.out.below ((Below.refl _ _).alloc (Nat.le_refl _) _))).mono ?_
              rintro e w5 ⟨rfl, fs', qv', st', hmm, hg, hlo, hs⟩
              have HM5 := Lib.hid hmm.a
              have HB5 := Lib.hid (HB.out.trans ((((below_put (Below.refl _ _) hFK).alloc (by simpa using hFs) _).trans (kp_low hmm.kp (by simpa using Nat.le_succ_of_le hFs) (mkX_ge HMP.out))).mono hdF))
              have HI5 := Lib.hid (HIS.out fs' hg.pre hmm.a.f.nodup hmm.a.f.rng (fun E hE => hg.sound E hE (HI.out.sound E hE)) hlo)
              have HS5 := Lib.hid (show st' ≤ 2 * rules.length + (k + 1) * (rules.length * (d.pr + 3)) by
                have h0 := HS.out
                have h1 : R.length * (d.pr + 1) + R.length * 2 = R.length * (d.pr + 3) := by rw [← Nat.mul_add]
                have h2 : R.length * (d.pr + 3) ≤ rules.length * (d.pr + 3) := Nat.mul_le_mul_right _ hgl
                have h3 : (k + 1) * (rules.length * (d.pr + 3)) = k * (rules.length * (d.pr + 3)) + rules.length * (d.pr + 3) := Nat.succ_mul _ _
                omega)
              have hL1 := leftW_at hmm.a
              have hL2 := leftW_at HM.out
              clear hmm hg hlo hs LK HIS HMP HI HS HB HM
              go_wp2_with fail
              exact ⟨⟨fs', k + 1, qv', st', HM5, HI5, HB5, HS5⟩, by rw [hL1, hL2]; omega⟩
          · have hkf : k = fs.length := by have := HM.out.kl; omega
            obtain ⟨qa, qc, hqe⟩ := HM.out.q.form
            rw [List.length_drop, hkf, Nat.sub_self] at hqe
            have hkk := HM.out.b.kk
            subst hqe
            obtain ⟨ck, fk, zk⟩ := hkk
            go_wp2_with fail
            go_ret
            exact ⟨d.M, d.F, d.W0, d.g0, fs, st, rfl, ⟨HM.out.b.mm, HM.out.f, HM.out.sl⟩, by rw [← HRR.out]; exact (hkf ▸ HI.out).least, hkf ▸ HS.out, HB.out⟩
end Go.Proofs.YtcmdhfccdkjenaaGreatDoor
namespace Go.Proofs.YtcmdhfccdkjenaaGreatDoor
open Go.RowKit Go.Shelf

def colsI (fs : List (Nat × Nat)) (i : Int) : List Nat := if 0 ≤ i then colsOf fs i.toNat else []
theorem colsI_nat (fs : List (Nat × Nat)) (i : Nat) : colsI fs (i : Int) = colsOf fs i := by unfold colsI; rw [if_pos (Int.natCast_nonneg i), Int.toNat_natCast]
theorem colsI_len (fs : List (Nat × Nat)) (i : Int) : (colsI fs i).length ≤ 64 := by
  unfold colsI; split
  · exact colsOf_len fs _
  · simp
theorem colsI_no {w : World} {F W0 g0 rows cols : Nat} {fs : List (Nat × Nat)} (h : FamAt w F W0 g0 rows cols fs) {i : Int} (hi : ¬ (0 ≤ i ∧ i < rows)) : colsI fs i = [] := by
  unfold colsI
  by_cases h0 : 0 ≤ i
  · rw [if_pos h0]
    rcases hc : colsOf fs i.toNat with _ | ⟨a, l⟩
    · rfl
    · exfalso
      have hm : a ∈ colsOf fs i.toNat := by rw [hc]; exact List.mem_cons_self ..
      have := (h.rng _ (colsOf_mem.1 hm).2).1
      dsimp only at this
      omega
  · rw [if_neg h0]
set_option maxRecDepth 100000 in
set_option maxHeartbeats 1000000 in
theorem fam_ListI {w : World} {F W0 g0 rows cols : Nat} {fs : List (Nat × Nat)} (h : FamAt w F W0 g0 rows cols fs) (hT : TB w) (i : Int) :
    Calls Tryz.prog 145 #[.pointer (some ⟨F, 0, none⟩), .int .i64 i] w fun e w' => ∃ v, e = .returned v ∧ w'.ownsRow w.heap.size 3 1 v (colsI fs i).length (ints (colsI fs i)) ∧ Below w.heap.size w w' := by
  by_cases hi : 0 ≤ i ∧ i < rows
  · obtain ⟨k, rfl⟩ : ∃ k : Nat, i = (k : Int) := ⟨i.toNat, (Int.toNat_of_nonneg hi.1).symm⟩
    rw [colsI_nat]
    exact fam_List h hT k (by omega)
  · rw [colsI_no h hi]
    have R := Lib.hid (fam_rowNo h i hi)
    clear h hT hi
    go_enter Tryz.func145, Tryz.ntmps145
    go_wp2_with fail
    refine R.out.mono ?_
    rintro e w1 ⟨rfl, rfl⟩
    clear R
    go_wp2_with fail
    go_loopw [4, 11] (fun vo i wr => vo = .slice none 0 0 ∧ i = .int .i64 0 ∧ wr = w1) (fun _ _ _ => 0)
    case atStart => exact ⟨rfl, rfl, rfl⟩
    case round =>
      obtain ⟨rfl, rfl, rfl⟩ := hrel
      go_wp2_with fail
      go_ret
      exact ⟨_, rfl, World.ownsRow_nil _ _ _ _, Below.refl _ _⟩
set_option maxHeartbeats 1000000 in
theorem model_Members {w : World} {M F W0 g0 p l : Nat} {fs : List (Nat × Nat)} {st : Nat} (h : ModAt w M F W0 g0 p l fs st) (hT : TB w) (i : Int) :
    Calls Tryz.prog 87 #[.pointer (some ⟨M, 0, none⟩), .int .i64 i] w fun e w' => ∃ v, e = .returned v ∧ w'.ownsRow w.heap.size 3 1 v (colsI fs i).length (ints (colsI fs i)) ∧ Below w.heap.size w w' := by
  have L := Lib.hid (fam_ListI h.f hT i)
  obtain ⟨cm, fm, zm⟩ := h.mm
  clear h hT
  go_enter Tryz.func87, Tryz.ntmps87
  go_wp2_with fail
  refine L.out.mono ?_
  rintro e w1 ⟨v, rfl, ho, hb⟩
  have HO := Lib.hid ho
  have HB := Lib.hid hb
  clear ho hb
  go_wp2
  go_ret
  exact ⟨v, rfl, HO.out, HB.out⟩
end Go.Proofs.YtcmdhfccdkjenaaGreatDoor
