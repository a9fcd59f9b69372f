/- sem.maker.put: the walk (printed by gen_semput.py). -/
import Derived.Test.YtcmdhfccdkjenaaGreatDoorPart14
import Derived.Test.YtcmdhfccdkjenaaGreatDoorPart12
namespace Go.Proofs.YtcmdhfccdkjenaaGreatDoor
open Go.RowKit Go.Shelf

def takesR (n : Nat) (r : Ru) (p : Nat) : Bool := if p < n then decide (r.k ≠ 1) && (decide (r.a = (p : Int)) || (decide (r.k = 4) && decide (r.b = (p : Int)))) else decide (r.k = 3) && decide (r.via = ((p - n : Nat) : Int))
theorem rowL_snoc (n : Nat) (rs : List Ru) (r : Ru) (p : Nat) : rowL n (rs ++ [r]) p = rowL n rs p ++ (if takesR n r p = true then [r] else []) := by
  unfold rowL takesR
  by_cases hp : p < n
  · rw [if_pos hp, if_pos hp, if_pos hp]
    unfold byR
    rw [List.filter_append, List.filter_cons, List.filter_nil]
  · rw [if_neg hp, if_neg hp, if_neg hp]
    unfold viaR
    rw [List.filter_append, List.filter_cons, List.filter_nil]
/-- A rule of the first kind has laid its fact. -/
def MemP (r : Ru) (fs : List (Nat × Nat)) : Prop := r.k = 1 → (r.h.toNat, r.who.toNat) ∈ fs
theorem slA_one {w : World} {g : Nat} {a b c d e f : Int} (h : Blk w g #[.int .i64 a, .int .i64 b, .int .i64 c, .int .i64 d, .int .i64 e, .int .i64 f]) : SlA w 6 (.slice (some ⟨g, 0, none⟩) 1 1) 1 [.int .i64 a, .int .i64 b, .int .i64 c, .int .i64 d, .int .i64 e, .int .i64 f] :=
  Sl.a ⟨rfl, by simp [maxLen], .inr ⟨g, 0, 1, rfl, Nat.le_refl _, by simp [maxLen], h.2.2, fun j u hu => by rw [Nat.zero_add, h.1 j]; simpa using hu⟩⟩
set_option maxRecDepth 100000 in
set_option maxHeartbeats 16000000 in
theorem mk_put {w : World} {d : MkI} {rs : List Ru} {rv : Nat → Value} {fs : List (Nat × Nat)} {k : Nat} {qv : Value} {st : Nat} (h : MkAt w d rs rv fs k qv st) (r : Ru) (hok : okRu d.pr d.lk r = true) (hst : st ≤ 10000000000) (hrs : rs.length ≤ 100000) (ra : List Ru) (hra : r ∈ ra) :
    Calls Tryz.prog 186 #[.pointer (some ⟨d.K, 0, none⟩), ruv r] w fun e w' => e = .returned (.tuple #[]) ∧ ∃ rv' fs' qv' st', MkAt w' d (rs ++ [r]) rv' fs' k qv' st' ∧ Below d.F w w' ∧ Grow d.lk ra fs fs' ∧ MemP r fs' ∧ st' ≤ st + 2 := by
  have p64 := h.ok.p64
  have l64 := h.ok.l64
  have hnn : d.n ≤ 64 * 64 := Nat.mul_le_mul p64 l64
  have hlow := h.lowF
  obtain ⟨infr, hir, hr0, hr1, hr2⟩ := info_parts ru_info
  have HIR := Lib.hid hir
  clear hir
  have SN := Lib.hid (rowL_snoc d.n rs r)
  have hcases := okRu_cases hok
  have hstw : IntKind.i64.wrap ((st : Int) + 1) = (st : Int) + 1 := Go.IntWalk.i64_in _ (by omega)
  have hMK : d.M < d.K := h.ok.o4
  obtain ⟨ck, fk, zk⟩ := h.b.kk
  obtain ⟨cm, fm, zm⟩ := h.b.mm
  have hMC : d.M < w.heap.size := zm
  have HL := fun p => rowL_len d.n rs p
  clear hok
  rcases hcases with ⟨h0, x0, rfl, hh, hx⟩ | ⟨h0, a0, rfl, hh, ha⟩ | ⟨h0, a0, v0, rfl, hh, ha, hv⟩ | ⟨h0, a0, b0, rfl, hh, ha, hb⟩
  · have hh : h0 < d.n := hh
    obtain ⟨w3, hw3⟩ : ∃ V, V = (w.setCell ⟨d.M, 3, none⟩ (.int .i64 ((st : Int) + 1))).alloc (.cells #[.int .i64 1, .int .i64 h0, .int .i64 x0, .int .i64 0, .int .i64 0, .int .i64 0] 196) := ⟨_, rfl⟩
    have HA := Lib.hid (show MkAt w3 d rs rv fs k qv (st + 1) by rw [hw3]; exact (h.steps (st + 1)).below ((Below.refl _ _).alloc (Nat.le_refl _) _))
    have HB := Lib.hid (show Below d.F w w3 by rw [hw3]; exact (kp_low (Kp.set (X := mkX d qv) (w := w) (o := 3) (v := .int .i64 ((st : Int) + 1)) (.inl rfl)) hlow (mkX_ge h)).alloc (by simpa using hlow) _)
    have HR3 := Lib.hid (show Blk w3 w.heap.size #[.int .i64 1, .int .i64 h0, .int .i64 x0, .int .i64 0, .int .i64 0, .int .i64 0] by rw [hw3]; have := Blk.new (w.setCell ⟨d.M, 3, none⟩ (.int .i64 ((st : Int) + 1))) #[.int .i64 1, .int .i64 h0, .int .i64 x0, .int .i64 0, .int .i64 0, .int .i64 0] 196; simpa using this)
    have hbC : d.C ≤ w.heap.size := h.b.le
    have hbR : ∀ p, p < d.n + d.lk → ∀ g, (rv p).ownBlock = some g → g ≠ w.heap.size := fun p hp g hg e => by have := ((h.b.own p hp).lt g hg).2; omega
    have hbQ : ∀ g, qv.ownBlock = some g → g ≠ w.heap.size := fun g hg e => by have := (h.qge g hg).2; omega
    clear h
    have AD := Lib.hid (mk_add HA.out h0 x0 hh hx (by omega))
    have HGA := Lib.hid (Grow.add (lk := d.lk) (rs := ra) (fs := fs) (r := h0) (c := x0) (fun E hE _ => hE.mem _ hra rfl))
    go_enter Tryz.func186, Tryz.ntmps186
    go_wp2_with fail
    rw [← hw3]
    clear hw3 ck fk zk cm fm zm
    refine AD.out.mono ?_
    rintro e w4 ⟨rfl, qv2, hmm⟩
    have HM4 := Lib.hid hmm
    clear hmm AD
    go_wp2
    go_end0
    refine ⟨rfl, rv, _, qv2, st + 1 + 1, ?_, HB.out.trans (kp_low HM4.out.kp HA.out.lowF (mkX_ge HA.out)), HGA.out, fun _ => addF_mem _ _ _, by omega⟩
    exact HM4.out.a.r.at (fun p hp => by rw [SN.out p]; unfold takesR; simp)
  · have hh : h0 < d.n := hh
    have ha : a0 < d.n := ha
    obtain ⟨w3, hw3⟩ : ∃ V, V = (w.setCell ⟨d.M, 3, none⟩ (.int .i64 ((st : Int) + 1))).alloc (.cells #[.int .i64 2, .int .i64 h0, .int .i64 0, .int .i64 a0, .int .i64 0, .int .i64 0] 196) := ⟨_, rfl⟩
    have HA := Lib.hid (show MkAt w3 d rs rv fs k qv (st + 1) by rw [hw3]; exact (h.steps (st + 1)).below ((Below.refl _ _).alloc (Nat.le_refl _) _))
    have HB := Lib.hid (show Below d.F w w3 by rw [hw3]; exact (kp_low (Kp.set (X := mkX d qv) (w := w) (o := 3) (v := .int .i64 ((st : Int) + 1)) (.inl rfl)) hlow (mkX_ge h)).alloc (by simpa using hlow) _)
    have HR3 := Lib.hid (show Blk w3 w.heap.size #[.int .i64 2, .int .i64 h0, .int .i64 0, .int .i64 a0, .int .i64 0, .int .i64 0] by rw [hw3]; have := Blk.new (w.setCell ⟨d.M, 3, none⟩ (.int .i64 ((st : Int) + 1))) #[.int .i64 2, .int .i64 h0, .int .i64 0, .int .i64 a0, .int .i64 0, .int .i64 0] 196; simpa using this)
    have hbC : d.C ≤ w.heap.size := h.b.le
    have hbR : ∀ p, p < d.n + d.lk → ∀ g, (rv p).ownBlock = some g → g ≠ w.heap.size := fun p hp g hg e => by have := ((h.b.own p hp).lt g hg).2; omega
    have hbQ : ∀ g, qv.ownBlock = some g → g ≠ w.heap.size := fun g hg e => by have := (h.qge g hg).2; omega
    clear h
    have HR0 := Lib.hid HA.out.r
    have HB0 := HR3
    have HW0 := HB
    have hbR0 := hbR
    clear HA HR3 HB hbR
    go_enter Tryz.func186, Tryz.ntmps186
    go_wp2_with fail
    rw [← hw3]
    clear hw3 ck fk zk cm fm zm
    have hL0 : (rowL d.n rs (a0)).length ≤ 100001 := Nat.le_succ_of_le (Nat.le_trans (HL _) hrs)
    have hown0 := HR0.out.own (a0) (by omega)
    obtain ⟨ro0, rc0, hrv0⟩ := own_form hown0
    obtain ⟨L0, hLe0⟩ : ∃ L, L = (rowL d.n rs (a0)).length := ⟨_, rfl⟩
    rw [← hLe0] at hrv0 hL0
    have HLe0 := Lib.hid hLe0
    have HRV0 := Lib.hid hrv0
    rw [hrv0, ← hLe0] at hown0
    have HOW0 := Lib.hid hown0
    have HRa := HR0.out.below (below_drew (Below.refl _ _))
    have hcell0 : (w3.drew).cell? ⟨d.BY, a0, none⟩ = some (.slice ro0 L0 rc0) := by have := (HRa.by_).1 (a0); rw [arrOf_get, if_pos ha, hrv0] at this; exact this
    have HRd := Lib.hid HRa
    have HBd := Lib.hid (HB0.out.below (below_drew (Below.refl _ _)))
    have HWd := Lib.hid (HW0.out.trans ((below_drew (Below.refl _ _)).mono (HR0.out.f.ff.2.2 |> Nat.le_of_lt)))
    have HOd := Lib.hid (own_below HOW0.out (below_drew (Below.refl w3.heap.size w3)))
    clear HRa hown0 HOW0 hLe0
    refine wp_region_last (S := (fun W => (∀ o, W.cell? ⟨d.K, o, none⟩ = (#[.pointer (some ⟨d.M, 0, none⟩), .slice (some ⟨d.BY, 0, none⟩) d.n d.n, .slice (some ⟨d.VIA, 0, none⟩) d.lk d.lk, qv] : Array Value)[o]?) ∧ (∀ o, W.cell? ⟨w.heap.size, o, none⟩ = (#[.int .i64 2, .int .i64 h0, .int .i64 0, .int .i64 a0, .int .i64 0, .int .i64 0] : Array Value)[o]?) ∧ W.cell? ⟨d.BY, a0, none⟩ = some (.slice ro0 L0 rc0))) 18 (by kernel_rfl) ⟨HRd.out.kk.1, HBd.out.1, hcell0⟩ (fun hHeld => ?_)
    obtain ⟨wd0, hwd⟩ : ∃ W, W = w3.drew := ⟨_, rfl⟩
    rw [← hwd] at HRd HBd HWd HOd hHeld hcell0 ⊢
    clear hwd hrv0 HR0 HB0 HW0
    (refine last_yes (v := ?_) 0 rfl (by kernel_rfl) (by kernel_rfl) (by kernel_rfl) (by kernel_rfl) (by kernel_rfl) (fun _ _ _ h => h) (by rfl) (by assumption) ?_ ?_; rotate_left; (focus ((intro w hSw); (try dsimp only at hSw); go_simp; (try with_reducible rfl))); (try simp only [Act.put, List.setIfInBounds_toArray, List.set_cons_zero, List.set_cons_succ])); (refine last_yes (v := ?_) 1 rfl (by kernel_rfl) (by kernel_rfl) (by kernel_rfl) (by kernel_rfl) (by kernel_rfl) (fun _ _ _ h => h) (by rfl) (by assumption) ?_ ?_; rotate_left; (focus ((intro w hSw); (try dsimp only at hSw); go_simp; (try with_reducible rfl))); (try simp only [Act.put, List.setIfInBounds_toArray, List.set_cons_zero, List.set_cons_succ])); (refine last_yes (v := ?_) 2 rfl (by kernel_rfl) (by kernel_rfl) (by kernel_rfl) (by kernel_rfl) (by kernel_rfl) (fun _ _ _ h => h) (by rfl) (by assumption) ?_ ?_; rotate_left; (focus ((intro w hSw); (try dsimp only at hSw); go_simp; (try with_reducible rfl))); (try simp only [Act.put, List.setIfInBounds_toArray, List.set_cons_zero, List.set_cons_succ])); (refine last_yes (v := ?_) 3 rfl (by kernel_rfl) (by kernel_rfl) (by kernel_rfl) (by kernel_rfl) (by kernel_rfl) (fun _ _ _ h => h) (by rfl) (by assumption) ?_ ?_; rotate_left; (focus ((intro w hSw); (try dsimp only at hSw); go_simp; (try with_reducible rfl))); (try simp only [Act.put, List.setIfInBounds_toArray, List.set_cons_zero, List.set_cons_succ])); (refine last_yes (v := ?_) 4 rfl (by kernel_rfl) (by kernel_rfl) (by kernel_rfl) (by kernel_rfl) (by kernel_rfl) (fun _ _ _ h => h) (by rfl) (by assumption) ?_ ?_; rotate_left; (focus ((intro w hSw); (try dsimp only at hSw); go_simp; (try with_reducible rfl))); (try simp only [Act.put, List.setIfInBounds_toArray, List.set_cons_zero, List.set_cons_succ])); (refine last_yes (v := ?_) 5 rfl (by kernel_rfl) (by kernel_rfl) (by kernel_rfl) (by kernel_rfl) (by kernel_rfl) (fun _ _ _ h => h) (by rfl) (by assumption) ?_ ?_; rotate_left; (focus ((intro w hSw); (try dsimp only at hSw); go_simp; (try with_reducible rfl))); (try simp only [Act.put, List.setIfInBounds_toArray, List.set_cons_zero, List.set_cons_succ])); (refine last_yes (v := ?_) 6 rfl (by kernel_rfl) (by kernel_rfl) (by kernel_rfl) (by kernel_rfl) (by kernel_rfl) (fun _ _ _ h => h) (by rfl) (by assumption) ?_ ?_; rotate_left; (focus ((intro w hSw); (try dsimp only at hSw); go_simp; (try with_reducible rfl))); (try simp only [Act.put, List.setIfInBounds_toArray, List.set_cons_zero, List.set_cons_succ])); (refine last_yes (v := ?_) 7 rfl (by kernel_rfl) (by kernel_rfl) (by kernel_rfl) (by kernel_rfl) (by kernel_rfl) (fun _ _ _ h => h) (by rfl) (by assumption) ?_ ?_; rotate_left; (focus ((intro w hSw); (try dsimp only at hSw); go_simp; (try with_reducible rfl))); (try simp only [Act.put, List.setIfInBounds_toArray, List.set_cons_zero, List.set_cons_succ])); (refine last_yes (v := ?_) 8 rfl (by kernel_rfl) (by kernel_rfl) (by kernel_rfl) (by kernel_rfl) (by kernel_rfl) (fun _ _ _ h => h) (by rfl) (by assumption) ?_ ?_; rotate_left; (focus ((intro w hSw); (try dsimp only at hSw); go_simp; (try with_reducible rfl))); (try simp only [Act.put, List.setIfInBounds_toArray, List.set_cons_zero, List.set_cons_succ])); (refine last_yes (v := ?_) 9 rfl (by kernel_rfl) (by kernel_rfl) (by kernel_rfl) (by kernel_rfl) (by kernel_rfl) (fun _ _ _ h => h) (by rfl) (by assumption) ?_ ?_; rotate_left; (focus ((intro w hSw); (try dsimp only at hSw); go_simp; (try with_reducible rfl))); (try simp only [Act.put, List.setIfInBounds_toArray, List.set_cons_zero, List.set_cons_succ])); (refine last_yes (v := ?_) 10 rfl (by kernel_rfl) (by kernel_rfl) (by kernel_rfl) (by kernel_rfl) (by kernel_rfl) (fun _ _ _ h => h) (by rfl) (by assumption) ?_ ?_; rotate_left; (focus ((intro w hSw); (try dsimp only at hSw); go_simp; (try with_reducible rfl))); (try simp only [Act.put, List.setIfInBounds_toArray, List.set_cons_zero, List.set_cons_succ])); (refine last_yes (v := ?_) 11 rfl (by kernel_rfl) (by kernel_rfl) (by kernel_rfl) (by kernel_rfl) (by kernel_rfl) (fun _ _ _ h => h) (by rfl) (by assumption) ?_ ?_; rotate_left; (focus ((intro w hSw); (try dsimp only at hSw); go_simp; (try with_reducible rfl))); (try simp only [Act.put, List.setIfInBounds_toArray, List.set_cons_zero, List.set_cons_succ])); (refine last_yes (v := ?_) 12 rfl (by kernel_rfl) (by kernel_rfl) (by kernel_rfl) (by kernel_rfl) (by kernel_rfl) (fun _ _ _ h => h) (by rfl) (by assumption) ?_ ?_; rotate_left; (focus ((intro w hSw); (try dsimp only at hSw); go_simp; (try with_reducible rfl))); (try simp only [Act.put, List.setIfInBounds_toArray, List.set_cons_zero, List.set_cons_succ])); (refine last_yes (v := ?_) 13 rfl (by kernel_rfl) (by kernel_rfl) (by kernel_rfl) (by kernel_rfl) (by kernel_rfl) (fun _ _ _ h => h) (by rfl) (by assumption) ?_ ?_; rotate_left; (focus ((intro w hSw); (try dsimp only at hSw); go_simp; (try with_reducible rfl))); (try simp only [Act.put, List.setIfInBounds_toArray, List.set_cons_zero, List.set_cons_succ])); (refine last_yes (v := ?_) 14 rfl (by kernel_rfl) (by kernel_rfl) (by kernel_rfl) (by kernel_rfl) (by kernel_rfl) (fun _ _ _ h => h) (by rfl) (by assumption) ?_ ?_; rotate_left; (focus ((intro w hSw); (try dsimp only at hSw); go_simp; (try with_reducible rfl))); (try simp only [Act.put, List.setIfInBounds_toArray, List.set_cons_zero, List.set_cons_succ]))
    (refine last_call 15 rfl (by kernel_rfl) (fun K hK => ?_); go_simp)
    have hba : Below wd0.heap.size wd0 (wd0.alloc (.cells #[.int .i64 2, .int .i64 h0, .int .i64 0, .int .i64 a0, .int .i64 0, .int .i64 0] 196)) := (Below.refl _ _).alloc (Nat.le_refl _) _
    have hne := Blk.new wd0 #[.int .i64 2, .int .i64 h0, .int .i64 0, .int .i64 a0, .int .i64 0, .int .i64 0] 196
    have hce := (hba.cell (p := ⟨d.BY, a0, none⟩) (World.block_lt_of_cell? wd0 _ hcell0)).trans hcell0
    have HRe := Lib.hid (HRd.out.below hba)
    have HBe := Lib.hid (HBd.out.below hba)
    have HWe := Lib.hid (HWd.out.trans (hba.mono (Nat.le_of_lt HRd.out.f.ff.2.2)))
    have HOe := own_below HOd.out hba
    (refine hK.out _ _ ⟨HRe.out.kk.1, HBe.out.1, hce⟩ (fun hHeld => ?_); clear hK K; (try simp only [Act.put, List.setIfInBounds_toArray, List.set_cons_zero, List.set_cons_succ]))
    refine last_call 16 rfl (by kernel_rfl) (fun K hK => ?_)
    refine step_rowE rfl _ _ 153 rfl d.C 196 infr _ 6 48 Tryz.underlying153 HIR.out hr0 hr1 hr2 (Nat.le_of_ble_eq_true rfl) rfl (Nat.le_of_ble_eq_true rfl) _ L0 _ rfl HOe _ 1 _ rfl (slA_one hne) (ru1 _ _ _ _ _ _) (by omega) HRe.out.le ?_
    intro s0 c0 w5 ho5 hg5 hn5
    have hk5 : Kp (fun b => some b = (Value.slice ro0 L0 rc0).ownBlock) (wd0.alloc (.cells #[.int .i64 2, .int .i64 h0, .int .i64 0, .int .i64 a0, .int .i64 0, .int .i64 0] 196)) w5 := Kp.of_grown hg5 (fun b hb => hb)
    have hgX : ∀ b, b < d.C → ¬ some b = (Value.slice ro0 L0 rc0).ownBlock := fun b hb e => by have := (HOe.lt b e.symm).1; omega
    have hK5 := hk5.blk HRe.out.kk (hgX _ (by have := HRe.out.ok.o5; have := HRe.out.ok.o8; omega))
    have hB5 := hk5.blk HBe.out (fun e => hbR0 (a0) (by omega) _ (by rw [HRV0.out]; exact e.symm) rfl)
    have hc5 := (World.cell?_of_block (a := ⟨d.BY, a0, none⟩) (hk5.block _ (World.block_lt_of_cell? _ _ hce) (hgX _ HRe.out.ok.o8))).trans hce
    (refine hK.out _ _ ⟨hK5.1, hB5.1, hc5⟩ (fun hHeld => ?_); clear hK K; (try simp only [Act.put, List.setIfInBounds_toArray, List.set_cons_zero, List.set_cons_succ]))
    (refine last_yes (v := ?_) 17 rfl (by kernel_rfl) (by kernel_rfl) (by kernel_rfl) (by kernel_rfl) (by kernel_rfl) (fun _ _ _ h => h) (by rfl) (by assumption) ?_ ?_; rotate_left; (focus ((intro w hSw); (try dsimp only at hSw); go_simp; (try with_reducible rfl))); (try simp only [Act.put, List.setIfInBounds_toArray, List.set_cons_zero, List.set_cons_succ]))
    have hf5 : w5.frozen? ⟨d.BY, a0, none⟩ = false := ((hk5.blk HRe.out.by_ (hgX _ HRe.out.ok.o8)).2.1 _)
    have HP := Lib.hid (HRe.out.put (p := a0) (by omega) (r := ⟨2, h0, 0, a0, 0, 0⟩) (v' := .slice s0 (L0 + 1) c0) (w1 := w5) (by rw [List.length_append, List.flatMap_append, ← HLe0.out]; exact ho5) (by rw [HRV0.out]; exact hg5) (by rw [HRV0.out]; exact hn5))
    have HPB := Lib.hid (Kp.blk (X := fun b => b = d.BY) (Kp.set (b := d.BY) (o := a0) (v := .slice s0 (L0 + 1) c0) rfl) hB5 (by have := HRe.out.ok.o8; have := HRe.out.ok.o9; omega))
    clear hba hne hce hk5 hgX hK5 hB5 HRd HBd HOd HOe ho5 hg5
    (refine last_end 18 rfl (by kernel_rfl) (by kernel_rfl) (fun K hK => ?_); go_simp)
    clear hc5 hf5
    refine hK.out _ _ ?_
    clear hK K
    have hst9 := HP.out
    rw [show (if a0 < d.n then (⟨d.BY, a0, none⟩ : Addr) else ⟨d.VIA, a0 - d.n, none⟩) = ⟨d.BY, a0, none⟩ from if_pos ha] at hst9
    obtain ⟨w1, hw1⟩ : ∃ V, V = w5.setCell ⟨d.BY, a0, none⟩ (.slice s0 (L0 + 1) c0) := ⟨_, rfl⟩
    rw [← hw1] at hst9 HPB ⊢
    clear hw1
    have HR1 := Lib.hid hst9.1
    have HW1 := Lib.hid (HWe.out.trans hst9.2)
    have HB1 := HPB
    have hnew : Value.ownBlock (.slice s0 (L0 + 1) c0) ≠ some w.heap.size := fun e => hn5 w.heap.size HBe.out.2.2 (fun e2 => hbR0 (a0) (by omega) _ (by rw [HRV0.out]; exact e2.symm) rfl) e.symm
    have hbR1 : ∀ q, q < d.n + d.lk → ∀ g, (rowPut (rv) (a0) (.slice s0 (L0 + 1) c0) q).ownBlock = some g → g ≠ w.heap.size := fun q hq g hg => by
      unfold rowPut at hg
      by_cases e : q = a0
      · rw [if_pos e] at hg
        intro eg
        exact hnew (eg ▸ hg)
      · rw [if_neg e] at hg; exact hbR0 q hq g hg
    clear HP HPB HWe HRe HBe hn5 hst9 hnew
    go_wp2
    go_end0
    refine ⟨rfl, _, fs, qv, st + 1, HR1.out.at (fun p hp => ?_), HW1.out, Grow.refl _ _ _, (fun e => by simp at e), by omega⟩
    rw [SN.out p]
    unfold takesR
    by_cases e : p = a0
    · subst e; rw [if_pos rfl, if_pos ha]; simp
    · rw [if_neg e]
      by_cases hpn : p < d.n
      · rw [if_pos hpn]; simp; omega
      · rw [if_neg hpn]; simp
  · have hh : h0 < d.n := hh
    have ha : a0 < d.n := ha
    obtain ⟨w3, hw3⟩ : ∃ V, V = (w.setCell ⟨d.M, 3, none⟩ (.int .i64 ((st : Int) + 1))).alloc (.cells #[.int .i64 3, .int .i64 h0, .int .i64 0, .int .i64 a0, .int .i64 0, .int .i64 v0] 196) := ⟨_, rfl⟩
    have HA := Lib.hid (show MkAt w3 d rs rv fs k qv (st + 1) by rw [hw3]; exact (h.steps (st + 1)).below ((Below.refl _ _).alloc (Nat.le_refl _) _))
    have HB := Lib.hid (show Below d.F w w3 by rw [hw3]; exact (kp_low (Kp.set (X := mkX d qv) (w := w) (o := 3) (v := .int .i64 ((st : Int) + 1)) (.inl rfl)) hlow (mkX_ge h)).alloc (by simpa using hlow) _)
    have HR3 := Lib.hid (show Blk w3 w.heap.size #[.int .i64 3, .int .i64 h0, .int .i64 0, .int .i64 a0, .int .i64 0, .int .i64 v0] by rw [hw3]; have := Blk.new (w.setCell ⟨d.M, 3, none⟩ (.int .i64 ((st : Int) + 1))) #[.int .i64 3, .int .i64 h0, .int .i64 0, .int .i64 a0, .int .i64 0, .int .i64 v0] 196; simpa using this)
    have hbC : d.C ≤ w.heap.size := h.b.le
    have hbR : ∀ p, p < d.n + d.lk → ∀ g, (rv p).ownBlock = some g → g ≠ w.heap.size := fun p hp g hg e => by have := ((h.b.own p hp).lt g hg).2; omega
    have hbQ : ∀ g, qv.ownBlock = some g → g ≠ w.heap.size := fun g hg e => by have := (h.qge g hg).2; omega
    clear h
    have HR0 := Lib.hid HA.out.r
    have HB0 := HR3
    have HW0 := HB
    have hbR0 := hbR
    clear HA HR3 HB hbR
    go_enter Tryz.func186, Tryz.ntmps186
    go_wp2_with fail
    rw [← hw3]
    clear hw3 ck fk zk cm fm zm
    have hL0 : (rowL d.n rs (d.n + v0)).length ≤ 100001 := Nat.le_succ_of_le (Nat.le_trans (HL _) hrs)
    have hown0 := HR0.out.own (d.n + v0) (by omega)
    obtain ⟨ro0, rc0, hrv0⟩ := own_form hown0
    obtain ⟨L0, hLe0⟩ : ∃ L, L = (rowL d.n rs (d.n + v0)).length := ⟨_, rfl⟩
    rw [← hLe0] at hrv0 hL0
    have HLe0 := Lib.hid hLe0
    have HRV0 := Lib.hid hrv0
    rw [hrv0, ← hLe0] at hown0
    have HOW0 := Lib.hid hown0
    have HRa := HR0.out.below (below_drew (Below.refl _ _))
    have hcell0 : (w3.drew).cell? ⟨d.VIA, v0, none⟩ = some (.slice ro0 L0 rc0) := by have := (HRa.via).1 (v0); rw [arrOf_get, if_pos hv, hrv0] at this; exact this
    have HRd := Lib.hid HRa
    have HBd := Lib.hid (HB0.out.below (below_drew (Below.refl _ _)))
    have HWd := Lib.hid (HW0.out.trans ((below_drew (Below.refl _ _)).mono (HR0.out.f.ff.2.2 |> Nat.le_of_lt)))
    have HOd := Lib.hid (own_below HOW0.out (below_drew (Below.refl w3.heap.size w3)))
    clear HRa hown0 HOW0 hLe0
    refine wp_region_last (S := (fun W => (∀ o, W.cell? ⟨d.K, o, none⟩ = (#[.pointer (some ⟨d.M, 0, none⟩), .slice (some ⟨d.BY, 0, none⟩) d.n d.n, .slice (some ⟨d.VIA, 0, none⟩) d.lk d.lk, qv] : Array Value)[o]?) ∧ (∀ o, W.cell? ⟨w.heap.size, o, none⟩ = (#[.int .i64 3, .int .i64 h0, .int .i64 0, .int .i64 a0, .int .i64 0, .int .i64 v0] : Array Value)[o]?) ∧ W.cell? ⟨d.VIA, v0, none⟩ = some (.slice ro0 L0 rc0))) 18 (by kernel_rfl) ⟨HRd.out.kk.1, HBd.out.1, hcell0⟩ (fun hHeld => ?_)
    obtain ⟨wd0, hwd⟩ : ∃ W, W = w3.drew := ⟨_, rfl⟩
    rw [← hwd] at HRd HBd HWd HOd hHeld hcell0 ⊢
    clear hwd hrv0 HR0 HB0 HW0
    (refine last_yes (v := ?_) 0 rfl (by kernel_rfl) (by kernel_rfl) (by kernel_rfl) (by kernel_rfl) (by kernel_rfl) (fun _ _ _ h => h) (by rfl) (by assumption) ?_ ?_; rotate_left; (focus ((intro w hSw); (try dsimp only at hSw); go_simp; (try with_reducible rfl))); (try simp only [Act.put, List.setIfInBounds_toArray, List.set_cons_zero, List.set_cons_succ])); (refine last_yes (v := ?_) 1 rfl (by kernel_rfl) (by kernel_rfl) (by kernel_rfl) (by kernel_rfl) (by kernel_rfl) (fun _ _ _ h => h) (by rfl) (by assumption) ?_ ?_; rotate_left; (focus ((intro w hSw); (try dsimp only at hSw); go_simp; (try with_reducible rfl))); (try simp only [Act.put, List.setIfInBounds_toArray, List.set_cons_zero, List.set_cons_succ])); (refine last_yes (v := ?_) 2 rfl (by kernel_rfl) (by kernel_rfl) (by kernel_rfl) (by kernel_rfl) (by kernel_rfl) (fun _ _ _ h => h) (by rfl) (by assumption) ?_ ?_; rotate_left; (focus ((intro w hSw); (try dsimp only at hSw); go_simp; (try with_reducible rfl))); (try simp only [Act.put, List.setIfInBounds_toArray, List.set_cons_zero, List.set_cons_succ])); (refine last_yes (v := ?_) 3 rfl (by kernel_rfl) (by kernel_rfl) (by kernel_rfl) (by kernel_rfl) (by kernel_rfl) (fun _ _ _ h => h) (by rfl) (by assumption) ?_ ?_; rotate_left; (focus ((intro w hSw); (try dsimp only at hSw); go_simp; (try with_reducible rfl))); (try simp only [Act.put, List.setIfInBounds_toArray, List.set_cons_zero, List.set_cons_succ])); (refine last_yes (v := ?_) 4 rfl (by kernel_rfl) (by kernel_rfl) (by kernel_rfl) (by kernel_rfl) (by kernel_rfl) (fun _ _ _ h => h) (by rfl) (by assumption) ?_ ?_; rotate_left; (focus ((intro w hSw); (try dsimp only at hSw); go_simp; (try with_reducible rfl))); (try simp only [Act.put, List.setIfInBounds_toArray, List.set_cons_zero, List.set_cons_succ])); (refine last_yes (v := ?_) 5 rfl (by kernel_rfl) (by kernel_rfl) (by kernel_rfl) (by kernel_rfl) (by kernel_rfl) (fun _ _ _ h => h) (by rfl) (by assumption) ?_ ?_; rotate_left; (focus ((intro w hSw); (try dsimp only at hSw); go_simp; (try with_reducible rfl))); (try simp only [Act.put, List.setIfInBounds_toArray, List.set_cons_zero, List.set_cons_succ])); (refine last_yes (v := ?_) 6 rfl (by kernel_rfl) (by kernel_rfl) (by kernel_rfl) (by kernel_rfl) (by kernel_rfl) (fun _ _ _ h => h) (by rfl) (by assumption) ?_ ?_; rotate_left; (focus ((intro w hSw); (try dsimp only at hSw); go_simp; (try with_reducible rfl))); (try simp only [Act.put, List.setIfInBounds_toArray, List.set_cons_zero, List.set_cons_succ])); (refine last_yes (v := ?_) 7 rfl (by kernel_rfl) (by kernel_rfl) (by kernel_rfl) (by kernel_rfl) (by kernel_rfl) (fun _ _ _ h => h) (by rfl) (by assumption) ?_ ?_; rotate_left; (focus ((intro w hSw); (try dsimp only at hSw); go_simp; (try with_reducible rfl))); (try simp only [Act.put, List.setIfInBounds_toArray, List.set_cons_zero, List.set_cons_succ])); (refine last_yes (v := ?_) 8 rfl (by kernel_rfl) (by kernel_rfl) (by kernel_rfl) (by kernel_rfl) (by kernel_rfl) (fun _ _ _ h => h) (by rfl) (by assumption) ?_ ?_; rotate_left; (focus ((intro w hSw); (try dsimp only at hSw); go_simp; (try with_reducible rfl))); (try simp only [Act.put, List.setIfInBounds_toArray, List.set_cons_zero, List.set_cons_succ])); (refine last_yes (v := ?_) 9 rfl (by kernel_rfl) (by kernel_rfl) (by kernel_rfl) (by kernel_rfl) (by kernel_rfl) (fun _ _ _ h => h) (by rfl) (by assumption) ?_ ?_; rotate_left; (focus ((intro w hSw); (try dsimp only at hSw); go_simp; (try with_reducible rfl))); (try simp only [Act.put, List.setIfInBounds_toArray, List.set_cons_zero, List.set_cons_succ])); (refine last_yes (v := ?_) 10 rfl (by kernel_rfl) (by kernel_rfl) (by kernel_rfl) (by kernel_rfl) (by kernel_rfl) (fun _ _ _ h => h) (by rfl) (by assumption) ?_ ?_; rotate_left; (focus ((intro w hSw); (try dsimp only at hSw); go_simp; (try with_reducible rfl))); (try simp only [Act.put, List.setIfInBounds_toArray, List.set_cons_zero, List.set_cons_succ])); (refine last_yes (v := ?_) 11 rfl (by kernel_rfl) (by kernel_rfl) (by kernel_rfl) (by kernel_rfl) (by kernel_rfl) (fun _ _ _ h => h) (by rfl) (by assumption) ?_ ?_; rotate_left; (focus ((intro w hSw); (try dsimp only at hSw); go_simp; (try with_reducible rfl))); (try simp only [Act.put, List.setIfInBounds_toArray, List.set_cons_zero, List.set_cons_succ])); (refine last_yes (v := ?_) 12 rfl (by kernel_rfl) (by kernel_rfl) (by kernel_rfl) (by kernel_rfl) (by kernel_rfl) (fun _ _ _ h => h) (by rfl) (by assumption) ?_ ?_; rotate_left; (focus ((intro w hSw); (try dsimp only at hSw); go_simp; (try with_reducible rfl))); (try simp only [Act.put, List.setIfInBounds_toArray, List.set_cons_zero, List.set_cons_succ])); (refine last_yes (v := ?_) 13 rfl (by kernel_rfl) (by kernel_rfl) (by kernel_rfl) (by kernel_rfl) (by kernel_rfl) (fun _ _ _ h => h) (by rfl) (by assumption) ?_ ?_; rotate_left; (focus ((intro w hSw); (try dsimp only at hSw); go_simp; (try with_reducible rfl))); (try simp only [Act.put, List.setIfInBounds_toArray, List.set_cons_zero, List.set_cons_succ])); (refine last_yes (v := ?_) 14 rfl (by kernel_rfl) (by kernel_rfl) (by kernel_rfl) (by kernel_rfl) (by kernel_rfl) (fun _ _ _ h => h) (by rfl) (by assumption) ?_ ?_; rotate_left; (focus ((intro w hSw); (try dsimp only at hSw); go_simp; (try with_reducible rfl))); (try simp only [Act.put, List.setIfInBounds_toArray, List.set_cons_zero, List.set_cons_succ]))
    (refine last_call 15 rfl (by kernel_rfl) (fun K hK => ?_); go_simp)
    have hba : Below wd0.heap.size wd0 (wd0.alloc (.cells #[.int .i64 3, .int .i64 h0, .int .i64 0, .int .i64 a0, .int .i64 0, .int .i64 v0] 196)) := (Below.refl _ _).alloc (Nat.le_refl _) _
    have hne := Blk.new wd0 #[.int .i64 3, .int .i64 h0, .int .i64 0, .int .i64 a0, .int .i64 0, .int .i64 v0] 196
    have hce := (hba.cell (p := ⟨d.VIA, v0, none⟩) (World.block_lt_of_cell? wd0 _ hcell0)).trans hcell0
    have HRe := Lib.hid (HRd.out.below hba)
    have HBe := Lib.hid (HBd.out.below hba)
    have HWe := Lib.hid (HWd.out.trans (hba.mono (Nat.le_of_lt HRd.out.f.ff.2.2)))
    have HOe := own_below HOd.out hba
    (refine hK.out _ _ ⟨HRe.out.kk.1, HBe.out.1, hce⟩ (fun hHeld => ?_); clear hK K; (try simp only [Act.put, List.setIfInBounds_toArray, List.set_cons_zero, List.set_cons_succ]))
    refine last_call 16 rfl (by kernel_rfl) (fun K hK => ?_)
    refine step_rowE rfl _ _ 153 rfl d.C 196 infr _ 6 48 Tryz.underlying153 HIR.out hr0 hr1 hr2 (Nat.le_of_ble_eq_true rfl) rfl (Nat.le_of_ble_eq_true rfl) _ L0 _ rfl HOe _ 1 _ rfl (slA_one hne) (ru1 _ _ _ _ _ _) (by omega) HRe.out.le ?_
    intro s0 c0 w5 ho5 hg5 hn5
    have hk5 : Kp (fun b => some b = (Value.slice ro0 L0 rc0).ownBlock) (wd0.alloc (.cells #[.int .i64 3, .int .i64 h0, .int .i64 0, .int .i64 a0, .int .i64 0, .int .i64 v0] 196)) w5 := Kp.of_grown hg5 (fun b hb => hb)
    have hgX : ∀ b, b < d.C → ¬ some b = (Value.slice ro0 L0 rc0).ownBlock := fun b hb e => by have := (HOe.lt b e.symm).1; omega
    have hK5 := hk5.blk HRe.out.kk (hgX _ (by have := HRe.out.ok.o5; have := HRe.out.ok.o8; omega))
    have hB5 := hk5.blk HBe.out (fun e => hbR0 (d.n + v0) (by omega) _ (by rw [HRV0.out]; exact e.symm) rfl)
    have hc5 := (World.cell?_of_block (a := ⟨d.VIA, v0, none⟩) (hk5.block _ (World.block_lt_of_cell? _ _ hce) (hgX _ HRe.out.ok.o9))).trans hce
    (refine hK.out _ _ ⟨hK5.1, hB5.1, hc5⟩ (fun hHeld => ?_); clear hK K; (try simp only [Act.put, List.setIfInBounds_toArray, List.set_cons_zero, List.set_cons_succ]))
    (refine last_yes (v := ?_) 17 rfl (by kernel_rfl) (by kernel_rfl) (by kernel_rfl) (by kernel_rfl) (by kernel_rfl) (fun _ _ _ h => h) (by rfl) (by assumption) ?_ ?_; rotate_left; (focus ((intro w hSw); (try dsimp only at hSw); go_simp; (try with_reducible rfl))); (try simp only [Act.put, List.setIfInBounds_toArray, List.set_cons_zero, List.set_cons_succ]))
    have hf5 : w5.frozen? ⟨d.VIA, v0, none⟩ = false := ((hk5.blk HRe.out.via (hgX _ HRe.out.ok.o9)).2.1 _)
    have HP := Lib.hid (HRe.out.put (p := d.n + v0) (by omega) (r := ⟨3, h0, 0, a0, 0, v0⟩) (v' := .slice s0 (L0 + 1) c0) (w1 := w5) (by rw [List.length_append, List.flatMap_append, ← HLe0.out]; exact ho5) (by rw [HRV0.out]; exact hg5) (by rw [HRV0.out]; exact hn5))
    have HPB := Lib.hid (Kp.blk (X := fun b => b = d.VIA) (Kp.set (b := d.VIA) (o := v0) (v := .slice s0 (L0 + 1) c0) rfl) hB5 (by have := HRe.out.ok.o8; have := HRe.out.ok.o9; omega))
    clear hba hne hce hk5 hgX hK5 hB5 HRd HBd HOd HOe ho5 hg5
    (refine last_end 18 rfl (by kernel_rfl) (by kernel_rfl) (fun K hK => ?_); go_simp)
    clear hc5 hf5
    refine hK.out _ _ ?_
    clear hK K
    have hst9 := HP.out
    rw [show (if d.n + v0 < d.n then (⟨d.BY, d.n + v0, none⟩ : Addr) else ⟨d.VIA, d.n + v0 - d.n, none⟩) = ⟨d.VIA, v0, none⟩ from (if_neg (by omega)).trans (by rw [Nat.add_sub_cancel_left])] at hst9
    obtain ⟨w1, hw1⟩ : ∃ V, V = w5.setCell ⟨d.VIA, v0, none⟩ (.slice s0 (L0 + 1) c0) := ⟨_, rfl⟩
    rw [← hw1] at hst9 HPB ⊢
    clear hw1
    have HR1 := Lib.hid hst9.1
    have HW1 := Lib.hid (HWe.out.trans hst9.2)
    have HB1 := HPB
    have hnew : Value.ownBlock (.slice s0 (L0 + 1) c0) ≠ some w.heap.size := fun e => hn5 w.heap.size HBe.out.2.2 (fun e2 => hbR0 (d.n + v0) (by omega) _ (by rw [HRV0.out]; exact e2.symm) rfl) e.symm
    have hbR1 : ∀ q, q < d.n + d.lk → ∀ g, (rowPut (rv) (d.n + v0) (.slice s0 (L0 + 1) c0) q).ownBlock = some g → g ≠ w.heap.size := fun q hq g hg => by
      unfold rowPut at hg
      by_cases e : q = d.n + v0
      · rw [if_pos e] at hg
        intro eg
        exact hnew (eg ▸ hg)
      · rw [if_neg e] at hg; exact hbR0 q hq g hg
    clear HP HPB HWe HRe HBe hn5 hst9 hnew
    go_wp2_with fail
    have hL1 : ((fun q => if q = d.n + v0 then rowL d.n rs (d.n + v0) ++ [⟨3, h0, 0, a0, 0, v0⟩] else rowL d.n rs q) (a0)).length ≤ 100001 := by dsimp only; rw [if_neg (show ¬ a0 = d.n + v0 by omega)]; exact Nat.le_succ_of_le (Nat.le_trans (HL _) hrs)
    have hown1 := HR1.out.own (a0) (by omega)
    obtain ⟨ro1, rc1, hrv1⟩ := own_form hown1
    obtain ⟨L1, hLe1⟩ : ∃ L, L = ((fun q => if q = d.n + v0 then rowL d.n rs (d.n + v0) ++ [⟨3, h0, 0, a0, 0, v0⟩] else rowL d.n rs q) (a0)).length := ⟨_, rfl⟩
    rw [← hLe1] at hrv1 hL1
    have HLe1 := Lib.hid hLe1
    have HRV1 := Lib.hid hrv1
    rw [hrv1, ← hLe1] at hown1
    have HOW1 := Lib.hid hown1
    have HRa := HR1.out.below (below_drew (Below.refl _ _))
    have hcell1 : (w1.drew).cell? ⟨d.BY, a0, none⟩ = some (.slice ro1 L1 rc1) := by have := (HRa.by_).1 (a0); rw [arrOf_get, if_pos ha, hrv1] at this; exact this
    have HRd := Lib.hid HRa
    have HBd := Lib.hid (HB1.out.below (below_drew (Below.refl _ _)))
    have HWd := Lib.hid (HW1.out.trans ((below_drew (Below.refl _ _)).mono (HR1.out.f.ff.2.2 |> Nat.le_of_lt)))
    have HOd := Lib.hid (own_below HOW1.out (below_drew (Below.refl w1.heap.size w1)))
    clear HRa hown1 HOW1 hLe1
    refine wp_region_last (S := (fun W => (∀ o, W.cell? ⟨d.K, o, none⟩ = (#[.pointer (some ⟨d.M, 0, none⟩), .slice (some ⟨d.BY, 0, none⟩) d.n d.n, .slice (some ⟨d.VIA, 0, none⟩) d.lk d.lk, qv] : Array Value)[o]?) ∧ (∀ o, W.cell? ⟨w.heap.size, o, none⟩ = (#[.int .i64 3, .int .i64 h0, .int .i64 0, .int .i64 a0, .int .i64 0, .int .i64 v0] : Array Value)[o]?) ∧ W.cell? ⟨d.BY, a0, none⟩ = some (.slice ro1 L1 rc1))) 18 (by kernel_rfl) ⟨HRd.out.kk.1, HBd.out.1, hcell1⟩ (fun hHeld => ?_)
    obtain ⟨wd1, hwd⟩ : ∃ W, W = w1.drew := ⟨_, rfl⟩
    rw [← hwd] at HRd HBd HWd HOd hHeld hcell1 ⊢
    clear hwd hrv1 HR1 HB1 HW1
    (refine last_yes (v := ?_) 0 rfl (by kernel_rfl) (by kernel_rfl) (by kernel_rfl) (by kernel_rfl) (by kernel_rfl) (fun _ _ _ h => h) (by rfl) (by assumption) ?_ ?_; rotate_left; (focus ((intro w hSw); (try dsimp only at hSw); go_simp; (try with_reducible rfl))); (try simp only [Act.put, List.setIfInBounds_toArray, List.set_cons_zero, List.set_cons_succ])); (refine last_yes (v := ?_) 1 rfl (by kernel_rfl) (by kernel_rfl) (by kernel_rfl) (by kernel_rfl) (by kernel_rfl) (fun _ _ _ h => h) (by rfl) (by assumption) ?_ ?_; rotate_left; (focus ((intro w hSw); (try dsimp only at hSw); go_simp; (try with_reducible rfl))); (try simp only [Act.put, List.setIfInBounds_toArray, List.set_cons_zero, List.set_cons_succ])); (refine last_yes (v := ?_) 2 rfl (by kernel_rfl) (by kernel_rfl) (by kernel_rfl) (by kernel_rfl) (by kernel_rfl) (fun _ _ _ h => h) (by rfl) (by assumption) ?_ ?_; rotate_left; (focus ((intro w hSw); (try dsimp only at hSw); go_simp; (try with_reducible rfl))); (try simp only [Act.put, List.setIfInBounds_toArray, List.set_cons_zero, List.set_cons_succ])); (refine last_yes (v := ?_) 3 rfl (by kernel_rfl) (by kernel_rfl) (by kernel_rfl) (by kernel_rfl) (by kernel_rfl) (fun _ _ _ h => h) (by rfl) (by assumption) ?_ ?_; rotate_left; (focus ((intro w hSw); (try dsimp only at hSw); go_simp; (try with_reducible rfl))); (try simp only [Act.put, List.setIfInBounds_toArray, List.set_cons_zero, List.set_cons_succ])); (refine last_yes (v := ?_) 4 rfl (by kernel_rfl) (by kernel_rfl) (by kernel_rfl) (by kernel_rfl) (by kernel_rfl) (fun _ _ _ h => h) (by rfl) (by assumption) ?_ ?_; rotate_left; (focus ((intro w hSw); (try dsimp only at hSw); go_simp; (try with_reducible rfl))); (try simp only [Act.put, List.setIfInBounds_toArray, List.set_cons_zero, List.set_cons_succ])); (refine last_yes (v := ?_) 5 rfl (by kernel_rfl) (by kernel_rfl) (by kernel_rfl) (by kernel_rfl) (by kernel_rfl) (fun _ _ _ h => h) (by rfl) (by assumption) ?_ ?_; rotate_left; (focus ((intro w hSw); (try dsimp only at hSw); go_simp; (try with_reducible rfl))); (try simp only [Act.put, List.setIfInBounds_toArray, List.set_cons_zero, List.set_cons_succ])); (refine last_yes (v := ?_) 6 rfl (by kernel_rfl) (by kernel_rfl) (by kernel_rfl) (by kernel_rfl) (by kernel_rfl) (fun _ _ _ h => h) (by rfl) (by assumption) ?_ ?_; rotate_left; (focus ((intro w hSw); (try dsimp only at hSw); go_simp; (try with_reducible rfl))); (try simp only [Act.put, List.setIfInBounds_toArray, List.set_cons_zero, List.set_cons_succ])); (refine last_yes (v := ?_) 7 rfl (by kernel_rfl) (by kernel_rfl) (by kernel_rfl) (by kernel_rfl) (by kernel_rfl) (fun _ _ _ h => h) (by rfl) (by assumption) ?_ ?_; rotate_left; (focus ((intro w hSw); (try dsimp only at hSw); go_simp; (try with_reducible rfl))); (try simp only [Act.put, List.setIfInBounds_toArray, List.set_cons_zero, List.set_cons_succ])); (refine last_yes (v := ?_) 8 rfl (by kernel_rfl) (by kernel_rfl) (by kernel_rfl) (by kernel_rfl) (by kernel_rfl) (fun _ _ _ h => h) (by rfl) (by assumption) ?_ ?_; rotate_left; (focus ((intro w hSw); (try dsimp only at hSw); go_simp; (try with_reducible rfl))); (try simp only [Act.put, List.setIfInBounds_toArray, List.set_cons_zero, List.set_cons_succ])); (refine last_yes (v := ?_) 9 rfl (by kernel_rfl) (by kernel_rfl) (by kernel_rfl) (by kernel_rfl) (by kernel_rfl) (fun _ _ _ h => h) (by rfl) (by assumption) ?_ ?_; rotate_left; (focus ((intro w hSw); (try dsimp only at hSw); go_simp; (try with_reducible rfl))); (try simp only [Act.put, List.setIfInBounds_toArray, List.set_cons_zero, List.set_cons_succ])); (refine last_yes (v := ?_) 10 rfl (by kernel_rfl) (by kernel_rfl) (by kernel_rfl) (by kernel_rfl) (by kernel_rfl) (fun _ _ _ h => h) (by rfl) (by assumption) ?_ ?_; rotate_left; (focus ((intro w hSw); (try dsimp only at hSw); go_simp; (try with_reducible rfl))); (try simp only [Act.put, List.setIfInBounds_toArray, List.set_cons_zero, List.set_cons_succ])); (refine last_yes (v := ?_) 11 rfl (by kernel_rfl) (by kernel_rfl) (by kernel_rfl) (by kernel_rfl) (by kernel_rfl) (fun _ _ _ h => h) (by rfl) (by assumption) ?_ ?_; rotate_left; (focus ((intro w hSw); (try dsimp only at hSw); go_simp; (try with_reducible rfl))); (try simp only [Act.put, List.setIfInBounds_toArray, List.set_cons_zero, List.set_cons_succ])); (refine last_yes (v := ?_) 12 rfl (by kernel_rfl) (by kernel_rfl) (by kernel_rfl) (by kernel_rfl) (by kernel_rfl) (fun _ _ _ h => h) (by rfl) (by assumption) ?_ ?_; rotate_left; (focus ((intro w hSw); (try dsimp only at hSw); go_simp; (try with_reducible rfl))); (try simp only [Act.put, List.setIfInBounds_toArray, List.set_cons_zero, List.set_cons_succ])); (refine last_yes (v := ?_) 13 rfl (by kernel_rfl) (by kernel_rfl) (by kernel_rfl) (by kernel_rfl) (by kernel_rfl) (fun _ _ _ h => h) (by rfl) (by assumption) ?_ ?_; rotate_left; (focus ((intro w hSw); (try dsimp only at hSw); go_simp; (try with_reducible rfl))); (try simp only [Act.put, List.setIfInBounds_toArray, List.set_cons_zero, List.set_cons_succ])); (refine last_yes (v := ?_) 14 rfl (by kernel_rfl) (by kernel_rfl) (by kernel_rfl) (by kernel_rfl) (by kernel_rfl) (fun _ _ _ h => h) (by rfl) (by assumption) ?_ ?_; rotate_left; (focus ((intro w hSw); (try dsimp only at hSw); go_simp; (try with_reducible rfl))); (try simp only [Act.put, List.setIfInBounds_toArray, List.set_cons_zero, List.set_cons_succ]))
    (refine last_call 15 rfl (by kernel_rfl) (fun K hK => ?_); go_simp)
    have hba : Below wd1.heap.size wd1 (wd1.alloc (.cells #[.int .i64 3, .int .i64 h0, .int .i64 0, .int .i64 a0, .int .i64 0, .int .i64 v0] 196)) := (Below.refl _ _).alloc (Nat.le_refl _) _
    have hne := Blk.new wd1 #[.int .i64 3, .int .i64 h0, .int .i64 0, .int .i64 a0, .int .i64 0, .int .i64 v0] 196
    have hce := (hba.cell (p := ⟨d.BY, a0, none⟩) (World.block_lt_of_cell? wd1 _ hcell1)).trans hcell1
    have HRe := Lib.hid (HRd.out.below hba)
    have HBe := Lib.hid (HBd.out.below hba)
    have HWe := Lib.hid (HWd.out.trans (hba.mono (Nat.le_of_lt HRd.out.f.ff.2.2)))
    have HOe := own_below HOd.out hba
    (refine hK.out _ _ ⟨HRe.out.kk.1, HBe.out.1, hce⟩ (fun hHeld => ?_); clear hK K; (try simp only [Act.put, List.setIfInBounds_toArray, List.set_cons_zero, List.set_cons_succ]))
    refine last_call 16 rfl (by kernel_rfl) (fun K hK => ?_)
    refine step_rowE rfl _ _ 153 rfl d.C 196 infr _ 6 48 Tryz.underlying153 HIR.out hr0 hr1 hr2 (Nat.le_of_ble_eq_true rfl) rfl (Nat.le_of_ble_eq_true rfl) _ L1 _ rfl HOe _ 1 _ rfl (slA_one hne) (ru1 _ _ _ _ _ _) (by omega) HRe.out.le ?_
    intro s1 c1 w5 ho5 hg5 hn5
    have hk5 : Kp (fun b => some b = (Value.slice ro1 L1 rc1).ownBlock) (wd1.alloc (.cells #[.int .i64 3, .int .i64 h0, .int .i64 0, .int .i64 a0, .int .i64 0, .int .i64 v0] 196)) w5 := Kp.of_grown hg5 (fun b hb => hb)
    have hgX : ∀ b, b < d.C → ¬ some b = (Value.slice ro1 L1 rc1).ownBlock := fun b hb e => by have := (HOe.lt b e.symm).1; omega
    have hK5 := hk5.blk HRe.out.kk (hgX _ (by have := HRe.out.ok.o5; have := HRe.out.ok.o8; omega))
    have hB5 := hk5.blk HBe.out (fun e => hbR1 (a0) (by omega) _ (by rw [HRV1.out]; exact e.symm) rfl)
    have hc5 := (World.cell?_of_block (a := ⟨d.BY, a0, none⟩) (hk5.block _ (World.block_lt_of_cell? _ _ hce) (hgX _ HRe.out.ok.o8))).trans hce
    (refine hK.out _ _ ⟨hK5.1, hB5.1, hc5⟩ (fun hHeld => ?_); clear hK K; (try simp only [Act.put, List.setIfInBounds_toArray, List.set_cons_zero, List.set_cons_succ]))
    (refine last_yes (v := ?_) 17 rfl (by kernel_rfl) (by kernel_rfl) (by kernel_rfl) (by kernel_rfl) (by kernel_rfl) (fun _ _ _ h => h) (by rfl) (by assumption) ?_ ?_; rotate_left; (focus ((intro w hSw); (try dsimp only at hSw); go_simp; (try with_reducible rfl))); (try simp only [Act.put, List.setIfInBounds_toArray, List.set_cons_zero, List.set_cons_succ]))
    have hf5 : w5.frozen? ⟨d.BY, a0, none⟩ = false := ((hk5.blk HRe.out.by_ (hgX _ HRe.out.ok.o8)).2.1 _)
    have HP := Lib.hid (HRe.out.put (p := a0) (by omega) (r := ⟨3, h0, 0, a0, 0, v0⟩) (v' := .slice s1 (L1 + 1) c1) (w1 := w5) (by rw [List.length_append, List.flatMap_append, ← HLe1.out]; exact ho5) (by rw [HRV1.out]; exact hg5) (by rw [HRV1.out]; exact hn5))
    have HPB := Lib.hid (Kp.blk (X := fun b => b = d.BY) (Kp.set (b := d.BY) (o := a0) (v := .slice s1 (L1 + 1) c1) rfl) hB5 (by have := HRe.out.ok.o8; have := HRe.out.ok.o9; omega))
    clear hba hne hce hk5 hgX hK5 hB5 HRd HBd HOd HOe ho5 hg5
    (refine last_end 18 rfl (by kernel_rfl) (by kernel_rfl) (fun K hK => ?_); go_simp)
    clear hc5 hf5
    refine hK.out _ _ ?_
    clear hK K
    have hst9 := HP.out
    rw [show (if a0 < d.n then (⟨d.BY, a0, none⟩ : Addr) else ⟨d.VIA, a0 - d.n, none⟩) = ⟨d.BY, a0, none⟩ from if_pos ha] at hst9
    obtain ⟨w2, hw2⟩ : ∃ V, V = w5.setCell ⟨d.BY, a0, none⟩ (.slice s1 (L1 + 1) c1) := ⟨_, rfl⟩
    rw [← hw2] at hst9 HPB ⊢
    clear hw2
    have HR2 := Lib.hid hst9.1
    have HW2 := Lib.hid (HWe.out.trans hst9.2)
    have HB2 := HPB
    have hnew : Value.ownBlock (.slice s1 (L1 + 1) c1) ≠ some w.heap.size := fun e => hn5 w.heap.size HBe.out.2.2 (fun e2 => hbR1 (a0) (by omega) _ (by rw [HRV1.out]; exact e2.symm) rfl) e.symm
    have hbR2 : ∀ q, q < d.n + d.lk → ∀ g, (rowPut (rowPut rv (d.n + v0) (.slice s0 (L0 + 1) c0)) (a0) (.slice s1 (L1 + 1) c1) q).ownBlock = some g → g ≠ w.heap.size := fun q hq g hg => by
      unfold rowPut at hg
      by_cases e : q = a0
      · rw [if_pos e] at hg
        intro eg
        exact hnew (eg ▸ hg)
      · rw [if_neg e] at hg; exact hbR1 q hq g hg
    clear HP HPB HWe HRe HBe hn5 hst9 hnew
    go_wp2
    go_end0
    refine ⟨rfl, _, fs, qv, st + 1, HR2.out.at (fun p hp => ?_), HW2.out, Grow.refl _ _ _, (fun e => by simp at e), by omega⟩
    rw [SN.out p]
    unfold takesR
    by_cases e : p = a0
    · subst e
      rw [if_pos rfl, if_neg (show ¬ p = d.n + v0 by omega), if_pos ha]; simp
    · rw [if_neg e]
      by_cases e2 : p = d.n + v0
      · subst e2
        rw [if_pos rfl, if_neg (show ¬ d.n + v0 < d.n by omega)]; simp
      · rw [if_neg e2]
        by_cases hpn : p < d.n
        · rw [if_pos hpn]; simp; omega
        · rw [if_neg hpn]; simp; omega
  · by_cases hab : a0 = b0
    · subst hab
      have hh : h0 < d.n := hh
      have ha : a0 < d.n := ha
      obtain ⟨w3, hw3⟩ : ∃ V, V = (w.setCell ⟨d.M, 3, none⟩ (.int .i64 ((st : Int) + 1))).alloc (.cells #[.int .i64 4, .int .i64 h0, .int .i64 0, .int .i64 a0, .int .i64 a0, .int .i64 0] 196) := ⟨_, rfl⟩
      have HA := Lib.hid (show MkAt w3 d rs rv fs k qv (st + 1) by rw [hw3]; exact (h.steps (st + 1)).below ((Below.refl _ _).alloc (Nat.le_refl _) _))
      have HB := Lib.hid (show Below d.F w w3 by rw [hw3]; exact (kp_low (Kp.set (X := mkX d qv) (w := w) (o := 3) (v := .int .i64 ((st : Int) + 1)) (.inl rfl)) hlow (mkX_ge h)).alloc (by simpa using hlow) _)
      have HR3 := Lib.hid (show Blk w3 w.heap.size #[.int .i64 4, .int .i64 h0, .int .i64 0, .int .i64 a0, .int .i64 a0, .int .i64 0] by rw [hw3]; have := Blk.new (w.setCell ⟨d.M, 3, none⟩ (.int .i64 ((st : Int) + 1))) #[.int .i64 4, .int .i64 h0, .int .i64 0, .int .i64 a0, .int .i64 a0, .int .i64 0] 196; simpa using this)
      have hbC : d.C ≤ w.heap.size := h.b.le
      have hbR : ∀ p, p < d.n + d.lk → ∀ g, (rv p).ownBlock = some g → g ≠ w.heap.size := fun p hp g hg e => by have := ((h.b.own p hp).lt g hg).2; omega
      have hbQ : ∀ g, qv.ownBlock = some g → g ≠ w.heap.size := fun g hg e => by have := (h.qge g hg).2; omega
      clear h
      have HR0 := Lib.hid HA.out.r
      have HB0 := HR3
      have HW0 := HB
      have hbR0 := hbR
      clear HA HR3 HB hbR
      have dab : ((a0 : Int) != (a0 : Int)) = false := by simp
      go_enter Tryz.func186, Tryz.ntmps186
      go_wp2_with fail
      rw [← hw3]
      clear hw3 ck fk zk cm fm zm
      have hL0 : (rowL d.n rs (a0)).length ≤ 100001 := Nat.le_succ_of_le (Nat.le_trans (HL _) hrs)
      have hown0 := HR0.out.own (a0) (by omega)
      obtain ⟨ro0, rc0, hrv0⟩ := own_form hown0
      obtain ⟨L0, hLe0⟩ : ∃ L, L = (rowL d.n rs (a0)).length := ⟨_, rfl⟩
      rw [← hLe0] at hrv0 hL0
      have HLe0 := Lib.hid hLe0
      have HRV0 := Lib.hid hrv0
      rw [hrv0, ← hLe0] at hown0
      have HOW0 := Lib.hid hown0
      have HRa := HR0.out.below (below_drew (Below.refl _ _))
      have hcell0 : (w3.drew).cell? ⟨d.BY, a0, none⟩ = some (.slice ro0 L0 rc0) := by have := (HRa.by_).1 (a0); rw [arrOf_get, if_pos ha, hrv0] at this; exact this
      have HRd := Lib.hid HRa
      have HBd := Lib.hid (HB0.out.below (below_drew (Below.refl _ _)))
      have HWd := Lib.hid (HW0.out.trans ((below_drew (Below.refl _ _)).mono (HR0.out.f.ff.2.2 |> Nat.le_of_lt)))
      have HOd := Lib.hid (own_below HOW0.out (below_drew (Below.refl w3.heap.size w3)))
      clear HRa hown0 HOW0 hLe0
      refine wp_region_last (S := (fun W => (∀ o, W.cell? ⟨d.K, o, none⟩ = (#[.pointer (some ⟨d.M, 0, none⟩), .slice (some ⟨d.BY, 0, none⟩) d.n d.n, .slice (some ⟨d.VIA, 0, none⟩) d.lk d.lk, qv] : Array Value)[o]?) ∧ (∀ o, W.cell? ⟨w.heap.size, o, none⟩ = (#[.int .i64 4, .int .i64 h0, .int .i64 0, .int .i64 a0, .int .i64 a0, .int .i64 0] : Array Value)[o]?) ∧ W.cell? ⟨d.BY, a0, none⟩ = some (.slice ro0 L0 rc0))) 18 (by kernel_rfl) ⟨HRd.out.kk.1, HBd.out.1, hcell0⟩ (fun hHeld => ?_)
      obtain ⟨wd0, hwd⟩ : ∃ W, W = w3.drew := ⟨_, rfl⟩
      rw [← hwd] at HRd HBd HWd HOd hHeld hcell0 ⊢
      clear hwd hrv0 HR0 HB0 HW0
      (refine last_yes (v := ?_) 0 rfl (by kernel_rfl) (by kernel_rfl) (by kernel_rfl) (by kernel_rfl) (by kernel_rfl) (fun _ _ _ h => h) (by rfl) (by assumption) ?_ ?_; rotate_left; (focus ((intro w hSw); (try dsimp only at hSw); go_simp; (try with_reducible rfl))); (try simp only [Act.put, List.setIfInBounds_toArray, List.set_cons_zero, List.set_cons_succ])); (refine last_yes (v := ?_) 1 rfl (by kernel_rfl) (by kernel_rfl) (by kernel_rfl) (by kernel_rfl) (by kernel_rfl) (fun _ _ _ h => h) (by rfl) (by assumption) ?_ ?_; rotate_left; (focus ((intro w hSw); (try dsimp only at hSw); go_simp; (try with_reducible rfl))); (try simp only [Act.put, List.setIfInBounds_toArray, List.set_cons_zero, List.set_cons_succ])); (refine last_yes (v := ?_) 2 rfl (by kernel_rfl) (by kernel_rfl) (by kernel_rfl) (by kernel_rfl) (by kernel_rfl) (fun _ _ _ h => h) (by rfl) (by assumption) ?_ ?_; rotate_left; (focus ((intro w hSw); (try dsimp only at hSw); go_simp; (try with_reducible rfl))); (try simp only [Act.put, List.setIfInBounds_toArray, List.set_cons_zero, List.set_cons_succ])); (refine last_yes (v := ?_) 3 rfl (by kernel_rfl) (by kernel_rfl) (by kernel_rfl) (by kernel_rfl) (by kernel_rfl) (fun _ _ _ h => h) (by rfl) (by assumption) ?_ ?_; rotate_left; (focus ((intro w hSw); (try dsimp only at hSw); go_simp; (try with_reducible rfl))); (try simp only [Act.put, List.setIfInBounds_toArray, List.set_cons_zero, List.set_cons_succ])); (refine last_yes (v := ?_) 4 rfl (by kernel_rfl) (by kernel_rfl) (by kernel_rfl) (by kernel_rfl) (by kernel_rfl) (fun _ _ _ h => h) (by rfl) (by assumption) ?_ ?_; rotate_left; (focus ((intro w hSw); (try dsimp only at hSw); go_simp; (try with_reducible rfl))); (try simp only [Act.put, List.setIfInBounds_toArray, List.set_cons_zero, List.set_cons_succ])); (refine last_yes (v := ?_) 5 rfl (by kernel_rfl) (by kernel_rfl) (by kernel_rfl) (by kernel_rfl) (by kernel_rfl) (fun _ _ _ h => h) (by rfl) (by assumption) ?_ ?_; rotate_left; (focus ((intro w hSw); (try dsimp only at hSw); go_simp; (try with_reducible rfl))); (try simp only [Act.put, List.setIfInBounds_toArray, List.set_cons_zero, List.set_cons_succ])); (refine last_yes (v := ?_) 6 rfl (by kernel_rfl) (by kernel_rfl) (by kernel_rfl) (by kernel_rfl) (by kernel_rfl) (fun _ _ _ h => h) (by rfl) (by assumption) ?_ ?_; rotate_left; (focus ((intro w hSw); (try dsimp only at hSw); go_simp; (try with_reducible rfl))); (try simp only [Act.put, List.setIfInBounds_toArray, List.set_cons_zero, List.set_cons_succ])); (refine last_yes (v := ?_) 7 rfl (by kernel_rfl) (by kernel_rfl) (by kernel_rfl) (by kernel_rfl) (by kernel_rfl) (fun _ _ _ h => h) (by rfl) (by assumption) ?_ ?_; rotate_left; (focus ((intro w hSw); (try dsimp only at hSw); go_simp; (try with_reducible rfl))); (try simp only [Act.put, List.setIfInBounds_toArray, List.set_cons_zero, List.set_cons_succ])); (refine last_yes (v := ?_) 8 rfl (by kernel_rfl) (by kernel_rfl) (by kernel_rfl) (by kernel_rfl) (by kernel_rfl) (fun _ _ _ h => h) (by rfl) (by assumption) ?_ ?_; rotate_left; (focus ((intro w hSw); (try dsimp only at hSw); go_simp; (try with_reducible rfl))); (try simp only [Act.put, List.setIfInBounds_toArray, List.set_cons_zero, List.set_cons_succ])); (refine last_yes (v := ?_) 9 rfl (by kernel_rfl) (by kernel_rfl) (by kernel_rfl) (by kernel_rfl) (by kernel_rfl) (fun _ _ _ h => h) (by rfl) (by assumption) ?_ ?_; rotate_left; (focus ((intro w hSw); (try dsimp only at hSw); go_simp; (try with_reducible rfl))); (try simp only [Act.put, List.setIfInBounds_toArray, List.set_cons_zero, List.set_cons_succ])); (refine last_yes (v := ?_) 10 rfl (by kernel_rfl) (by kernel_rfl) (by kernel_rfl) (by kernel_rfl) (by kernel_rfl) (fun _ _ _ h => h) (by rfl) (by assumption) ?_ ?_; rotate_left; (focus ((intro w hSw); (try dsimp only at hSw); go_simp; (try with_reducible rfl))); (try simp only [Act.put, List.setIfInBounds_toArray, List.set_cons_zero, List.set_cons_succ])); (refine last_yes (v := ?_) 11 rfl (by kernel_rfl) (by kernel_rfl) (by kernel_rfl) (by kernel_rfl) (by kernel_rfl) (fun _ _ _ h => h) (by rfl) (by assumption) ?_ ?_; rotate_left; (focus ((intro w hSw); (try dsimp only at hSw); go_simp; (try with_reducible rfl))); (try simp only [Act.put, List.setIfInBounds_toArray, List.set_cons_zero, List.set_cons_succ])); (refine last_yes (v := ?_) 12 rfl (by kernel_rfl) (by kernel_rfl) (by kernel_rfl) (by kernel_rfl) (by kernel_rfl) (fun _ _ _ h => h) (by rfl) (by assumption) ?_ ?_; rotate_left; (focus ((intro w hSw); (try dsimp only at hSw); go_simp; (try with_reducible rfl))); (try simp only [Act.put, List.setIfInBounds_toArray, List.set_cons_zero, List.set_cons_succ])); (refine last_yes (v := ?_) 13 rfl (by kernel_rfl) (by kernel_rfl) (by kernel_rfl) (by kernel_rfl) (by kernel_rfl) (fun _ _ _ h => h) (by rfl) (by assumption) ?_ ?_; rotate_left; (focus ((intro w hSw); (try dsimp only at hSw); go_simp; (try with_reducible rfl))); (try simp only [Act.put, List.setIfInBounds_toArray, List.set_cons_zero, List.set_cons_succ])); (refine last_yes (v := ?_) 14 rfl (by kernel_rfl) (by kernel_rfl) (by kernel_rfl) (by kernel_rfl) (by kernel_rfl) (fun _ _ _ h => h) (by rfl) (by assumption) ?_ ?_; rotate_left; (focus ((intro w hSw); (try dsimp only at hSw); go_simp; (try with_reducible rfl))); (try simp only [Act.put, List.setIfInBounds_toArray, List.set_cons_zero, List.set_cons_succ]))
      (refine last_call 15 rfl (by kernel_rfl) (fun K hK => ?_); go_simp)
      have hba : Below wd0.heap.size wd0 (wd0.alloc (.cells #[.int .i64 4, .int .i64 h0, .int .i64 0, .int .i64 a0, .int .i64 a0, .int .i64 0] 196)) := (Below.refl _ _).alloc (Nat.le_refl _) _
      have hne := Blk.new wd0 #[.int .i64 4, .int .i64 h0, .int .i64 0, .int .i64 a0, .int .i64 a0, .int .i64 0] 196
      have hce := (hba.cell (p := ⟨d.BY, a0, none⟩) (World.block_lt_of_cell? wd0 _ hcell0)).trans hcell0
      have HRe := Lib.hid (HRd.out.below hba)
      have HBe := Lib.hid (HBd.out.below hba)
      have HWe := Lib.hid (HWd.out.trans (hba.mono (Nat.le_of_lt HRd.out.f.ff.2.2)))
      have HOe := own_below HOd.out hba
      (refine hK.out _ _ ⟨HRe.out.kk.1, HBe.out.1, hce⟩ (fun hHeld => ?_); clear hK K; (try simp only [Act.put, List.setIfInBounds_toArray, List.set_cons_zero, List.set_cons_succ]))
      refine last_call 16 rfl (by kernel_rfl) (fun K hK => ?_)
      refine step_rowE rfl _ _ 153 rfl d.C 196 infr _ 6 48 Tryz.underlying153 HIR.out hr0 hr1 hr2 (Nat.le_of_ble_eq_true rfl) rfl (Nat.le_of_ble_eq_true rfl) _ L0 _ rfl HOe _ 1 _ rfl (slA_one hne) (ru1 _ _ _ _ _ _) (by omega) HRe.out.le ?_
      intro s0 c0 w5 ho5 hg5 hn5
      have hk5 : Kp (fun b => some b = (Value.slice ro0 L0 rc0).ownBlock) (wd0.alloc (.cells #[.int .i64 4, .int .i64 h0, .int .i64 0, .int .i64 a0, .int .i64 a0, .int .i64 0] 196)) w5 := Kp.of_grown hg5 (fun b hb => hb)
      have hgX : ∀ b, b < d.C → ¬ some b = (Value.slice ro0 L0 rc0).ownBlock := fun b hb e => by have := (HOe.lt b e.symm).1; omega
      have hK5 := hk5.blk HRe.out.kk (hgX _ (by have := HRe.out.ok.o5; have := HRe.out.ok.o8; omega))
      have hB5 := hk5.blk HBe.out (fun e => hbR0 (a0) (by omega) _ (by rw [HRV0.out]; exact e.symm) rfl)
      have hc5 := (World.cell?_of_block (a := ⟨d.BY, a0, none⟩) (hk5.block _ (World.block_lt_of_cell? _ _ hce) (hgX _ HRe.out.ok.o8))).trans hce
      (refine hK.out _ _ ⟨hK5.1, hB5.1, hc5⟩ (fun hHeld => ?_); clear hK K; (try simp only [Act.put, List.setIfInBounds_toArray, List.set_cons_zero, List.set_cons_succ]))
      (refine last_yes (v := ?_) 17 rfl (by kernel_rfl) (by kernel_rfl) (by kernel_rfl) (by kernel_rfl) (by kernel_rfl) (fun _ _ _ h => h) (by rfl) (by assumption) ?_ ?_; rotate_left; (focus ((intro w hSw); (try dsimp only at hSw); go_simp; (try with_reducible rfl))); (try simp only [Act.put, List.setIfInBounds_toArray, List.set_cons_zero, List.set_cons_succ]))
      have hf5 : w5.frozen? ⟨d.BY, a0, none⟩ = false := ((hk5.blk HRe.out.by_ (hgX _ HRe.out.ok.o8)).2.1 _)
      have HP := Lib.hid (HRe.out.put (p := a0) (by omega) (r := ⟨4, h0, 0, a0, a0, 0⟩) (v' := .slice s0 (L0 + 1) c0) (w1 := w5) (by rw [List.length_append, List.flatMap_append, ← HLe0.out]; exact ho5) (by rw [HRV0.out]; exact hg5) (by rw [HRV0.out]; exact hn5))
      have HPB := Lib.hid (Kp.blk (X := fun b => b = d.BY) (Kp.set (b := d.BY) (o := a0) (v := .slice s0 (L0 + 1) c0) rfl) hB5 (by have := HRe.out.ok.o8; have := HRe.out.ok.o9; omega))
      clear hba hne hce hk5 hgX hK5 hB5 HRd HBd HOd HOe ho5 hg5
      (refine last_end 18 rfl (by kernel_rfl) (by kernel_rfl) (fun K hK => ?_); go_simp)
      clear hc5 hf5
      refine hK.out _ _ ?_
      clear hK K
      have hst9 := HP.out
      rw [show (if a0 < d.n then (⟨d.BY, a0, none⟩ : Addr) else ⟨d.VIA, a0 - d.n, none⟩) = ⟨d.BY, a0, none⟩ from if_pos ha] at hst9
      obtain ⟨w1, hw1⟩ : ∃ V, V = w5.setCell ⟨d.BY, a0, none⟩ (.slice s0 (L0 + 1) c0) := ⟨_, rfl⟩
      rw [← hw1] at hst9 HPB ⊢
      clear hw1
      have HR1 := Lib.hid hst9.1
      have HW1 := Lib.hid (HWe.out.trans hst9.2)
      have HB1 := HPB
      have hnew : Value.ownBlock (.slice s0 (L0 + 1) c0) ≠ some w.heap.size := fun e => hn5 w.heap.size HBe.out.2.2 (fun e2 => hbR0 (a0) (by omega) _ (by rw [HRV0.out]; exact e2.symm) rfl) e.symm
      have hbR1 : ∀ q, q < d.n + d.lk → ∀ g, (rowPut (rv) (a0) (.slice s0 (L0 + 1) c0) q).ownBlock = some g → g ≠ w.heap.size := fun q hq g hg => by
        unfold rowPut at hg
        by_cases e : q = a0
        · rw [if_pos e] at hg
          intro eg
          exact hnew (eg ▸ hg)
        · rw [if_neg e] at hg; exact hbR0 q hq g hg
      clear HP HPB HWe HRe HBe hn5 hst9 hnew
      go_wp2
      go_end0
      refine ⟨rfl, _, fs, qv, st + 1, HR1.out.at (fun p hp => ?_), HW1.out, Grow.refl _ _ _, (fun e => by simp at e), by omega⟩
      rw [SN.out p]
      unfold takesR
      by_cases e : p = a0
      · subst e; rw [if_pos rfl, if_pos ha]; simp
      · rw [if_neg e]
        by_cases hpn : p < d.n
        · rw [if_pos hpn]; simp; omega
        · rw [if_neg hpn]; simp
    · have hh : h0 < d.n := hh
      have ha : a0 < d.n := ha
      have hb : b0 < d.n := hb
      obtain ⟨w3, hw3⟩ : ∃ V, V = (w.setCell ⟨d.M, 3, none⟩ (.int .i64 ((st : Int) + 1))).alloc (.cells #[.int .i64 4, .int .i64 h0, .int .i64 0, .int .i64 a0, .int .i64 b0, .int .i64 0] 196) := ⟨_, rfl⟩
      have HA := Lib.hid (show MkAt w3 d rs rv fs k qv (st + 1) by rw [hw3]; exact (h.steps (st + 1)).below ((Below.refl _ _).alloc (Nat.le_refl _) _))
      have HB := Lib.hid (show Below d.F w w3 by rw [hw3]; exact (kp_low (Kp.set (X := mkX d qv) (w := w) (o := 3) (v := .int .i64 ((st : Int) + 1)) (.inl rfl)) hlow (mkX_ge h)).alloc (by simpa using hlow) _)
      have HR3 := Lib.hid (show Blk w3 w.heap.size #[.int .i64 4, .int .i64 h0, .int .i64 0, .int .i64 a0, .int .i64 b0, .int .i64 0] by rw [hw3]; have := Blk.new (w.setCell ⟨d.M, 3, none⟩ (.int .i64 ((st : Int) + 1))) #[.int .i64 4, .int .i64 h0, .int .i64 0, .int .i64 a0, .int .i64 b0, .int .i64 0] 196; simpa using this)
      have hbC : d.C ≤ w.heap.size := h.b.le
      have hbR : ∀ p, p < d.n + d.lk → ∀ g, (rv p).ownBlock = some g → g ≠ w.heap.size := fun p hp g hg e => by have := ((h.b.own p hp).lt g hg).2; omega
      have hbQ : ∀ g, qv.ownBlock = some g → g ≠ w.heap.size := fun g hg e => by have := (h.qge g hg).2; omega
      clear h
      have HR0 := Lib.hid HA.out.r
      have HB0 := HR3
      have HW0 := HB
      have hbR0 := hbR
      clear HA HR3 HB hbR
      have dab : ((b0 : Int) != (a0 : Int)) = true := by rw [bne_iff_ne]; omega
      go_enter Tryz.func186, Tryz.ntmps186
      go_wp2_with fail
      rw [← hw3]
      clear hw3 ck fk zk cm fm zm
      have hL0 : (rowL d.n rs (b0)).length ≤ 100001 := Nat.le_succ_of_le (Nat.le_trans (HL _) hrs)
      have hown0 := HR0.out.own (b0) (by omega)
      obtain ⟨ro0, rc0, hrv0⟩ := own_form hown0
      obtain ⟨L0, hLe0⟩ : ∃ L, L = (rowL d.n rs (b0)).length := ⟨_, rfl⟩
      rw [← hLe0] at hrv0 hL0
      have HLe0 := Lib.hid hLe0
      have HRV0 := Lib.hid hrv0
      rw [hrv0, ← hLe0] at hown0
      have HOW0 := Lib.hid hown0
      have HRa := HR0.out.below (below_drew (Below.refl _ _))
      have hcell0 : (w3.drew).cell? ⟨d.BY, b0, none⟩ = some (.slice ro0 L0 rc0) := by have := (HRa.by_).1 (b0); rw [arrOf_get, if_pos hb, hrv0] at this; exact this
      have HRd := Lib.hid HRa
      have HBd := Lib.hid (HB0.out.below (below_drew (Below.refl _ _)))
      have HWd := Lib.hid (HW0.out.trans ((below_drew (Below.refl _ _)).mono (HR0.out.f.ff.2.2 |> Nat.le_of_lt)))
      have HOd := Lib.hid (own_below HOW0.out (below_drew (Below.refl w3.heap.size w3)))
      clear HRa hown0 HOW0 hLe0
      refine wp_region_last (S := (fun W => (∀ o, W.cell? ⟨d.K, o, none⟩ = (#[.pointer (some ⟨d.M, 0, none⟩), .slice (some ⟨d.BY, 0, none⟩) d.n d.n, .slice (some ⟨d.VIA, 0, none⟩) d.lk d.lk, qv] : Array Value)[o]?) ∧ (∀ o, W.cell? ⟨w.heap.size, o, none⟩ = (#[.int .i64 4, .int .i64 h0, .int .i64 0, .int .i64 a0, .int .i64 b0, .int .i64 0] : Array Value)[o]?) ∧ W.cell? ⟨d.BY, b0, none⟩ = some (.slice ro0 L0 rc0))) 18 (by kernel_rfl) ⟨HRd.out.kk.1, HBd.out.1, hcell0⟩ (fun hHeld => ?_)
      obtain ⟨wd0, hwd⟩ : ∃ W, W = w3.drew := ⟨_, rfl⟩
      rw [← hwd] at HRd HBd HWd HOd hHeld hcell0 ⊢
      clear hwd hrv0 HR0 HB0 HW0
      (refine last_yes (v := ?_) 0 rfl (by kernel_rfl) (by kernel_rfl) (by kernel_rfl) (by kernel_rfl) (by kernel_rfl) (fun _ _ _ h => h) (by rfl) (by assumption) ?_ ?_; rotate_left; (focus ((intro w hSw); (try dsimp only at hSw); go_simp; (try with_reducible rfl))); (try simp only [Act.put, List.setIfInBounds_toArray, List.set_cons_zero, List.set_cons_succ])); (refine last_yes (v := ?_) 1 rfl (by kernel_rfl) (by kernel_rfl) (by kernel_rfl) (by kernel_rfl) (by kernel_rfl) (fun _ _ _ h => h) (by rfl) (by assumption) ?_ ?_; rotate_left; (focus ((intro w hSw); (try dsimp only at hSw); go_simp; (try with_reducible rfl))); (try simp only [Act.put, List.setIfInBounds_toArray, List.set_cons_zero, List.set_cons_succ])); (refine last_yes (v := ?_) 2 rfl (by kernel_rfl) (by kernel_rfl) (by kernel_rfl) (by kernel_rfl) (by kernel_rfl) (fun _ _ _ h => h) (by rfl) (by assumption) ?_ ?_; rotate_left; (focus ((intro w hSw); (try dsimp only at hSw); go_simp; (try with_reducible rfl))); (try simp only [Act.put, List.setIfInBounds_toArray, List.set_cons_zero, List.set_cons_succ])); (refine last_yes (v := ?_) 3 rfl (by kernel_rfl) (by kernel_rfl) (by kernel_rfl) (by kernel_rfl) (by kernel_rfl) (fun _ _ _ h => h) (by rfl) (by assumption) ?_ ?_; rotate_left; (focus ((intro w hSw); (try dsimp only at hSw); go_simp; (try with_reducible rfl))); (try simp only [Act.put, List.setIfInBounds_toArray, List.set_cons_zero, List.set_cons_succ])); (refine last_yes (v := ?_) 4 rfl (by kernel_rfl) (by kernel_rfl) (by kernel_rfl) (by kernel_rfl) (by kernel_rfl) (fun _ _ _ h => h) (by rfl) (by assumption) ?_ ?_; rotate_left; (focus ((intro w hSw); (try dsimp only at hSw); go_simp; (try with_reducible rfl))); (try simp only [Act.put, List.setIfInBounds_toArray, List.set_cons_zero, List.set_cons_succ])); (refine last_yes (v := ?_) 5 rfl (by kernel_rfl) (by kernel_rfl) (by kernel_rfl) (by kernel_rfl) (by kernel_rfl) (fun _ _ _ h => h) (by rfl) (by assumption) ?_ ?_; rotate_left; (focus ((intro w hSw); (try dsimp only at hSw); go_simp; (try with_reducible rfl))); (try simp only [Act.put, List.setIfInBounds_toArray, List.set_cons_zero, List.set_cons_succ])); (refine last_yes (v := ?_) 6 rfl (by kernel_rfl) (by kernel_rfl) (by kernel_rfl) (by kernel_rfl) (by kernel_rfl) (fun _ _ _ h => h) (by rfl) (by assumption) ?_ ?_; rotate_left; (focus ((intro w hSw); (try dsimp only at hSw); go_simp; (try with_reducible rfl))); (try simp only [Act.put, List.setIfInBounds_toArray, List.set_cons_zero, List.set_cons_succ])); (refine last_yes (v := ?_) 7 rfl (by kernel_rfl) (by kernel_rfl) (by kernel_rfl) (by kernel_rfl) (by kernel_rfl) (fun _ _ _ h => h) (by rfl) (by assumption) ?_ ?_; rotate_left; (focus ((intro w hSw); (try dsimp only at hSw); go_simp; (try with_reducible rfl))); (try simp only [Act.put, List.setIfInBounds_toArray, List.set_cons_zero, List.set_cons_succ])); (refine last_yes (v := ?_) 8 rfl (by kernel_rfl) (by kernel_rfl) (by kernel_rfl) (by kernel_rfl) (by kernel_rfl) (fun _ _ _ h => h) (by rfl) (by assumption) ?_ ?_; rotate_left; (focus ((intro w hSw); (try dsimp only at hSw); go_simp; (try with_reducible rfl))); (try simp only [Act.put, List.setIfInBounds_toArray, List.set_cons_zero, List.set_cons_succ])); (refine last_yes (v := ?_) 9 rfl (by kernel_rfl) (by kernel_rfl) (by kernel_rfl) (by kernel_rfl) (by kernel_rfl) (fun _ _ _ h => h) (by rfl) (by assumption) ?_ ?_; rotate_left; (focus ((intro w hSw); (try dsimp only at hSw); go_simp; (try with_reducible rfl))); (try simp only [Act.put, List.setIfInBounds_toArray, List.set_cons_zero, List.set_cons_succ])); (refine last_yes (v := ?_) 10 rfl (by kernel_rfl) (by kernel_rfl) (by kernel_rfl) (by kernel_rfl) (by kernel_rfl) (fun _ _ _ h => h) (by rfl) (by assumption) ?_ ?_; rotate_left; (focus ((intro w hSw); (try dsimp only at hSw); go_simp; (try with_reducible rfl))); (try simp only [Act.put, List.setIfInBounds_toArray, List.set_cons_zero, List.set_cons_succ])); (refine last_yes (v := ?_) 11 rfl (by kernel_rfl) (by kernel_rfl) (by kernel_rfl) (by kernel_rfl) (by kernel_rfl) (fun _ _ _ h => h) (by rfl) (by assumption) ?_ ?_; rotate_left; (focus ((intro w hSw); (try dsimp only at hSw); go_simp; (try with_reducible rfl))); (try simp only [Act.put, List.setIfInBounds_toArray, List.set_cons_zero, List.set_cons_succ])); (refine last_yes (v := ?_) 12 rfl (by kernel_rfl) (by kernel_rfl) (by kernel_rfl) (by kernel_rfl) (by kernel_rfl) (fun _ _ _ h => h) (by rfl) (by assumption) ?_ ?_; rotate_left; (focus ((intro w hSw); (try dsimp only at hSw); go_simp; (try with_reducible rfl))); (try simp only [Act.put, List.setIfInBounds_toArray, List.set_cons_zero, List.set_cons_succ])); (refine last_yes (v := ?_) 13 rfl (by kernel_rfl) (by kernel_rfl) (by kernel_rfl) (by kernel_rfl) (by kernel_rfl) (fun _ _ _ h => h) (by rfl) (by assumption) ?_ ?_; rotate_left; (focus ((intro w hSw); (try dsimp only at hSw); go_simp; (try with_reducible rfl))); (try simp only [Act.put, List.setIfInBounds_toArray, List.set_cons_zero, List.set_cons_succ])); (refine last_yes (v := ?_) 14 rfl (by kernel_rfl) (by kernel_rfl) (by kernel_rfl) (by kernel_rfl) (by kernel_rfl) (fun _ _ _ h => h) (by rfl) (by assumption) ?_ ?_; rotate_left; (focus ((intro w hSw); (try dsimp only at hSw); go_simp; (try with_reducible rfl))); (try simp only [Act.put, List.setIfInBounds_toArray, List.set_cons_zero, List.set_cons_succ]))
      (refine last_call 15 rfl (by kernel_rfl) (fun K hK => ?_); go_simp)
      have hba : Below wd0.heap.size wd0 (wd0.alloc (.cells #[.int .i64 4, .int .i64 h0, .int .i64 0, .int .i64 a0, .int .i64 b0, .int .i64 0] 196)) := (Below.refl _ _).alloc (Nat.le_refl _) _
      have hne := Blk.new wd0 #[.int .i64 4, .int .i64 h0, .int .i64 0, .int .i64 a0, .int .i64 b0, .int .i64 0] 196
      have hce := (hba.cell (p := ⟨d.BY, b0, none⟩) (World.block_lt_of_cell? wd0 _ hcell0)).trans hcell0
      have HRe := Lib.hid (HRd.out.below hba)
      have HBe := Lib.hid (HBd.out.below hba)
      have HWe := Lib.hid (HWd.out.trans (hba.mono (Nat.le_of_lt HRd.out.f.ff.2.2)))
      have HOe := own_below HOd.out hba
      (refine hK.out _ _ ⟨HRe.out.kk.1, HBe.out.1, hce⟩ (fun hHeld => ?_); clear hK K; (try simp only [Act.put, List.setIfInBounds_toArray, List.set_cons_zero, List.set_cons_succ]))
      refine last_call 16 rfl (by kernel_rfl) (fun K hK => ?_)
      refine step_rowE rfl _ _ 153 rfl d.C 196 infr _ 6 48 Tryz.underlying153 HIR.out hr0 hr1 hr2 (Nat.le_of_ble_eq_true rfl) rfl (Nat.le_of_ble_eq_true rfl) _ L0 _ rfl HOe _ 1 _ rfl (slA_one hne) (ru1 _ _ _ _ _ _) (by omega) HRe.out.le ?_
      intro s0 c0 w5 ho5 hg5 hn5
      have hk5 : Kp (fun b => some b = (Value.slice ro0 L0 rc0).ownBlock) (wd0.alloc (.cells #[.int .i64 4, .int .i64 h0, .int .i64 0, .int .i64 a0, .int .i64 b0, .int .i64 0] 196)) w5 := Kp.of_grown hg5 (fun b hb => hb)
      have hgX : ∀ b, b < d.C → ¬ some b = (Value.slice ro0 L0 rc0).ownBlock := fun b hb e => by have := (HOe.lt b e.symm).1; omega
      have hK5 := hk5.blk HRe.out.kk (hgX _ (by have := HRe.out.ok.o5; have := HRe.out.ok.o8; omega))
      have hB5 := hk5.blk HBe.out (fun e => hbR0 (b0) (by omega) _ (by rw [HRV0.out]; exact e.symm) rfl)
      have hc5 := (World.cell?_of_block (a := ⟨d.BY, b0, none⟩) (hk5.block _ (World.block_lt_of_cell? _ _ hce) (hgX _ HRe.out.ok.o8))).trans hce
      (refine hK.out _ _ ⟨hK5.1, hB5.1, hc5⟩ (fun hHeld => ?_); clear hK K; (try simp only [Act.put, List.setIfInBounds_toArray, List.set_cons_zero, List.set_cons_succ]))
      (refine last_yes (v := ?_) 17 rfl (by kernel_rfl) (by kernel_rfl) (by kernel_rfl) (by kernel_rfl) (by kernel_rfl) (fun _ _ _ h => h) (by rfl) (by assumption) ?_ ?_; rotate_left; (focus ((intro w hSw); (try dsimp only at hSw); go_simp; (try with_reducible rfl))); (try simp only [Act.put, List.setIfInBounds_toArray, List.set_cons_zero, List.set_cons_succ]))
      have hf5 : w5.frozen? ⟨d.BY, b0, none⟩ = false := ((hk5.blk HRe.out.by_ (hgX _ HRe.out.ok.o8)).2.1 _)
      have HP := Lib.hid (HRe.out.put (p := b0) (by omega) (r := ⟨4, h0, 0, a0, b0, 0⟩) (v' := .slice s0 (L0 + 1) c0) (w1 := w5) (by rw [List.length_append, List.flatMap_append, ← HLe0.out]; exact ho5) (by rw [HRV0.out]; exact hg5) (by rw [HRV0.out]; exact hn5))
      have HPB := Lib.hid (Kp.blk (X := fun b => b = d.BY) (Kp.set (b := d.BY) (o := b0) (v := .slice s0 (L0 + 1) c0) rfl) hB5 (by have := HRe.out.ok.o8; have := HRe.out.ok.o9; omega))
      clear hba hne hce hk5 hgX hK5 hB5 HRd HBd HOd HOe ho5 hg5
      (refine last_end 18 rfl (by kernel_rfl) (by kernel_rfl) (fun K hK => ?_); go_simp)
      clear hc5 hf5
      refine hK.out _ _ ?_
      clear hK K
      have hst9 := HP.out
      rw [show (if b0 < d.n then (⟨d.BY, b0, none⟩ : Addr) else ⟨d.VIA, b0 - d.n, none⟩) = ⟨d.BY, b0, none⟩ from if_pos hb] at hst9
      obtain ⟨w1, hw1⟩ : ∃ V, V = w5.setCell ⟨d.BY, b0, none⟩ (.slice s0 (L0 + 1) c0) := ⟨_, rfl⟩
      rw [← hw1] at hst9 HPB ⊢
      clear hw1
      have HR1 := Lib.hid hst9.1
      have HW1 := Lib.hid (HWe.out.trans hst9.2)
      have HB1 := HPB
      have hnew : Value.ownBlock (.slice s0 (L0 + 1) c0) ≠ some w.heap.size := fun e => hn5 w.heap.size HBe.out.2.2 (fun e2 => hbR0 (b0) (by omega) _ (by rw [HRV0.out]; exact e2.symm) rfl) e.symm
      have hbR1 : ∀ q, q < d.n + d.lk → ∀ g, (rowPut (rv) (b0) (.slice s0 (L0 + 1) c0) q).ownBlock = some g → g ≠ w.heap.size := fun q hq g hg => by
        unfold rowPut at hg
        by_cases e : q = b0
        · rw [if_pos e] at hg
          intro eg
          exact hnew (eg ▸ hg)
        · rw [if_neg e] at hg; exact hbR0 q hq g hg
      clear HP HPB HWe HRe HBe hn5 hst9 hnew
      go_wp2_with fail
      have hL1 : ((fun q => if q = b0 then rowL d.n rs b0 ++ [⟨4, h0, 0, a0, b0, 0⟩] else rowL d.n rs q) (a0)).length ≤ 100001 := by dsimp only; rw [if_neg (show ¬ a0 = b0 by omega)]; exact Nat.le_succ_of_le (Nat.le_trans (HL _) hrs)
      have hown1 := HR1.out.own (a0) (by omega)
      obtain ⟨ro1, rc1, hrv1⟩ := own_form hown1
      obtain ⟨L1, hLe1⟩ : ∃ L, L = ((fun q => if q = b0 then rowL d.n rs b0 ++ [⟨4, h0, 0, a0, b0, 0⟩] else rowL d.n rs q) (a0)).length := ⟨_, rfl⟩
      rw [← hLe1] at hrv1 hL1
      have HLe1 := Lib.hid hLe1
      have HRV1 := Lib.hid hrv1
      rw [hrv1, ← hLe1] at hown1
      have HOW1 := Lib.hid hown1
      have HRa := HR1.out.below (below_drew (Below.refl _ _))
      have hcell1 : (w1.drew).cell? ⟨d.BY, a0, none⟩ = some (.slice ro1 L1 rc1) := by have := (HRa.by_).1 (a0); rw [arrOf_get, if_pos ha, hrv1] at this; exact this
      have HRd := Lib.hid HRa
      have HBd := Lib.hid (HB1.out.below (below_drew (Below.refl _ _)))
      have HWd := Lib.hid (HW1.out.trans ((below_drew (Below.refl _ _)).mono (HR1.out.f.ff.2.2 |> Nat.le_of_lt)))
      have HOd := Lib.hid (own_below HOW1.out (below_drew (Below.refl w1.heap.size w1)))
      clear HRa hown1 HOW1 hLe1
      refine wp_region_last (S := (fun W => (∀ o, W.cell? ⟨d.K, o, none⟩ = (#[.pointer (some ⟨d.M, 0, none⟩), .slice (some ⟨d.BY, 0, none⟩) d.n d.n, .slice (some ⟨d.VIA, 0, none⟩) d.lk d.lk, qv] : Array Value)[o]?) ∧ (∀ o, W.cell? ⟨w.heap.size, o, none⟩ = (#[.int .i64 4, .int .i64 h0, .int .i64 0, .int .i64 a0, .int .i64 b0, .int .i64 0] : Array Value)[o]?) ∧ W.cell? ⟨d.BY, a0, none⟩ = some (.slice ro1 L1 rc1))) 18 (by kernel_rfl) ⟨HRd.out.kk.1, HBd.out.1, hcell1⟩ (fun hHeld => ?_)
      obtain ⟨wd1, hwd⟩ : ∃ W, W = w1.drew := ⟨_, rfl⟩
      rw [← hwd] at HRd HBd HWd HOd hHeld hcell1 ⊢
      clear hwd hrv1 HR1 HB1 HW1
      (refine last_yes (v := ?_) 0 rfl (by kernel_rfl) (by kernel_rfl) (by kernel_rfl) (by kernel_rfl) (by kernel_rfl) (fun _ _ _ h => h) (by rfl) (by assumption) ?_ ?_; rotate_left; (focus ((intro w hSw); (try dsimp only at hSw); go_simp; (try with_reducible rfl))); (try simp only [Act.put, List.setIfInBounds_toArray, List.set_cons_zero, List.set_cons_succ])); (refine last_yes (v := ?_) 1 rfl (by kernel_rfl) (by kernel_rfl) (by kernel_rfl) (by kernel_rfl) (by kernel_rfl) (fun _ _ _ h => h) (by rfl) (by assumption) ?_ ?_; rotate_left; (focus ((intro w hSw); (try dsimp only at hSw); go_simp; (try with_reducible rfl))); (try simp only [Act.put, List.setIfInBounds_toArray, List.set_cons_zero, List.set_cons_succ])); (refine last_yes (v := ?_) 2 rfl (by kernel_rfl) (by kernel_rfl) (by kernel_rfl) (by kernel_rfl) (by kernel_rfl) (fun _ _ _ h => h) (by rfl) (by assumption) ?_ ?_; rotate_left; (focus ((intro w hSw); (try dsimp only at hSw); go_simp; (try with_reducible rfl))); (try simp only [Act.put, List.setIfInBounds_toArray, List.set_cons_zero, List.set_cons_succ])); (refine last_yes (v := ?_) 3 rfl (by kernel_rfl) (by kernel_rfl) (by kernel_rfl) (by kernel_rfl) (by kernel_rfl) (fun _ _ _ h => h) (by rfl) (by assumption) ?_ ?_; rotate_left; (focus ((intro w hSw); (try dsimp only at hSw); go_simp; (try with_reducible rfl))); (try simp only [Act.put, List.setIfInBounds_toArray, List.set_cons_zero, List.set_cons_succ])); (refine last_yes (v := ?_) 4 rfl (by kernel_rfl) (by kernel_rfl) (by kernel_rfl) (by kernel_rfl) (by kernel_rfl) (fun _ _ _ h => h) (by rfl) (by assumption) ?_ ?_; rotate_left; (focus ((intro w hSw); (try dsimp only at hSw); go_simp; (try with_reducible rfl))); (try simp only [Act.put, List.setIfInBounds_toArray, List.set_cons_zero, List.set_cons_succ])); (refine last_yes (v := ?_) 5 rfl (by kernel_rfl) (by kernel_rfl) (by kernel_rfl) (by kernel_rfl) (by kernel_rfl) (fun _ _ _ h => h) (by rfl) (by assumption) ?_ ?_; rotate_left; (focus ((intro w hSw); (try dsimp only at hSw); go_simp; (try with_reducible rfl))); (try simp only [Act.put, List.setIfInBounds_toArray, List.set_cons_zero, List.set_cons_succ])); (refine last_yes (v := ?_) 6 rfl (by kernel_rfl) (by kernel_rfl) (by kernel_rfl) (by kernel_rfl) (by kernel_rfl) (fun _ _ _ h => h) (by rfl) (by assumption) ?_ ?_; rotate_left; (focus ((intro w hSw); (try dsimp only at hSw); go_simp; (try with_reducible rfl))); (try simp only [Act.put, List.setIfInBounds_toArray, List.set_cons_zero, List.set_cons_succ])); (refine last_yes (v := ?_) 7 rfl (by kernel_rfl) (by kernel_rfl) (by kernel_rfl) (by kernel_rfl) (by kernel_rfl) (fun _ _ _ h => h) (by rfl) (by assumption) ?_ ?_; rotate_left; (focus ((intro w hSw); (try dsimp only at hSw); go_simp; (try with_reducible rfl))); (try simp only [Act.put, List.setIfInBounds_toArray, List.set_cons_zero, List.set_cons_succ])); (refine last_yes (v := ?_) 8 rfl (by kernel_rfl) (by kernel_rfl) (by kernel_rfl) (by kernel_rfl) (by kernel_rfl) (fun _ _ _ h => h) (by rfl) (by assumption) ?_ ?_; rotate_left; (focus ((intro w hSw); (try dsimp only at hSw); go_simp; (try with_reducible rfl))); (try simp only [Act.put, List.setIfInBounds_toArray, List.set_cons_zero, List.set_cons_succ])); (refine last_yes (v := ?_) 9 rfl (by kernel_rfl) (by kernel_rfl) (by kernel_rfl) (by kernel_rfl) (by kernel_rfl) (fun _ _ _ h => h) (by rfl) (by assumption) ?_ ?_; rotate_left; (focus ((intro w hSw); (try dsimp only at hSw); go_simp; (try with_reducible rfl))); (try simp only [Act.put, List.setIfInBounds_toArray, List.set_cons_zero, List.set_cons_succ])); (refine last_yes (v := ?_) 10 rfl (by kernel_rfl) (by kernel_rfl) (by kernel_rfl) (by kernel_rfl) (by kernel_rfl) (fun _ _ _ h => h) (by rfl) (by assumption) ?_ ?_; rotate_left; (focus ((intro w hSw); (try dsimp only at hSw); go_simp; (try with_reducible rfl))); (try simp only [Act.put, List.setIfInBounds_toArray, List.set_cons_zero, List.set_cons_succ])); (refine last_yes (v := ?_) 11 rfl (by kernel_rfl) (by kernel_rfl) (by kernel_rfl) (by kernel_rfl) (by kernel_rfl) (fun _ _ _ h => h) (by rfl) (by assumption) ?_ ?_; rotate_left; (focus ((intro w hSw); (try dsimp only at hSw); go_simp; (try with_reducible rfl))); (try simp only [Act.put, List.setIfInBounds_toArray, List.set_cons_zero, List.set_cons_succ])); (refine last_yes (v := ?_) 12 rfl (by kernel_rfl) (by kernel_rfl) (by kernel_rfl) (by kernel_rfl) (by kernel_rfl) (fun _ _ _ h => h) (by rfl) (by assumption) ?_ ?_; rotate_left; (focus ((intro w hSw); (try dsimp only at hSw); go_simp; (try with_reducible rfl))); (try simp only [Act.put, List.setIfInBounds_toArray, List.set_cons_zero, List.set_cons_succ])); (refine last_yes (v := ?_) 13 rfl (by kernel_rfl) (by kernel_rfl) (by kernel_rfl) (by kernel_rfl) (by kernel_rfl) (fun _ _ _ h => h) (by rfl) (by assumption) ?_ ?_; rotate_left; (focus ((intro w hSw); (try dsimp only at hSw); go_simp; (try with_reducible rfl))); (try simp only [Act.put, List.setIfInBounds_toArray, List.set_cons_zero, List.set_cons_succ])); (refine last_yes (v := ?_) 14 rfl (by kernel_rfl) (by kernel_rfl) (by kernel_rfl) (by kernel_rfl) (by kernel_rfl) (fun _ _ _ h => h) (by rfl) (by assumption) ?_ ?_; rotate_left; (focus ((intro w hSw); (try dsimp only at hSw); go_simp; (try with_reducible rfl))); (try simp only [Act.put, List.setIfInBounds_toArray, List.set_cons_zero, List.set_cons_succ]))
      (refine last_call 15 rfl (by kernel_rfl) (fun K hK => ?_); go_simp)
      have hba : Below wd1.heap.size wd1 (wd1.alloc (.cells #[.int .i64 4, .int .i64 h0, .int .i64 0, .int .i64 a0, .int .i64 b0, .int .i64 0] 196)) := (Below.refl _ _).alloc (Nat.le_refl _) _
      have hne := Blk.new wd1 #[.int .i64 4, .int .i64 h0, .int .i64 0, .int .i64 a0, .int .i64 b0, .int .i64 0] 196
      have hce := (hba.cell (p := ⟨d.BY, a0, none⟩) (World.block_lt_of_cell? wd1 _ hcell1)).trans hcell1
      have HRe := Lib.hid (HRd.out.below hba)
      have HBe := Lib.hid (HBd.out.below hba)
      have HWe := Lib.hid (HWd.out.trans (hba.mono (Nat.le_of_lt HRd.out.f.ff.2.2)))
      have HOe := own_below HOd.out hba
      (refine hK.out _ _ ⟨HRe.out.kk.1, HBe.out.1, hce⟩ (fun hHeld => ?_); clear hK K; (try simp only [Act.put, List.setIfInBounds_toArray, List.set_cons_zero, List.set_cons_succ]))
      refine last_call 16 rfl (by kernel_rfl) (fun K hK => ?_)
      refine step_rowE rfl _ _ 153 rfl d.C 196 infr _ 6 48 Tryz.underlying153 HIR.out hr0 hr1 hr2 (Nat.le_of_ble_eq_true rfl) rfl (Nat.le_of_ble_eq_true rfl) _ L1 _ rfl HOe _ 1 _ rfl (slA_one hne) (ru1 _ _ _ _ _ _) (by omega) HRe.out.le ?_
      intro s1 c1 w5 ho5 hg5 hn5
      have hk5 : Kp (fun b => some b = (Value.slice ro1 L1 rc1).ownBlock) (wd1.alloc (.cells #[.int .i64 4, .int .i64 h0, .int .i64 0, .int .i64 a0, .int .i64 b0, .int .i64 0] 196)) w5 := Kp.of_grown hg5 (fun b hb => hb)
      have hgX : ∀ b, b < d.C → ¬ some b = (Value.slice ro1 L1 rc1).ownBlock := fun b hb e => by have := (HOe.lt b e.symm).1; omega
      have hK5 := hk5.blk HRe.out.kk (hgX _ (by have := HRe.out.ok.o5; have := HRe.out.ok.o8; omega))
      have hB5 := hk5.blk HBe.out (fun e => hbR1 (a0) (by omega) _ (by rw [HRV1.out]; exact e.symm) rfl)
      have hc5 := (World.cell?_of_block (a := ⟨d.BY, a0, none⟩) (hk5.block _ (World.block_lt_of_cell? _ _ hce) (hgX _ HRe.out.ok.o8))).trans hce
      (refine hK.out _ _ ⟨hK5.1, hB5.1, hc5⟩ (fun hHeld => ?_); clear hK K; (try simp only [Act.put, List.setIfInBounds_toArray, List.set_cons_zero, List.set_cons_succ]))
      (refine last_yes (v := ?_) 17 rfl (by kernel_rfl) (by kernel_rfl) (by kernel_rfl) (by kernel_rfl) (by kernel_rfl) (fun _ _ _ h => h) (by rfl) (by assumption) ?_ ?_; rotate_left; (focus ((intro w hSw); (try dsimp only at hSw); go_simp; (try with_reducible rfl))); (try simp only [Act.put, List.setIfInBounds_toArray, List.set_cons_zero, List.set_cons_succ]))
      have hf5 : w5.frozen? ⟨d.BY, a0, none⟩ = false := ((hk5.blk HRe.out.by_ (hgX _ HRe.out.ok.o8)).2.1 _)
      have HP := Lib.hid (HRe.out.put (p := a0) (by omega) (r := ⟨4, h0, 0, a0, b0, 0⟩) (v' := .slice s1 (L1 + 1) c1) (w1 := w5) (by rw [List.length_append, List.flatMap_append, ← HLe1.out]; exact ho5) (by rw [HRV1.out]; exact hg5) (by rw [HRV1.out]; exact hn5))
      have HPB := Lib.hid (Kp.blk (X := fun b => b = d.BY) (Kp.set (b := d.BY) (o := a0) (v := .slice s1 (L1 + 1) c1) rfl) hB5 (by have := HRe.out.ok.o8; have := HRe.out.ok.o9; omega))
      clear hba hne hce hk5 hgX hK5 hB5 HRd HBd HOd HOe ho5 hg5
      (refine last_end 18 rfl (by kernel_rfl) (by kernel_rfl) (fun K hK => ?_); go_simp)
      clear hc5 hf5
      refine hK.out _ _ ?_
      clear hK K
      have hst9 := HP.out
      rw [show (if a0 < d.n then (⟨d.BY, a0, none⟩ : Addr) else ⟨d.VIA, a0 - d.n, none⟩) = ⟨d.BY, a0, none⟩ from if_pos ha] at hst9
      obtain ⟨w2, hw2⟩ : ∃ V, V = w5.setCell ⟨d.BY, a0, none⟩ (.slice s1 (L1 + 1) c1) := ⟨_, rfl⟩
      rw [← hw2] at hst9 HPB ⊢
      clear hw2
      have HR2 := Lib.hid hst9.1
      have HW2 := Lib.hid (HWe.out.trans hst9.2)
      have HB2 := HPB
      have hnew : Value.ownBlock (.slice s1 (L1 + 1) c1) ≠ some w.heap.size := fun e => hn5 w.heap.size HBe.out.2.2 (fun e2 => hbR1 (a0) (by omega) _ (by rw [HRV1.out]; exact e2.symm) rfl) e.symm
      have hbR2 : ∀ q, q < d.n + d.lk → ∀ g, (rowPut (rowPut rv b0 (.slice s0 (L0 + 1) c0)) (a0) (.slice s1 (L1 + 1) c1) q).ownBlock = some g → g ≠ w.heap.size := fun q hq g hg => by
        unfold rowPut at hg
        by_cases e : q = a0
        · rw [if_pos e] at hg
          intro eg
          exact hnew (eg ▸ hg)
        · rw [if_neg e] at hg; exact hbR1 q hq g hg
      clear HP HPB HWe HRe HBe hn5 hst9 hnew
      go_wp2
      go_end0
      refine ⟨rfl, _, fs, qv, st + 1, HR2.out.at (fun p hp => ?_), HW2.out, Grow.refl _ _ _, (fun e => by simp at e), by omega⟩
      rw [SN.out p]
      unfold takesR
      by_cases e : p = a0
      · subst e
        rw [if_pos rfl, if_neg (show ¬ p = b0 by omega), if_pos ha]; simp
      · rw [if_neg e]
        by_cases e2 : p = b0
        · subst e2
          rw [if_pos rfl, if_pos hb]; simp
        · rw [if_neg e2]
          by_cases hpn : p < d.n
          · rw [if_pos hpn]; simp; omega
          · rw [if_neg hpn]; simp
end Go.Proofs.YtcmdhfccdkjenaaGreatDoor
