/- syn.Parse: what it returns, for every line. -/
import Derived.Test.YtmpanikeeeoikaaDoorReadBody
import Derived.Test.YtmpanikeeeoikaaDoorSynMore
import Derived.Test.YtmpanikeeeoikaaDoorScanTok
import Derived.Test.YtmpanikeeeoikaaDoorShelf2
namespace Go.Proofs.YtmpanikeeeoikaaDoor
open Go.RowKit Go.Shelf

def Rd.fin (r : Rd) (s : St) : St × Int × Int :=
  if r.why ≠ 0 then (noS, r.p, r.why) else match r.l with | [] => (normalS s, 0, 0) | t :: _ => (noS, t.col, 2)
theorem fin_bad {r : Rd} {s : St} (h : ¬ r.why = 0) : r.fin s = (noS, r.p, r.why) := if_pos h
def Rd.stmt (r : Rd) : St × Rd := (r.role.2.take 4).2.body ⟨0, r.role.1, emp, noR, noR, emp⟩
def parseT (t : List Tok × Int × Int) (e : Int) : St × Int × Int :=
  if t.2.2 ≠ 0 then (noS, t.2.1, t.2.2) else (Rd.mk t.1 e 0 0).stmt.2.fin (Rd.mk t.1 e 0 0).stmt.1
def endOf (s : ByteArray) : Int := ((Lib.trimRightB (bare (bl s)) 32).length : Int) + 1
/-- The statement that a line is, or what is wrong first, and where. -/
def parseS (s : ByteArray) : St × Int × Int := parseT (tokens (bl s)) (endOf s)
theorem parseT_bad {t : List Tok × Int × Int} {e : Int} (h : t.2.2 ≠ 0) : parseT t e = (noS, t.2.1, t.2.2) := if_pos h
theorem parseT_good {t : List Tok × Int × Int} {e : Int} (h : t.2.2 = 0) : parseT t e = (Rd.mk t.1 e 0 0).stmt.2.fin (Rd.mk t.1 e 0 0).stmt.1 := if_neg (fun x => x h)
theorem trimRight_le (l : List UInt8) (c : UInt8) : (Lib.trimRightB l c).length ≤ l.length := by
  rw [Lib.trimRightB, List.length_reverse]
  exact Nat.le_trans (List.dropWhile_sublist _).length_le (by simp)

theorem scan_cut (s : ByteArray) (w : World) (hs : s.size < 4294967281) (hg : Gl w) :
    Calls Tryd.prog 26 #[.string s, .string ⟨#[35]⟩] w fun e w' => ∃ (x : ByteArray) (b : Bool), e = .returned (.tuple #[.string ⟨(bare (bl s)).toArray⟩, .string x, .bool b]) ∧ ∃ n, w' = w.drewN n := by
  obtain ⟨m, hm⟩ := hg
  have hcon := Tryd.strings_Cut s ⟨#[35]⟩ m w hs hm
  rw [show (⟨#[35]⟩ : ByteArray).data.toList = [35] from rfl, cut_bare] at hcon
  exact hcon.mono fun e w' ⟨h1, h2⟩ => ⟨_, _, h1, h2⟩
set_option maxRecDepth 100000 in
set_option maxHeartbeats 2000000 in
theorem syn_Parse (s : ByteArray) (w : World) (hs : s.size < 4294967281) (hg : Gl w) :
    Calls Tryd.prog 13 #[.string s] w fun e w' => e = .returned (.tuple #[sv (parseS s).1, .int .i64 (parseS s).2.1, .int .i64 (parseS s).2.2]) ∧ Below w.heap.size w w' := by
  have HG := Lib.hid hg
  have E := Lib.hid (show parseS s = parseT (tokens (bl s)) (endOf s) from rfl)
  have EO := Lib.hid (show endOf s = ((Lib.trimRightB (bare (bl s)) 32).length : Int) + 1 from rfl)
  have hcut := fun (W : World) (h : Gl W) => scan_cut s W hs h
  have HC := Lib.hid hcut
  have HT := Lib.hid (fun W => Tryd.strings_TrimRight_one (⟨(bare (bl s)).toArray⟩) 32 (by decide) W (by simp [ByteArray.size]; have := bare_le (bl s); rw [bl_len] at this; omega))
  have hend : endOf s ≤ 4294967282 := by have := trimRight_le (bare (bl s)) 32; have := bare_le (bl s); rw [bl_len] at this; unfold endOf; omega
  have hend0 : 0 ≤ endOf s := by unfold endOf; omega
  generalize hE : endOf s = en at *
  generalize hr : (⟨(Lib.trimRightB (bare (bl s)) 32).toArray⟩ : ByteArray) = tr at HT
  have htr : (tr.size : Int) + 1 = en := by rw [← hr, ← hE]; rfl
  clear hr EO hE
  generalize parseS s = res at E ⊢
  clear hg hcut
  go_enter Tryd.func13, Tryd.ntmps13
  go_wp2_with fail
  refine (scan_Tokens_any s _ (HG.out.below ((Below.refl _ _).alloc (Nat.le_refl _) _)) (by omega)).mono ?_
  rintro e w1 ⟨va, rfl, hown1, hb1⟩
  obtain ⟨sa, sc, rfl⟩ := own_form hown1
  have hsl1 := Lib.hid (Sl.of_own hown1)
  have hG1 := Lib.hid ((HG.out.below ((Below.refl _ _).alloc (Nat.le_refl _) _)).below hb1)
  have hres := (keep1 hb1)
  clear hown1
  generalize tokens (bl s) = t at hsl1 E ⊢
  obtain ⟨l, i, y⟩ := t
  dsimp only at hsl1 E ⊢
  by_cases hy : y = 0
  · subst hy
    replace E := Lib.hid (E.out.trans (parseT_good rfl))
    go_wp2_with fail
    refine (HC.out w1 hG1.out).mono ?_
    rintro e w' ⟨x, bb, rfl, n, rfl⟩
    go_wp2_with (go_at_call 27; refine (HT.out _).mono ?_; rintro e w' ⟨rfl, rfl⟩)
    have hr0 : RdAt w1 ((w1.drewN n).alloc (.cells (rdCells (.slice sa l.length sc) ⟨l, en, 0, 0⟩) 55)) w1.heap.size ⟨l, en, 0, 0⟩ :=
      ⟨Nat.le_refl _, (below_of_drewN n).alloc (Nat.le_refl _) _, _, hsl1.out, Blk.new (w1.drewN n) _ _⟩
    cases h1 : (Rd.mk l en 0 0).role with | mk x1 r1 =>
    obtain ⟨y1, y2⟩ := x1
    refine (role_pair h1 w1 _ _ hr0).mono ?_
    rintro e w2 ⟨rfl, hr1, hg1⟩
    go_wp2_with fail
    cases h2 : r1.take 4 with | mk x2 r2 =>
    refine (take_pair h2 w1 _ _ (hr1.alloc _)).mono ?_
    rintro e w3 ⟨rfl, hr2, hg2⟩
    have hlt1 := hr1.lt
    have hB2 := (Blk.new w2 #[.int .i64 0, .string y1, .string y2, .string emp, .string emp, .string emp, .string emp, .string emp, .string emp] 25).grown hg2 (fun e => by have := Option.some.inj e; omega)
    go_wp2_with fail
    refine (read_body r2 ⟨0, ⟨y1, y2⟩, emp, noR, noR, emp⟩ w1 w3 w1.heap.size w2.heap.size hr2 hB2 (by omega) (by omega)).mono ?_
    rintro e w4 ⟨rfl, hr3, hB3⟩
    have E3 : (Rd.mk l en 0 0).stmt = r2.body ⟨0, ⟨y1, y2⟩, emp, noR, noR, emp⟩ := by simp [Rd.stmt, h1, h2]
    rw [E3] at E
    clear E3 h1 h2 hr0 hr1 hr2 hg1 hg2 hB2
    generalize r2.body ⟨0, ⟨y1, y2⟩, emp, noR, noR, emp⟩ = z at hr3 hB3 E ⊢
    obtain ⟨⟨k3, ⟨s1, s2⟩, who, ⟨a1, a2⟩, ⟨b1, b2⟩, via⟩, ⟨l3, e3, p3, y3⟩⟩ := z
    dsimp only at hr3 hB3 E
    have hres4 := hres.below hr3.below
    simp only [St.cells] at hB3
    obtain ⟨ca, fa, za⟩ := id hres4
    obtain ⟨cb, fb, zb⟩ := id hB3
    have hbw4 : Below w.heap.size w w4 := (((Below.refl _ _).alloc (Nat.le_refl _) _).trans (hb1.mono (by simp))).trans (hr3.below.mono (Nat.le_of_lt hres.2.2))
    have HBW := Lib.hid hbw4
    clear hbw4
    have HR3 := Lib.hid hr3
    have HB3 := Lib.hid hB3
    have hzz := hres.2.2
    obtain ⟨hlow, hbel, lv, hs3, hblk⟩ := hr3
    have HBE := Lib.hid hbel
    have c0 := hblk.cell 0 lv rfl
    have c1 := hblk.cell 1 (.int .i64 e3) rfl
    have c2 := hblk.cell 2 (.int .i64 p3) rfl
    have c3 := hblk.cell 3 (.int .i64 y3) rfl
    have f0 := hblk.2.1
    have z0 := hblk.2.2
    by_cases hy3 : y3 = 0
    · subst hy3
      cases l3 with
      | nil =>
        obtain ⟨a, cap, rfl⟩ := hs3.form
        replace E := Lib.hid (E.out.trans (show Rd.fin ⟨[], e3, p3, 0⟩ _ = (normalS _, 0, 0) from rfl))
        clear hb1 hres hres4 hB3 hbel hs3 hblk
        go_wp2_with (go_at_call 31; refine (syn_Normal ⟨k3, ⟨s1, s2⟩, who, ⟨a1, a2⟩, ⟨b1, b2⟩, via⟩ _).mono ?_; rintro e w5 ⟨rfl, hb5⟩; have hres5 := Blk.below ⟨ca, fa, za⟩ hb5; generalize normalS ⟨k3, ⟨s1, s2⟩, who, ⟨a1, a2⟩, ⟨b1, b2⟩, via⟩ = nz at *; obtain ⟨nk, ⟨nh1, nh2⟩, nwho, ⟨na1, na2⟩, ⟨nb1, nb2⟩, nvia⟩ := nz; obtain ⟨cc, fc, zc⟩ := id hres5)
        refine bodyPost_ret (v := .tuple #[sv ⟨nk, ⟨nh1, nh2⟩, nwho, ⟨na1, na2⟩, ⟨nb1, nb2⟩, nvia⟩, .int .i64 0, .int .i64 0]) (by simp [results, Tryd.results13, go_sem, cc]) rfl ⟨by rw [E.out], ?_⟩
        have hb4 := HBW.out
        (repeat' (first | with_reducible exact Below.refl _ _ | with_reducible assumption | with_reducible (refine Below.setCell ?_ ?_ _) | with_reducible (refine Below.alloc ?_ ?_ _) | with_reducible (refine below_drew ?_) | with_reducible (refine below_drewN ?_ _) | with_reducible (refine Below.trans ?_ (Below.mono (by assumption) ?_)) | omega | (simp; done) | (simp; omega)))
      | cons t tl =>
        obtain ⟨b, off, cap, rfl, hc, hm, hlt, hx⟩ := hs3.pos (by simp)
        obtain ⟨t0, t1, t2⟩ := tk_head (Sl.cells_later hbel hlt hx)
        have d1 : decide ((0 : Int) < (tl.length : Int) + 1) = true := by (rw [decide_eq_true_iff]; omega)
        have hbg : ¬ b = w1.heap.size := by omega
        clear hb1 hres hres4 hB3 hbel hs3 hblk hx
        go_wp2_with fail
        go_region
        go_wp2
        refine bodyPost_ret (v := .tuple #[sv noS, .int .i64 t.col, .int .i64 2]) (by simp [results, Tryd.results13, go_sem, ca, noS, noR]) rfl ⟨by rw [E.out]; rfl, ?_⟩
        have hb4 := HBW.out
        (repeat' (first | with_reducible exact Below.refl _ _ | with_reducible assumption | with_reducible (refine Below.setCell ?_ ?_ _) | with_reducible (refine Below.alloc ?_ ?_ _) | with_reducible (refine below_drew ?_) | with_reducible (refine below_drewN ?_ _) | with_reducible (refine Below.trans ?_ (Below.mono (by assumption) ?_)) | omega | (simp; done) | (simp; omega)))
    · have d : (y3 != 0) = true := by simp [hy3]
      have d' : (y3 == 0) = false := by simp [hy3]
      replace hy3 := Lib.hid hy3
      clear hb1 hres hres4 hB3 hbel hs3 hblk
      go_wp2_with fail
      go_region
      go_wp2
      refine bodyPost_ret (v := .tuple #[sv noS, .int .i64 p3, .int .i64 y3]) (by simp [results, Tryd.results13, go_sem, ca, noS, noR]) rfl ⟨by rw [E.out, fin_bad hy3.out], ?_⟩
      have hb4 := HBW.out
      (repeat' (first | with_reducible exact Below.refl _ _ | with_reducible assumption | with_reducible (refine Below.setCell ?_ ?_ _) | with_reducible (refine Below.alloc ?_ ?_ _) | with_reducible (refine below_drew ?_) | with_reducible (refine below_drewN ?_ _) | with_reducible (refine Below.trans ?_ (Below.mono (by assumption) ?_)) | omega | (simp; done) | (simp; omega)))
  · replace E := Lib.hid (E.out.trans (parseT_bad hy))
    have d : (y != 0) = true := by simp [hy]
    clear hy
    obtain ⟨ca, fa, za⟩ := id hres
    go_wp2
    refine bodyPost_ret (v := .tuple #[sv noS, .int .i64 i, .int .i64 y]) (by simp [results, Tryd.results13, go_sem, ca, noS, noR]) rfl ⟨by rw [E.out], ?_⟩
    have hb4 := (((Below.refl _ _).alloc (Nat.le_refl _) _).trans (hb1.mono (by simp)) : Below w.heap.size w w1)
    (repeat' (first | with_reducible exact Below.refl _ _ | with_reducible assumption | with_reducible (refine Below.setCell ?_ ?_ _) | with_reducible (refine Below.alloc ?_ ?_ _) | with_reducible (refine below_drew ?_) | with_reducible (refine below_drewN ?_ _) | with_reducible (refine Below.trans ?_ (Below.mono (by assumption) ?_)) | omega | (simp; done) | (simp; omega)))
end Go.Proofs.YtmpanikeeeoikaaDoor
