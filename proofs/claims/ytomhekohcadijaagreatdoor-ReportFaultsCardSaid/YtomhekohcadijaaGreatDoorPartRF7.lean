/- scan.Tokens returns the tokens of a line, or what is wrong first, and where. syn.Parse: what it returns, for every line. The reference of layer 2: what its small functions return, for every argument. The reference of layer 3: shapes, fits, End. The plain law: what the reader of package syn makes of any tokens is what the reference's shapes say. -/
import Derived.Test.YtomhekohcadijaaGreatDoorPartRF6
import Derived.Maps.AppendAt
import Derived.Test.YtomhekohcadijaaGreatDoorPartRF3
import Derived.Test.YtomhekohcadijaaGreatDoorShelf2
import Derived.Lib.TrimByte
namespace Go.Proofs.YtomhekohcadijaaGreatDoor
open Go.RowKit Go.Shelf

theorem tok_info : (Tryz.prog.info? 164).map (fun i => (i.zero, i.size, i.bytes)) = some (some (.agg #[.int .i64 0, .string ByteArray.empty, .int .i64 0]), 3, 32) := by kernel_rfl

abbrev tokCells (kd : Int) (X : ByteArray) (co : Int) : List Value := [.int .i64 kd, .string X, .int .i64 co]
theorem tok_one (kd : Int) (X : ByteArray) (co : Int) : ∀ u ∈ tokCells kd X co, u.oneCell' = true := by
  intro u hu; simp at hu; rcases hu with rfl | rfl | rfl <;> rfl

def TokPost (r : List Tok × Int × Int) (w : World) (e : Ending) (w' : World) : Prop :=
  ∃ v, e = .returned (.tuple #[v, .int .i64 r.2.1, .int .i64 r.2.2]) ∧ w'.ownsRow w.heap.size 164 3 v r.1.length (r.1.flatMap Tok.cells) ∧ Below w.heap.size w w'

def TokRel (B : Nat) (w : World) (l : List UInt8) (v i : Value) (wr : World) : Prop :=
  ∃ (k f : Nat) (acc : List Tok), k ≤ l.length ∧ i = .int .i64 k ∧ l.length - k ≤ f ∧ acc.length ≤ k ∧ wr.ownsRow B 164 3 v acc.length (acc.flatMap Tok.cells) ∧
    toks l.length l 0 [] = toks f (l.drop k) k acc ∧ Below B w wr

set_option maxHeartbeats 1000000 in
theorem scan_Tokens (s : ByteArray) (w : World) (hs : s.size ≤ 200) (hg : Gl w) :
    Calls Tryz.prog 124 #[.string s] w (TokPost (tokens (bl s)) w) := by
  have ht : tokens (bl s) = toks (bare (bl s)).length (bare (bl s)) 0 [] := by unfold tokens; rw [if_neg (by rw [bl_len]; omega)]
  have HT := Lib.hid ht
  have HB := Lib.hid (scan_bare s w (by omega) hg)
  have hle := bare_le (bl s)
  rw [bl_len] at hle
  generalize hr : (⟨(bare (bl s)).toArray⟩ : ByteArray) = r at HB
  have hbr : bl r = bare (bl s) := by rw [← hr]
  have hrs : r.size ≤ 200 := by rw [← bl_len, hbr]; omega
  have HR := Lib.hid hbr
  clear hr hbr hle ht hg
  have h200 : decide (200 < (s.size : Int)) = false := by simp; omega
  go_enter Tryz.func124, Tryz.ntmps124
  go_wp2_with (go_at_call 179; refine HB.out.mono ?_; rintro e w' ⟨rfl, n, rfl⟩)
  go_loopw [2, 6] (TokRel w.heap.size w (bl r)) (fun _ i _ => r.size - (intOf i).toNat)
  case atStart => exact ⟨0, (bl r).length, [], by omega, rfl, by omega, by simp, World.ownsRow_nil _ _ _ _, rfl, below_of_drewN n⟩
  case round =>
    obtain ⟨k, f, acc, hk, rfl, hf, hacc, hown, htk, hb⟩ := hrel
    rw [bl_len] at hk hf
    have HK := Lib.hid htk
    clear htk
    by_cases hlt : k < r.size
    · obtain ⟨f, rfl⟩ : ∃ f', f = f' + 1 := ⟨f - 1, by omega⟩
      by_cases h32 : r[k].toNat = 32
      · have b32 : ((r[k].toNat : Int) == 32) = true := by rw [beq_iff_eq]; omega
        have HN := Lib.hid (HK.out.trans (toks_at_space r k f acc hlt h32))
        clear h32
        go_wp2
        exact ⟨⟨k + 1, f, acc, by rw [bl_len]; omega, by go_num, by rw [bl_len]; omega, by omega, hown, HN.out, hb⟩, by simp [intOf]; omega⟩
      · have b32 : ((r[k].toNat : Int) == 32) = false := by rw [beq_eq_false_iff_ne]; omega
        have HO := Lib.hid (fun W => scan_one r k W (by omega) hlt)
        have hroom := oneTok_room ((bl r).drop k) k
        rw [List.length_drop, bl_len] at hroom
        have hbad := toks_at_bad r k f acc hlt h32
        have hlong := toks_at_long r k f acc hlt h32
        have hgo := toks_at_go r k f acc hlt h32
        generalize oneTok ((bl r).drop k) k = t at HO hroom hbad hlong hgo
        obtain ⟨kd, tx, co⟩ := t
        dsimp only at hroom hbad hlong hgo
        simp only [Tok.cells] at HO
        have hX : (⟨tx.toArray⟩ : ByteArray).size = tx.length := by simp [ByteArray.size]
        rw [← hX] at hroom hlong hgo
        generalize hXe : (⟨tx.toArray⟩ : ByteArray) = X at HO hroom hlong hgo
        have HX := Lib.hid hXe
        clear hXe h32 hX
        by_cases hkd : kd = 0
        · have bk : (kd == 0) = true := by rw [beq_iff_eq]; exact hkd
          have HN := Lib.hid (HK.out.trans (hbad hkd))
          clear hbad hlong hgo hroom hkd
          go_wp2_with (go_at_call 180; refine (HO.out _).mono ?_; rintro e w1 ⟨rfl, hb1⟩)
          go_quiet (fail)
          go_wp2
          go_ret3
          rw [HT.out, ← HR.out, HN.out]
          exact ⟨_, rfl, World.ownsRow_nil _ _ _ _, below_drewN ((hb.trans (hb1.mono hb.size)).alloc (Nat.le_trans hb.size hb1.size) _) _⟩
        · have bk : (kd == 0) = false := by rw [beq_eq_false_iff_ne]; exact hkd
          obtain ⟨hr1, hr2⟩ := hroom hkd
          by_cases hl : 8 < X.size
          · have bl8 : decide (8 < (X.size : Int)) = true := by simp; omega
            have HN := Lib.hid (HK.out.trans (hlong hkd hl))
            clear hbad hlong hgo hroom hkd hl
            go_wp2_with (go_at_call 180; refine (HO.out _).mono ?_; rintro e w1 ⟨rfl, hb1⟩)
            go_quiet (fail)
            go_wp2
            go_ret3
            rw [HT.out, ← HR.out, HN.out]
            exact ⟨_, rfl, World.ownsRow_nil _ _ _ _, below_drewN ((hb.trans (hb1.mono hb.size)).alloc (Nat.le_trans hb.size hb1.size) _) _⟩
          · have bl8 : decide (8 < (X.size : Int)) = false := by simp; omega
            have HN := Lib.hid (HK.out.trans (hgo hkd hl))
            clear hbad hlong hgo hroom hkd
            go_wp2_with (first | (go_at_call 180; refine (HO.out _).mono ?_; rintro e w1 ⟨rfl, hb1⟩) | (at_builtin; refine app_own Tryz.underlying160 tok_info rfl (by decide) (by decide) rfl _ _ rfl w.heap.size rfl (((own_below hown hb1).alloc _).alloc _) (tokCells kd X co) rfl (heap_new2 _ _ _) rfl (tok_one _ _ _) ?_ ?_ ?_; omega; (have := hb1.size; have := hb.size; simp; omega); intro a' cap' w2 hown' hgrow; have hcx := grown_cell hown (u := .string X) (g := w1.heap.size) (o := 1) hgrow hb1.size (by simp [go_sem])))
            have hsz := hb1.size
            have hsz0 := hb.size
            refine ⟨⟨k + X.size, f, acc ++ [⟨kd, tx, co⟩], by rw [bl_len]; omega, by go_num, by rw [bl_len]; omega, by simp; omega, ?_, HN.out, ?_⟩, by simp [intOf]; omega⟩
            · rw [List.length_append, List.flatMap_append]
              simp only [List.flatMap_cons, List.flatMap_nil, List.append_nil, Tok.cells, HX.out]
              exact hown'
            · exact (((hb.trans (hb1.mono hsz0)).alloc (by omega) _).alloc (by simp; omega) _).grown hgrow (by simp; omega) (fun g hg => (hown.lt g hg).1)
    · have HN := Lib.hid (HK.out.trans (toks_at_end r k f acc hlt))
      go_wp2
      go_ret3
      rw [HT.out, ← HR.out, HN.out]
      exact ⟨u2, rfl, hown, hb⟩
theorem tokens_long (s : ByteArray) (h : ¬ s.size ≤ 200) : tokens (bl s) = ([], 201, 4) := by unfold tokens; rw [if_pos (by rw [bl_len]; omega)]
theorem scan_Tokens_any (s : ByteArray) (w : World) (hg : Gl w) (hs : s.size ≤ 9223372036854775807) : Calls Tryz.prog 124 #[.string s] w (TokPost (tokens (bl s)) w) := by
  by_cases h : s.size ≤ 200
  · exact scan_Tokens s w h hg
  · have HT := Lib.hid (tokens_long s h)
    have h200 : decide (200 < (s.size : Int)) = true := by simp; omega
    clear h
    go_enter Tryz.func124, Tryz.ntmps124
    go_wp2
    go_ret3
    rw [HT.out]
    exact ⟨_, rfl, World.ownsRow_nil _ _ _ _, Below.refl _ _⟩
end Go.Proofs.YtomhekohcadijaaGreatDoor
namespace Go.Proofs.YtomhekohcadijaaGreatDoor
open Go.RowKit Go.Shelf

def Rd.fin (r : Rd) (s : St) : St × Int × Int :=
  if r.why ≠ 0 then (noS, r.p, r.why) else match r.l with | [] => (normalS s, 0, 0) | t :: _ => (noS, t.col, 2)
theorem fin_bad {r : Rd} {s : St} (h : ¬ r.why = 0) : r.fin s = (noS, r.p, r.why) := if_pos h
def Rd.stmt (r : Rd) : St × Rd := (r.role.2.take 4).2.body ⟨0, r.role.1, emp, noR, noR, emp⟩
def parseT (t : List Tok × Int × Int) (e : Int) : St × Int × Int :=
  if t.2.2 ≠ 0 then (noS, t.2.1, t.2.2) else (Rd.mk t.1 e 0 0).stmt.2.fin (Rd.mk t.1 e 0 0).stmt.1
def endOf (s : ByteArray) : Int := ((Lib.trimRightB (bare (bl s)) 32).length : Int) + 1
def parseS (s : ByteArray) : St × Int × Int := parseT (tokens (bl s)) (endOf s)
theorem parseT_bad {t : List Tok × Int × Int} {e : Int} (h : t.2.2 ≠ 0) : parseT t e = (noS, t.2.1, t.2.2) := if_pos h
theorem parseT_good {t : List Tok × Int × Int} {e : Int} (h : t.2.2 = 0) : parseT t e = (Rd.mk t.1 e 0 0).stmt.2.fin (Rd.mk t.1 e 0 0).stmt.1 := if_neg (fun x => x h)
theorem trimRight_le (l : List UInt8) (c : UInt8) : (Lib.trimRightB l c).length ≤ l.length := by
  rw [Lib.trimRightB, List.length_reverse]
  exact Nat.le_trans (List.dropWhile_sublist _).length_le (by simp)

theorem scan_cut (s : ByteArray) (w : World) (hs : s.size < 4294967281) (hg : Gl w) :
    Calls Tryz.prog 91 #[.string s, .string ⟨#[35]⟩] w fun e w' => ∃ (x : ByteArray) (b : Bool), e = .returned (.tuple #[.string ⟨(bare (bl s)).toArray⟩, .string x, .bool b]) ∧ ∃ n, w' = w.drewN n := by
  obtain ⟨m, hm⟩ := hg
  have hcon := Tryz.strings_Cut s ⟨#[35]⟩ m w hs hm
  rw [show (⟨#[35]⟩ : ByteArray).data.toList = [35] from rfl, cut_bare] at hcon
  exact hcon.mono fun e w' ⟨h1, h2⟩ => ⟨_, _, h1, h2⟩
set_option maxRecDepth 100000 in
set_option maxHeartbeats 2000000 in
theorem syn_Parse (s : ByteArray) (w : World) (hs : s.size < 4294967281) (hg : Gl w) :
    Calls Tryz.prog 106 #[.string s] w fun e w' => e = .returned (.tuple #[sv (parseS s).1, .int .i64 (parseS s).2.1, .int .i64 (parseS s).2.2]) ∧ Below w.heap.size w w' := by
  have HG := Lib.hid hg
  have E := Lib.hid (show parseS s = parseT (tokens (bl s)) (endOf s) from rfl)
  have EO := Lib.hid (show endOf s = ((Lib.trimRightB (bare (bl s)) 32).length : Int) + 1 from rfl)
  have hcut := fun (W : World) (h : Gl W) => scan_cut s W hs h
  have HC := Lib.hid hcut
  have HT := Lib.hid (fun W => Tryz.strings_TrimRight_one (⟨(bare (bl s)).toArray⟩) 32 (by decide) W (by simp [ByteArray.size]; have := bare_le (bl s); rw [bl_len] at this; omega))
  have hend : endOf s ≤ 4294967282 := by have := trimRight_le (bare (bl s)) 32; have := bare_le (bl s); rw [bl_len] at this; unfold endOf; omega
  have hend0 : 0 ≤ endOf s := by unfold endOf; omega
  generalize hE : endOf s = en at *
  generalize hr : (⟨(Lib.trimRightB (bare (bl s)) 32).toArray⟩ : ByteArray) = tr at HT
  have htr : (tr.size : Int) + 1 = en := by rw [← hr, ← hE]; rfl
  clear hr EO hE
  generalize parseS s = res at E ⊢
  clear hg hcut
  go_enter Tryz.func106, Tryz.ntmps106
  go_wp2_with fail
  refine (scan_Tokens_any s _ (HG.out.below ((Below.refl _ _).alloc (Nat.le_refl _) _)) (by omega)).mono ?_
  rintro e w1 ⟨va, rfl, hown1, hb1⟩
  obtain ⟨sa, sc, rfl⟩ := own_form hown1
  have hsl1 := Lib.hid (Sl.of_own hown1)
  have hG1 := Lib.hid ((HG.out.below ((Below.refl _ _).alloc (Nat.le_refl _) _)).below hb1)
  have hres := (keep1 hb1)
  clear hown1
  generalize tokens (bl s) = t at hsl1 E ⊢
  obtain ⟨l, i, y⟩ := t
  dsimp only at hsl1 E ⊢
  by_cases hy : y = 0
  · subst hy
    replace E := Lib.hid (E.out.trans (parseT_good rfl))
    go_wp2_with fail
    refine (HC.out w1 hG1.out).mono ?_
    rintro e w' ⟨x, bb, rfl, n, rfl⟩
    go_wp2_with (go_at_call 155; refine (HT.out _).mono ?_; rintro e w' ⟨rfl, rfl⟩)
    have hr0 : RdAt w1 ((w1.drewN n).alloc (.cells (rdCells (.slice sa l.length sc) ⟨l, en, 0, 0⟩) 188)) w1.heap.size ⟨l, en, 0, 0⟩ :=
      ⟨Nat.le_refl _, (below_of_drewN n).alloc (Nat.le_refl _) _, _, hsl1.out, Blk.new (w1.drewN n) _ _⟩
    cases h1 : (Rd.mk l en 0 0).role with | mk x1 r1 =>
    obtain ⟨y1, y2⟩ := x1
    refine (role_pair h1 w1 _ _ hr0).mono ?_
    rintro e w2 ⟨rfl, hr1, hg1⟩
    go_wp2_with fail
    cases h2 : r1.take 4 with | mk x2 r2 =>
    refine (take_pair h2 w1 _ _ (hr1.alloc _)).mono ?_
    rintro e w3 ⟨rfl, hr2, hg2⟩
    have hlt1 := hr1.lt
    have hB2 := (Blk.new w2 #[.int .i64 0, .string y1, .string y2, .string emp, .string emp, .string emp, .string emp, .string emp, .string emp] 80).grown hg2 (fun e => by have := Option.some.inj e; omega)
    go_wp2_with fail
    refine (read_body r2 ⟨0, ⟨y1, y2⟩, emp, noR, noR, emp⟩ w1 w3 w1.heap.size w2.heap.size hr2 hB2 (by omega) (by omega)).mono ?_
    rintro e w4 ⟨rfl, hr3, hB3⟩
    have E3 : (Rd.mk l en 0 0).stmt = r2.body ⟨0, ⟨y1, y2⟩, emp, noR, noR, emp⟩ := by simp [Rd.stmt, h1, h2]
    rw [E3] at E
    clear E3 h1 h2 hr0 hr1 hr2 hg1 hg2 hB2
    generalize r2.body ⟨0, ⟨y1, y2⟩, emp, noR, noR, emp⟩ = z at hr3 hB3 E ⊢
    obtain ⟨⟨k3, ⟨s1, s2⟩, who, ⟨a1, a2⟩, ⟨b1, b2⟩, via⟩, ⟨l3, e3, p3, y3⟩⟩ := z
    dsimp only at hr3 hB3 E
    have hres4 := hres.below hr3.below
    simp only [St.cells] at hB3
    obtain ⟨ca, fa, za⟩ := id hres4
    obtain ⟨cb, fb, zb⟩ := id hB3
    have hbw4 : Below w.heap.size w w4 := (((Below.refl _ _).alloc (Nat.le_refl _) _).trans (hb1.mono (by simp))).trans (hr3.below.mono (Nat.le_of_lt hres.2.2))
    have HBW := Lib.hid hbw4
    clear hbw4
    have HR3 := Lib.hid hr3
    have HB3 := Lib.hid hB3
    have hzz := hres.2.2
    obtain ⟨hlow, hbel, lv, hs3, hblk⟩ := hr3
    have HBE := Lib.hid hbel
    have c0 := hblk.cell 0 lv rfl
    have c1 := hblk.cell 1 (.int .i64 e3) rfl
    have c2 := hblk.cell 2 (.int .i64 p3) rfl
    have c3 := hblk.cell 3 (.int .i64 y3) rfl
    have f0 := hblk.2.1
    have z0 := hblk.2.2
    by_cases hy3 : y3 = 0
    · subst hy3
      cases l3 with
      | nil =>
        obtain ⟨a, cap, rfl⟩ := hs3.form
        replace E := Lib.hid (E.out.trans (show Rd.fin ⟨[], e3, p3, 0⟩ _ = (normalS _, 0, 0) from rfl))
        clear hb1 hres hres4 hB3 hbel hs3 hblk
        go_wp2_with (go_at_call 159; refine (syn_Normal ⟨k3, ⟨s1, s2⟩, who, ⟨a1, a2⟩, ⟨b1, b2⟩, via⟩ _).mono ?_; rintro e w5 ⟨rfl, hb5⟩; have hres5 := Blk.below ⟨ca, fa, za⟩ hb5; generalize normalS ⟨k3, ⟨s1, s2⟩, who, ⟨a1, a2⟩, ⟨b1, b2⟩, via⟩ = nz at *; obtain ⟨nk, ⟨nh1, nh2⟩, nwho, ⟨na1, na2⟩, ⟨nb1, nb2⟩, nvia⟩ := nz; obtain ⟨cc, fc, zc⟩ := id hres5)
        refine bodyPost_ret (v := .tuple #[sv ⟨nk, ⟨nh1, nh2⟩, nwho, ⟨na1, na2⟩, ⟨nb1, nb2⟩, nvia⟩, .int .i64 0, .int .i64 0]) (by simp [results, Tryz.results106, go_sem, cc]) rfl ⟨by rw [E.out], ?_⟩
        have hb4 := HBW.out
        (repeat' (first | with_reducible exact Below.refl _ _ | with_reducible assumption | with_reducible (refine Below.setCell ?_ ?_ _) | with_reducible (refine Below.alloc ?_ ?_ _) | with_reducible (refine below_drew ?_) | with_reducible (refine below_drewN ?_ _) | with_reducible (refine Below.trans ?_ (Below.mono (by assumption) ?_)) | omega | (simp; done) | (simp; omega)))
      | cons t tl =>
        obtain ⟨b, off, cap, rfl, hc, hm, hlt, hx⟩ := hs3.pos (by simp)
        obtain ⟨t0, t1, t2⟩ := tk_head (Sl.cells_later hbel hlt hx)
        have d1 : decide ((0 : Int) < (tl.length : Int) + 1) = true := by (rw [decide_eq_true_iff]; omega)
        have hbg : ¬ b = w1.heap.size := by omega
        clear hb1 hres hres4 hB3 hbel hs3 hblk hx
        go_wp2_with fail
        go_region
        go_wp2
        refine bodyPost_ret (v := .tuple #[sv noS, .int .i64 t.col, .int .i64 2]) (by simp [results, Tryz.results106, go_sem, ca, noS, noR]) rfl ⟨by rw [E.out]; rfl, ?_⟩
        have hb4 := HBW.out
        (repeat' (first | with_reducible exact Below.refl _ _ | with_reducible assumption | with_reducible (refine Below.setCell ?_ ?_ _) | with_reducible (refine Below.alloc ?_ ?_ _) | with_reducible (refine below_drew ?_) | with_reducible (refine below_drewN ?_ _) | with_reducible (refine Below.trans ?_ (Below.mono (by assumption) ?_)) | omega | (simp; done) | (simp; omega)))
    · have d : (y3 != 0) = true := by simp [hy3]
      have d' : (y3 == 0) = false := by simp [hy3]
      replace hy3 := Lib.hid hy3
      clear hb1 hres hres4 hB3 hbel hs3 hblk
      go_wp2_with fail
      go_region
      go_wp2
      refine bodyPost_ret (v := .tuple #[sv noS, .int .i64 p3, .int .i64 y3]) (by simp [results, Tryz.results106, go_sem, ca, noS, noR]) rfl ⟨by rw [E.out, fin_bad hy3.out], ?_⟩
      have hb4 := HBW.out
      (repeat' (first | with_reducible exact Below.refl _ _ | with_reducible assumption | with_reducible (refine Below.setCell ?_ ?_ _) | with_reducible (refine Below.alloc ?_ ?_ _) | with_reducible (refine below_drew ?_) | with_reducible (refine below_drewN ?_ _) | with_reducible (refine Below.trans ?_ (Below.mono (by assumption) ?_)) | omega | (simp; done) | (simp; omega)))
  · replace E := Lib.hid (E.out.trans (parseT_bad hy))
    have d : (y != 0) = true := by simp [hy]
    clear hy
    obtain ⟨ca, fa, za⟩ := id hres
    go_wp2
    refine bodyPost_ret (v := .tuple #[sv noS, .int .i64 i, .int .i64 y]) (by simp [results, Tryz.results106, go_sem, ca, noS, noR]) rfl ⟨by rw [E.out], ?_⟩
    have hb4 := (((Below.refl _ _).alloc (Nat.le_refl _) _).trans (hb1.mono (by simp)) : Below w.heap.size w w1)
    (repeat' (first | with_reducible exact Below.refl _ _ | with_reducible assumption | with_reducible (refine Below.setCell ?_ ?_ _) | with_reducible (refine Below.alloc ?_ ?_ _) | with_reducible (refine below_drew ?_) | with_reducible (refine below_drewN ?_ _) | with_reducible (refine Below.trans ?_ (Below.mono (by assumption) ?_)) | omega | (simp; done) | (simp; omega)))
end Go.Proofs.YtomhekohcadijaaGreatDoor
namespace Go.Proofs.YtomhekohcadijaaGreatDoor
open Go.RowKit Go.Shelf

end Go.Proofs.YtomhekohcadijaaGreatDoor
namespace Go.Proofs.YtomhekohcadijaaGreatDoor
open Go.RowKit Go.Shelf

def fitsS : List Tok → List Int → Nat
  | t :: l, k :: s => if t.kind = k then fitsS l s + 1 else 0
  | _, _ => 0
def sh1 : List Int := [1, 3, 2, 4, 1]
def sh2 : List Int := [1, 3, 2, 4, 1, 3, 2]
def sh3 : List Int := [1, 3, 2, 4, 1, 3, 2, 3, 2]
def sh4 : List Int := [1, 3, 2, 4, 1, 3, 2, 5, 1, 3, 2]
theorem fits_end (l : List Tok) : fitsS l [] = 0 := by cases l <;> rfl
theorem fits_none (s : List Int) : fitsS [] s = 0 := by cases s <;> rfl
theorem fits_cons (t : Tok) (l : List Tok) (k : Int) (s : List Int) : fitsS (t :: l) (k :: s) = if t.kind = k then fitsS l s + 1 else 0 := rfl
end Go.Proofs.YtomhekohcadijaaGreatDoor
namespace Go.Proofs.YtomhekohcadijaaGreatDoor

def tx (l : List Tok) (i : Nat) : ByteArray := ⟨(l.getD i ⟨0, [], 0⟩).text.toArray⟩
def best (l : List Tok) : Nat := max (max (max (fitsS l sh1) (fitsS l sh2)) (fitsS l sh3)) (fitsS l sh4)
def refEnd (l : List Tok) (e : Int) : St × Int × Int := if best l = l.length then (noS, e, 3) else (noS, (l.getD (best l) ⟨0, [], 0⟩).col, 2)
def refS (l : List Tok) (e : Int) : St × Int × Int :=
  if fitsS l sh1 = l.length ∧ fitsS l sh1 = 5 then (⟨1, ⟨tx l 0, tx l 2⟩, tx l 4, noR, noR, emp⟩, 0, 0)
  else if fitsS l sh2 = l.length ∧ fitsS l sh2 = 7 then (⟨2, ⟨tx l 0, tx l 2⟩, emp, ⟨tx l 4, tx l 6⟩, noR, emp⟩, 0, 0)
  else if fitsS l sh3 = l.length ∧ fitsS l sh3 = 9 then (⟨3, ⟨tx l 0, tx l 2⟩, emp, ⟨tx l 4, tx l 6⟩, noR, tx l 8⟩, 0, 0)
  else if fitsS l sh4 = l.length ∧ fitsS l sh4 = 11 then (normalS ⟨4, ⟨tx l 0, tx l 2⟩, emp, ⟨tx l 4, tx l 6⟩, ⟨tx l 8, tx l 10⟩, emp⟩, 0, 0)
  else refEnd l e
def readS (l : List Tok) (e : Int) : St × Int × Int := (Rd.mk l e 0 0).stmt.2.fin (Rd.mk l e 0 0).stmt.1
theorem why_take (l : List Tok) (e p y k : Int) (h : y ≠ 0) : (Rd.mk l e p y).take k = (emp, ⟨l, e, p, y⟩) := take_why _ _ h
theorem why_is (l : List Tok) (e p y k : Int) (h : y ≠ 0) : (Rd.mk l e p y).is k = false := is_why _ _ h
theorem fin_why (l : List Tok) (e p y : Int) (s : St) (h : y ≠ 0) : (Rd.mk l e p y).fin s = (noS, p, y) := fin_bad h
theorem fin_nil (e p : Int) (s : St) : (Rd.mk [] e p 0).fin s = (normalS s, 0, 0) := rfl
theorem fin_cons (t : Tok) (l : List Tok) (e p : Int) (s : St) : (Rd.mk (t :: l) e p 0).fin s = (noS, t.col, 2) := rfl
theorem stmt_def (r : Rd) : r.stmt = (r.role.2.take 4).2.body ⟨0, r.role.1, emp, noR, noR, emp⟩ := rfl
theorem role_def (r : Rd) : r.role = (⟨(r.take 1).1, (((r.take 1).2.take 3).2.take 2).1⟩, (((r.take 1).2.take 3).2.take 2).2) := rfl
theorem normal1 (h : Rl) (w : ByteArray) (a b : Rl) (v : ByteArray) : normalS ⟨1, h, w, a, b, v⟩ = ⟨1, h, w, a, b, v⟩ := normal_no _ _ _ _ _ _ (by decide)
theorem normal2 (h : Rl) (w : ByteArray) (a b : Rl) (v : ByteArray) : normalS ⟨2, h, w, a, b, v⟩ = ⟨2, h, w, a, b, v⟩ := normal_no _ _ _ _ _ _ (by decide)
theorem normal3 (h : Rl) (w : ByteArray) (a b : Rl) (v : ByteArray) : normalS ⟨3, h, w, a, b, v⟩ = ⟨3, h, w, a, b, v⟩ := normal_no _ _ _ _ _ _ (by decide)
set_option maxHeartbeats 8000000 in
set_option maxRecDepth 100000 in
theorem law_parse (l : List Tok) (e : Int) : readS l e = refS l e := by
  unfold readS
  rcases l with _ | ⟨t0, l⟩
  rotate_left
  by_cases h0 : t0.kind = 1
  rcases l with _ | ⟨t1, l⟩
  rotate_left
  by_cases h1 : t1.kind = 3
  rcases l with _ | ⟨t2, l⟩
  rotate_left
  by_cases h2 : t2.kind = 2
  rcases l with _ | ⟨t3, l⟩
  rotate_left
  by_cases h3 : t3.kind = 4
  rcases l with _ | ⟨t4, l⟩
  rotate_left
  by_cases h4 : t4.kind = 1
  rcases l with _ | ⟨t5, l⟩
  rotate_left
  by_cases h5 : t5.kind = 3
  rcases l with _ | ⟨t6, l⟩
  rotate_left
  by_cases h6 : t6.kind = 2
  rcases l with _ | ⟨t7, l⟩
  rotate_left
  by_cases h7 : t7.kind = 3
  rcases l with _ | ⟨t8, l⟩
  rotate_left
  by_cases h8 : t8.kind = 2
  rcases l with _ | ⟨t9, l⟩
  rotate_left 3
  by_cases h7' : t7.kind = 5
  rcases l with _ | ⟨t8, l⟩
  rotate_left
  by_cases h8 : t8.kind = 1
  rcases l with _ | ⟨t9, l⟩
  rotate_left
  by_cases h9 : t9.kind = 3
  rcases l with _ | ⟨t10, l⟩
  rotate_left
  by_cases h10 : t10.kind = 2
  rcases l with _ | ⟨t11, l⟩
  all_goals simp [stmt_def, role_def, take_no, take_yes, take_nil, why_take, why_is, is_nil, is_cons, Rd.body, fin_why, fin_nil, fin_cons, normal1, normal2, normal3, refS, refEnd, best, fits_end, fits_none, fits_cons, sh1, sh2, sh3, sh4, tx, *]
end Go.Proofs.YtomhekohcadijaaGreatDoor
