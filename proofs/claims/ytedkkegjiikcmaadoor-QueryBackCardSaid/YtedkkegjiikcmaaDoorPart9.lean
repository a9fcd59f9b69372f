/- query.Parse: what it returns, for every line. crupperref01.Same at any two rows; crupperref04.Same, query.Same at any two queries (printed by gen_qsame.py). Which queries may be: as the program tells it, and as rows in order. strings.Join of any row of texts. query.head, Print: a query's line. query.Is: does a line begin like a query? And crupperlaw04.lives. Light of texts, told whole. Light of queries and policies, with the lengths of the queries' roles (turned by gen_lights.py). The statement QueryBack: the walk of the law (printed by gen_law04b.py). Roles and statements among a law's arguments: opened to data, and read again in a later world. Rows of statements among a law's arguments: opened. Policies among a law's arguments: opened. A query among a law's arguments, opened (seats without math/bits' table). -/
import Derived.Test.YtedkkegjiikcmaaDoorPart8
import Derived.Test.YtedkkegjiikcmaaDoorPart7
import Derived.Test.YtedkkegjiikcmaaDoorPart3
import Derived.Test.YtedkkegjiikcmaaDoorShelf2
import Derived.Test.YtedkkegjiikcmaaDoorPart6
import Derived.Test.YtedkkegjiikcmaaDoorPart5
import Derived.ProofKit
import Derived.OpenShut
import Derived.ChangeMaps5
import Derived.Deep.Strs
import Derived.Deep.Slices
namespace Go.Proofs.YtedkkegjiikcmaaDoor
open Go.RowKit Go.Shelf

abbrev qdv (q : Qd) (v : Value) : Value := .agg #[.int .i64 q.k, .string q.a.o, .string q.a.n, .string q.b.o, .string q.b.n, v]
theorem toks_len : ∀ (f : Nat) (l : List UInt8) (p : Nat) (acc : List Tok), (toks f l p acc).1.length ≤ acc.length + f
  | 0, l, p, acc => by
    have : toks 0 l p acc = (acc, 0, 0) := by unfold toks; rfl
    rw [this]; simp
  | f + 1, [], p, acc => by rw [toks_nil]; simp
  | f + 1, c :: r, p, acc => by
    by_cases hc : c.toNat = 32
    · rw [toks_space _ _ _ _ _ hc]; have := toks_len f r (p + 1) acc; omega
    by_cases hk : (oneTok (c :: r) p).kind = 0
    · rw [toks_bad _ _ _ _ _ hc hk]; simp
    by_cases hl : 8 < (oneTok (c :: r) p).text.length
    · rw [toks_long _ _ _ _ _ hc hk hl]; simp
    · rw [toks_go _ _ _ _ _ hc hk hl]
      have := toks_len f ((c :: r).drop (oneTok (c :: r) p).text.length) (p + (oneTok (c :: r) p).text.length) (acc ++ [oneTok (c :: r) p])
      simp only [List.length_append, List.length_singleton] at this
      omega
theorem tokens_len (l : List UInt8) : (tokens l).1.length ≤ 200 := by
  unfold tokens
  split
  · simp
  · have h1 := toks_len (bare l).length (bare l) 0 []
    have h2 := bare_le l
    simp only [List.length_nil] at h1
    omega
theorem drop_want (r : Rd) (f : Tok → Bool) : (r.want f).2.l.length ≤ r.l.length := by
  unfold Rd.want
  split
  · exact Nat.le_refl _
  · split
    · rename_i h; rw [h]; simp [Rd.fail, h]
    · rename_i t l h
      split <;> simp [Rd.drop1, Rd.fail, h]
theorem drop_take (r : Rd) (k : Int) : (r.take k).2.l.length ≤ r.l.length := by rw [take_want]; exact drop_want _ _
theorem drop_role (r : Rd) : r.role.2.l.length ≤ r.l.length := by
  unfold Rd.role
  exact Nat.le_trans (drop_take _ _) (Nat.le_trans (drop_take _ _) (drop_take _ _))
theorem drop_ask (r : Rd) (u : Bool) : (r.ask u).2.l.length ≤ r.l.length := by
  unfold Rd.ask
  dsimp only
  split
  · exact Nat.le_trans (drop_want _ _) (drop_want _ _)
  · exact drop_want _ _
theorem drop_roleB (r : Rd) (k : Int) : (r.roleB k).2.l.length ≤ r.l.length := by
  unfold Rd.roleB
  split
  · exact drop_role _
  · exact Nat.le_refl _
theorem scan_cutQ (s : ByteArray) (w : World) (hs : s.size < 4294967281) (hg : Gl w) :
    Calls Tryd.prog 39 #[.string s, .string ⟨#[35]⟩] w fun e w' => ∃ (x : ByteArray) (b : Bool), e = .returned (.tuple #[.string ⟨(bare (bl s)).toArray⟩, .string x, .bool b]) ∧ ∃ n, w' = w.drewN n := by
  obtain ⟨m, hm⟩ := hg
  have hcon := Tryd.strings_Cut s ⟨#[35]⟩ m w hs hm
  rw [show (⟨#[35]⟩ : ByteArray).data.toList = [35] from rfl, cut_bare] at hcon
  exact hcon.mono fun e w' ⟨h1, h2⟩ => ⟨_, _, h1, h2⟩
theorem qrole_pair {r : Rd} {x : Rl} {r' : Rd} (h : r.role = (x, r')) (w0 w : World) (g : Nat) (ha : RdAt w0 w g r) :
    Calls Tryd.prog 42 #[.pointer (some ⟨g, 0, none⟩)] w fun e w' => e = .returned (rv x) ∧ RdAt w0 w' g r' ∧ w.grownBy w' (some g) := by
  have := qr_role r w0 w g ha
  rw [h] at this
  exact this
theorem qask_pair {r : Rd} {u : Bool} {k : Int} {r' : Rd} (h : r.ask u = (k, r')) (w0 w : World) (g : Nat) (ha : RdAt w0 w g r) :
    Calls Tryd.prog 43 #[.pointer (some ⟨g, 0, none⟩), .bool u] w fun e w' => e = .returned (.int .i64 k) ∧ RdAt w0 w' g r' ∧ w.grownBy w' (some g) := by
  have := qr_ask r u w0 w g ha
  rw [h] at this
  exact this
theorem qwho_pair {r : Rd} {few : Int} {us : List ByteArray} {r' : Rd} (h : r.who few = (us, r')) (w0 w : World) (g : Nat) (ha : RdAt w0 w g r) (hn : r.l.length ≤ 1000) :
    Calls Tryd.prog 46 #[.pointer (some ⟨g, 0, none⟩), .int .i64 few] w fun e w' => ∃ a c, e = .returned (.slice a us.length c) ∧ RdAt w0 w' g r' ∧ w'.ownsRow w.heap.size 9 1 (.slice a us.length c) us.length (strs us) ∧ w.grownBy w' (some g) := by
  have := qr_who r few w0 w g ha hn
  rw [h] at this
  exact this
theorem endQ_fail (t : Tok) (l : List Tok) (e p y : Int) (q : Qd) : (Rd.mk (t :: l) e p y).endQ q = (noQd, ((Rd.mk (t :: l) e p y).failQ 2).p, ((Rd.mk (t :: l) e p y).failQ 2).why) ∧ ¬ ((Rd.mk (t :: l) e p y).failQ 2).why = 0 := by
  by_cases hy : y = 0
  · subst hy
    rw [failQ_cons, endQ_cons]
    exact ⟨rfl, (show ¬ (2 : Int) = 0 by decide)⟩
  · rw [failQ_why _ _ hy, endQ_why _ _ _ _ _ hy]
    exact ⟨rfl, hy⟩
def ParseR (r : Qd × Int × Int) (w : World) (e : Ending) (w' : World) : Prop := ∃ v, e = .returned (.tuple #[qdv r.1 v, .int .i64 r.2.1, .int .i64 r.2.2]) ∧ SlA w' 1 v r.1.us.length (strs r.1.us) ∧ Below w.heap.size w w'
def ParseO (r : Qd × Int × Int) (w : World) (e : Ending) (w' : World) : Prop := ∃ v, e = .returned (.tuple #[qdv r.1 v, .int .i64 r.2.1, .int .i64 r.2.2]) ∧ w'.ownsRow w.heap.size 9 1 v r.1.us.length (strs r.1.us) ∧ Below w.heap.size w w'
theorem ParseO.r {r : Qd × Int × Int} {w w' : World} {e : Ending} (h : ParseO r w e w') : ParseR r w e w' := by
  obtain ⟨v, he, ho, hb⟩ := h
  exact ⟨v, he, (Sl.of_own ho).a, hb⟩
set_option maxRecDepth 100000 in
set_option maxHeartbeats 8000000 in
theorem query_ParseO (s : ByteArray) (w : World) (hs : s.size < 4294967281) (hg : Gl w) :
    Calls Tryd.prog 13 #[.string s] w fun e w' => ParseO (parseQ s) w e w' := by
  have HG := Lib.hid hg
  have E := Lib.hid (show parseQ s = parseQT (tokens (bl s)) (endOf s) from rfl)
  have EO := Lib.hid (show endOf s = ((Lib.trimRightB (bare (bl s)) 32).length : Int) + 1 from rfl)
  have hcut := fun (W : World) (h : Gl W) => scan_cutQ s W hs h
  have HC := Lib.hid hcut
  have HT := Lib.hid (fun W => Tryd.strings_TrimRight_one (⟨(bare (bl s)).toArray⟩) 32 (by decide) W (by simp [ByteArray.size]; have := bare_le (bl s); rw [bl_len] at this; omega))
  have hend : endOf s ≤ 4294967282 := by have := trimRight_le (bare (bl s)) 32; have := bare_le (bl s); rw [bl_len] at this; unfold endOf; omega
  have hend0 : 0 ≤ endOf s := by unfold endOf; omega
  have HTL := Lib.hid (tokens_len (bl s))
  generalize hE : endOf s = en at *
  generalize hr : (⟨(Lib.trimRightB (bare (bl s)) 32).toArray⟩ : ByteArray) = tr at HT
  have htr : (tr.size : Int) + 1 = en := by rw [← hr, ← hE]; rfl
  clear hr EO hE
  generalize parseQ s = res at E ⊢
  clear hg hcut
  go_enter Tryd.func13, Tryd.ntmps13
  go_wp2_with fail
  refine (scan_Tokens_any s _ (HG.out.below ((Below.refl _ _).alloc (Nat.le_refl _) _)) (by omega)).mono ?_
  rintro e w1 ⟨va, rfl, hown1, hb1⟩
  obtain ⟨sa, sc, rfl⟩ := own_form hown1
  have hsl1 := Lib.hid (Sl.of_own hown1)
  have hG1 := Lib.hid ((HG.out.below ((Below.refl _ _).alloc (Nat.le_refl _) _)).below hb1)
  have HD1 := Lib.hid (keep1 hb1)
  have HBW := Lib.hid (((Below.refl _ _).alloc (Nat.le_refl _) _).trans (hb1.mono (by simp)) : Below w.heap.size w w1)
  clear hown1 hb1
  generalize tokens (bl s) = t at hsl1 E HTL ⊢
  obtain ⟨l, i, y⟩ := t
  dsimp only at hsl1 E HTL ⊢
  have hD1 := HD1.out.2.2
  by_cases hy : y = 0
  · subst hy
    replace E := Lib.hid (E.out.trans (show parseQT (l, i, 0) en = readQ l en from if_neg (fun h => h rfl)))
    go_wp2_with fail
    refine (HC.out w1 hG1.out).mono ?_
    rintro e w' ⟨x, bb, rfl, n, rfl⟩
    go_wp2_with (go_at_call 40; refine (HT.out _).mono ?_; rintro e w' ⟨rfl, rfl⟩)
    obtain ⟨WX, hWX⟩ : ∃ W, W = (w1.drewN n).alloc (.cells #[.slice sa l.length sc, .int .i64 en, .int .i64 0, .int .i64 0] 61) := ⟨_, rfl⟩
    have hbx : Below w1.heap.size w1 WX := by rw [hWX]; exact (below_of_drewN n).alloc (Nat.le_refl _) _
    have hr0 : RdAt w1 WX w1.heap.size ⟨l, en, 0, 0⟩ := ⟨Nat.le_refl _, hbx, _, hsl1.out, by rw [hWX]; exact Blk.new (w1.drewN n) _ _⟩
    obtain ⟨WY, hWY⟩ : ∃ W, W = WX.alloc (.cells #[.string wAlways, .string wCan] 9) := ⟨_, rfl⟩
    have hby : Below WX.heap.size WX WY := by rw [hWY]; exact (Below.refl _ _).alloc (Nat.le_refl _) _
    have hWD := qr_word ⟨l, en, 0, 0⟩ w1 WY w1.heap.size (.slice (some ⟨WX.heap.size, 0, none⟩) 2 2) [wAlways, wCan] (hr0.later hby) (by rw [hWY]; exact (Sl.new1 WX [.string wAlways, .string wCan] 9 WX.heap.size 2 rfl rfl (by decide)).a)
    have hxs : WX.heap.size = w1.heap.size + 1 := by rw [hWX]; simp
    rw [hxs] at hWD
    cases h1 : (Rd.mk l en 0 0).word [wAlways, wCan] with | mk s1 r1 =>
    rw [h1] at hWD
    have HWD := Lib.hid hWD
    clear hWD hr0 hby hbx hxs
    subst hWY
    subst hWX
    go_wp2_with fail
    refine HWD.out.mono ?_
    rintro e w2 ⟨rfl, hr1, hg1⟩
    clear HWD
    have HR1 := Lib.hid hr1
    clear hg1 hr1
    cases h2 : r1.role with | mk a r2 =>
    cases h3 : r2.ask (decide (s1 = wAlways)) with | mk k r3 =>
    cases h4 : r3.roleB k with | mk b r4 =>
    cases h5 : r4.whoB k with | mk us r5 =>
    have hl4 : r4.l.length ≤ 1000 := by
      have e1 := drop_want ⟨l, en, 0, 0⟩ (wordIn [wAlways, wCan])
      rw [show (Rd.mk l en 0 0).want (wordIn [wAlways, wCan]) = (s1, r1) from h1] at e1
      have e2 := drop_role r1
      rw [h2] at e2
      have e3 := drop_ask r2 (decide (s1 = wAlways))
      rw [h3] at e3
      have e4 := drop_roleB r3 k
      rw [h4] at e4
      have e5 := HTL.out
      dsimp only at e1 e2 e3 e4
      omega
    obtain ⟨a1, a2⟩ := a
    obtain ⟨b1, b2⟩ := b
    replace E := Lib.hid (show res = r5.endQ ⟨k, ⟨a1, a2⟩, ⟨b1, b2⟩, us⟩ by
      rw [E.out]
      unfold readQ midQ tailQ
      rw [h1]
      dsimp only
      rw [h2]
      dsimp only
      rw [h3]
      dsimp only
      rw [h4]
      dsimp only
      rw [h5])
    have R2 := Lib.hid (fun W (h : RdAt w1 W w1.heap.size r1) => qrole_pair h2 w1 W w1.heap.size h)
    have R3 := Lib.hid (fun W (h : RdAt w1 W w1.heap.size r2) => qask_pair h3 w1 W w1.heap.size h)
    have H4 := Lib.hid h4
    have H5 := Lib.hid h5
    have hu : (s1.toList == wAlways.toList) = decide (s1 = wAlways) := beq_str s1 wAlways
    rw [show wAlways.toList = [97, 108, 119, 97, 121, 115] from by rw [ByteArray.toList_eq]; rfl] at hu
    clear h1 h2 h3 h4 h5
    go_wp2_with fail
    refine (R2.out _ HR1.out).mono ?_
    rintro e w3 ⟨rfl, hr2, _⟩
    have HR := Lib.hid hr2
    have hlt3 : w1.heap.size < w3.heap.size := hr2.lt
    clear hr2 R2
    go_wp2_with fail
    refine (R3.out _ (HR.out.alloc _)).mono ?_
    rintro e w5 ⟨rfl, hr3, hg3⟩
    have hB5 := (Blk.new w3 #[.int .i64 0, .string a1, .string a2, .string emp, .string emp, .slice none 0 0] 31).grown hg3 (fun e => by have := Option.some.inj e; omega)
    have HQ := Lib.hid hB5
    have HR := Lib.hid hr3
    obtain ⟨gq, hgq⟩ : ∃ g, g = w3.heap.size := ⟨_, rfl⟩
    have hgq1 : w1.heap.size < gq := by omega
    rw [← hgq] at HQ hB5 ⊢
    obtain ⟨cb, fb, zb⟩ := hB5
    clear hr3 hg3 R3 hgq hlt3
    go_wp2_with fail
    refine (query_secondB k _).mono ?_
    rintro e w6 ⟨rfl, hw6⟩
    obtain rfl := hw6
    have HR6 := Lib.hid (HR.out.set (b := gq) (o := 0) (.int .i64 k) (by omega) (by omega))
    have HQ6 := Lib.hid (HQ.out.set 0 (.int .i64 k) (by simp))
    clear cb fb zb HR HQ
    obtain ⟨W6, hW6⟩ : ∃ W, W = w5.setCell ⟨gq, 0, none⟩ (.int .i64 k) := ⟨_, rfl⟩
    rw [← hW6] at HR6 HQ6 ⊢
    clear hW6
    go_upto_if 52 with fail
    go_cut [] (fun wx => ∃ V, V = wx ∧ Hid (RdAt w1 V w1.heap.size r4) ∧ Hid (Blk V gq #[.int .i64 k, .string a1, .string a2, .string b1, .string b2, .slice none 0 0]))
    case first =>
      cases hsec : secB k with
      | false =>
        have e4 := H4.out
        unfold Rd.roleB at e4
        rw [if_neg (by rw [hsec]; decide)] at e4
        simp only [Prod.mk.injEq, noR, Rl.mk.injEq] at e4
        obtain ⟨⟨rfl, rfl⟩, rfl⟩ := e4
        go_wp2
        go_meet
        exact ⟨_, rfl, HR6, HQ6⟩
      | true =>
        have e4 := H4.out
        unfold Rd.roleB at e4
        rw [if_pos hsec] at e4
        have R4 := Lib.hid (qrole_pair e4 w1 W6 w1.heap.size HR6.out)
        go_wp2_with fail
        refine R4.out.mono ?_
        rintro e w7 ⟨rfl, hr7, hg7⟩
        have hB7 := HQ6.out.grown hg7 (fun e => by have := Option.some.inj e; omega)
        have HR7 := Lib.hid ((hr7.set (b := gq) (o := 3) (.string b1) (by omega) (by omega)).set (b := gq) (o := 4) (.string b2) (by omega) (by omega))
        have HQ7 := Lib.hid ((hB7.set 3 (.string b1) (by simp)).set 4 (.string b2) (by simp))
        obtain ⟨cb, fb, zb⟩ := hB7
        clear hr7 hg7 R4
        go_wp2
        go_meet
        exact ⟨_, rfl, HR7, HQ7⟩
    case rest =>
    clear HR6 HQ6
    obtain ⟨V, rfl, HR, HQ⟩ := hcut
    obtain ⟨cb, fb, zb⟩ := HQ.out
    go_wp2_with fail
    refine (query_least k _).mono ?_
    rintro e w7 ⟨rfl, hw7⟩
    subst hw7
    go_upto_if 60 with fail
    clear cb fb zb
    go_cut [] (fun wx => ∃ (W : World) (v : Value), W = wx ∧ Hid (RdAt w1 W w1.heap.size r5) ∧ Hid (W.ownsRow w7.heap.size 9 1 v us.length (strs us)) ∧ Hid (Blk W gq #[.int .i64 k, .string a1, .string a2, .string b1, .string b2, v]))
    case first =>
      by_cases hl : 0 ≤ leastI k
      · have e5 := H5.out
        unfold Rd.whoB at e5
        rw [if_pos hl] at e5
        have R5 := Lib.hid (qwho_pair e5 w1 w7 w1.heap.size HR.out hl4)
        have dl : decide ((0 : Int) ≤ leastI k) = true := decide_eq_true hl
        clear e5 H5
        generalize leastI k = lk at *
        go_wp2_with fail
        refine R5.out.mono ?_
        rintro e w8 ⟨av, cv, rfl, hr8, hown8, hg8⟩
        have hB8 := HQ.out.grown hg8 (fun e => by have := Option.some.inj e; omega)
        have hq8 := HQ.out.2.2
        have HR8 := Lib.hid (hr8.set (b := gq) (o := 5) (.slice av us.length cv) (by omega) (by omega))
        have HQ8 := Lib.hid (hB8.set 5 (.slice av us.length cv) (by simp))
        have HO8 := Lib.hid (hown8.kept (gb_setCell (g := gq) (o := 5) (World.grownBy.refl _ _) (.slice av us.length cv)) (.inr (fun e => by have := (hown8.lt gq e).1; omega)))
        obtain ⟨cb, fb, zb⟩ := hB8
        clear hr8 hown8 hg8 R5
        go_wp2
        go_meet
        exact ⟨_, _, rfl, HR8, HO8, HQ8⟩
      · have e5 := H5.out
        unfold Rd.whoB at e5
        rw [if_neg hl] at e5
        simp only [Prod.mk.injEq] at e5
        obtain ⟨rfl, rfl⟩ := e5
        have dl : decide ((0 : Int) ≤ leastI k) = false := decide_eq_false hl
        clear H5
        generalize leastI k = lk at *
        go_wp2
        go_meet
        exact ⟨_, _, rfl, HR, Lib.hid (World.ownsRow_nil _ _ _ _), HQ⟩
    case rest =>
    have hq7 := HQ.out.2.2
    have hD7 : w.heap.size < w7.heap.size := Nat.lt_of_lt_of_le hD1 HR.out.below.size
    have HMN := Lib.hid (Nat.le_of_lt hD7)
    clear HR HQ H4 H5 hl4 hu hG1 HG HC HT HTL
    obtain ⟨V2, vw, rfl, HR, HO, HQ⟩ := hcut
    obtain ⟨ao, ac, rfl⟩ := own_form HO.out
    obtain ⟨l5, e5, p5, y5⟩ := r5
    have hbel := HR.out.below
    obtain ⟨lv, hs5, hb5⟩ := HR.out.row
    have c0 := hb5.cell 0 lv rfl
    have c3 := hb5.cell 3 (.int .i64 y5) rfl
    dsimp only at hs5
    cases l5 with
    | nil =>
      obtain ⟨la, lc, rfl⟩ := hs5.form
      clear hs5 hb5 hbel
      by_cases hy6 : y5 = 0
      · subst hy6
        have E := Lib.hid (E.out.trans (endQ_nil e5 p5 ⟨k, ⟨a1, a2⟩, ⟨b1, b2⟩, us⟩))
        have HB := Lib.hid (HBW.out.trans (HR.out.below.mono (Nat.le_of_lt hD1)))
        obtain ⟨cb, fb, zb⟩ := HQ.out
        obtain ⟨ca, fa, za⟩ := HD1.out.below HR.out.below
        go_wp2
        refine bodyPost_ret (v := .tuple #[qdv ⟨k, ⟨a1, a2⟩, ⟨b1, b2⟩, us⟩ (.slice ao us.length ac), .int .i64 0, .int .i64 0]) (by simp [results, Tryd.results13, go_sem, ca]) rfl ⟨_, by rw [E.out], ?_, ?_⟩
        · rw [E.out]
          refine own_mono (HO.out.kept (row := some w.heap.size) ?_ (.inr (fun e => by have := (HO.out.lt _ e).1; omega))) HMN.out
          repeat' (first | exact World.grownBy.refl _ _ | refine gb_setCell ?_ _)
        · have hb4 := HB.out
          (repeat' (first | with_reducible exact Below.refl _ _ | with_reducible assumption | with_reducible (refine Below.setCell ?_ ?_ _) | with_reducible (refine Below.alloc ?_ ?_ _) | with_reducible (refine below_drew ?_) | with_reducible (refine below_drewN ?_ _) | with_reducible (refine Below.trans ?_ (Below.mono (by assumption) ?_)) | omega | (simp; done) | (simp; omega)))
      · have E := Lib.hid (E.out.trans (endQ_why [] e5 p5 y5 ⟨k, ⟨a1, a2⟩, ⟨b1, b2⟩, us⟩ hy6))
        clear HQ HO
        obtain ⟨ca, fa, za⟩ := HD1.out.below HR.out.below
        have HB := Lib.hid (HBW.out.trans (HR.out.below.mono (Nat.le_of_lt hD1)))
        obtain ⟨_, _, lv6, hs6, hb6⟩ := HR.out
        have c2 := hb6.cell 2 (.int .i64 p5) rfl
        have c3 := hb6.cell 3 (.int .i64 y5) rfl
        have f0 := hb6.2.1
        have z0 := hb6.2.2
        have dy : (y5 != 0) = true := by simp [hy6]
        have dy' : (y5 == 0) = false := by simp [hy6]
        clear hs6 hb6 hy6
        go_wp2_with fail
        go_region
        go_wp2
        refine bodyPost_ret (v := .tuple #[qdv noQd (.slice none 0 0), .int .i64 p5, .int .i64 y5]) (by simp [results, Tryd.results13, go_sem, ca, noQd, noR]) rfl ⟨_, by rw [E.out], by rw [E.out]; exact World.ownsRow_nil _ _ _ _, ?_⟩
        have hb4 := HB.out
        (repeat' (first | with_reducible exact Below.refl _ _ | with_reducible assumption | with_reducible (refine Below.setCell ?_ ?_ _) | with_reducible (refine Below.alloc ?_ ?_ _) | with_reducible (refine below_drew ?_) | with_reducible (refine below_drewN ?_ _) | with_reducible (refine Below.trans ?_ (Below.mono (by assumption) ?_)) | omega | (simp; done) | (simp; omega)))
    | cons t tl =>
      obtain ⟨tb, off, cap, rfl, hc, hm, hlt, hx⟩ := hs5.pos (by simp)
      have d1 : decide ((0 : Int) < (tl.length : Int) + 1) = true := by (rw [decide_eq_true_iff]; omega)
      have FA := Lib.hid (fun W (h : RdAt w1 W w1.heap.size ⟨t :: tl, e5, p5, y5⟩) => qr_fail ⟨t :: tl, e5, p5, y5⟩ w1 W w1.heap.size 2 h)
      obtain ⟨E1, hy6⟩ := endQ_fail t tl e5 p5 y5 ⟨k, ⟨a1, a2⟩, ⟨b1, b2⟩, us⟩
      rw [E1] at E
      clear hs5 hb5 hbel hx hc hm hlt E1
      generalize (Rd.mk (t :: tl) e5 p5 y5).failQ 2 = r6 at E hy6 FA
      obtain ⟨l6, e6, p6, y6⟩ := r6
      dsimp only at hy6 E
      go_wp2_with fail
      refine (FA.out _ HR.out).mono ?_
      rintro e w9 ⟨rfl, hr9, _⟩
      have HR := Lib.hid hr9
      clear hr9 FA
      clear HQ HO
      obtain ⟨ca, fa, za⟩ := HD1.out.below HR.out.below
      have HB := Lib.hid (HBW.out.trans (HR.out.below.mono (Nat.le_of_lt hD1)))
      obtain ⟨_, _, lv6, hs6, hb6⟩ := HR.out
      have c2 := hb6.cell 2 (.int .i64 p6) rfl
      have c3 := hb6.cell 3 (.int .i64 y6) rfl
      have f0 := hb6.2.1
      have z0 := hb6.2.2
      have dy : (y6 != 0) = true := by simp [hy6]
      have dy' : (y6 == 0) = false := by simp [hy6]
      clear hs6 hb6 hy6
      go_wp2_with fail
      go_region
      go_wp2
      refine bodyPost_ret (v := .tuple #[qdv noQd (.slice none 0 0), .int .i64 p6, .int .i64 y6]) (by simp [results, Tryd.results13, go_sem, ca, noQd, noR]) rfl ⟨_, by rw [E.out], by rw [E.out]; exact World.ownsRow_nil _ _ _ _, ?_⟩
      have hb4 := HB.out
      (repeat' (first | with_reducible exact Below.refl _ _ | with_reducible assumption | with_reducible (refine Below.setCell ?_ ?_ _) | with_reducible (refine Below.alloc ?_ ?_ _) | with_reducible (refine below_drew ?_) | with_reducible (refine below_drewN ?_ _) | with_reducible (refine Below.trans ?_ (Below.mono (by assumption) ?_)) | omega | (simp; done) | (simp; omega)))
  · replace E := Lib.hid (E.out.trans (show parseQT (l, i, y) en = (noQd, i, y) from if_pos hy))
    have d : (y != 0) = true := by simp [hy]
    clear hy
    obtain ⟨ca, fa, za⟩ := HD1.out
    go_wp2
    refine bodyPost_ret (v := .tuple #[qdv noQd (.slice none 0 0), .int .i64 i, .int .i64 y]) (by simp [results, Tryd.results13, go_sem, ca, noQd, noR]) rfl ⟨_, by rw [E.out], by rw [E.out]; exact World.ownsRow_nil _ _ _ _, ?_⟩
    have hb4 := HBW.out
    (repeat' (first | with_reducible exact Below.refl _ _ | with_reducible assumption | with_reducible (refine Below.setCell ?_ ?_ _) | with_reducible (refine Below.alloc ?_ ?_ _) | with_reducible (refine below_drew ?_) | with_reducible (refine below_drewN ?_ _) | with_reducible (refine Below.trans ?_ (Below.mono (by assumption) ?_)) | omega | (simp; done) | (simp; omega)))
theorem query_Parse (s : ByteArray) (w : World) (hs : s.size < 4294967281) (hg : Gl w) :
    Calls Tryd.prog 13 #[.string s] w fun e w' => ParseR (parseQ s) w e w' := (query_ParseO s w hs hg).mono fun _ _ h => h.r
end Go.Proofs.YtedkkegjiikcmaaDoor
namespace Go.Proofs.YtedkkegjiikcmaaDoor
open Go.RowKit Go.Shelf

set_option maxRecDepth 100000 in
set_option maxHeartbeats 2000000 in
theorem ref1_SameQ (va vb : Value) (l m : List ByteArray) (w : World) (ha : SlA w 1 va l.length (strs l)) (hb : SlA w 1 vb m.length (strs m)) :
    Calls Tryd.prog 8 #[va, vb] w fun e w' => e = .returned (.bool (decide (l = m))) ∧ ∃ n, w' = w.drewN n := by
  have hmax := ha.max
  have hmax2 := hb.max
  by_cases hl : l.length = m.length
  case neg =>
    have R := Lib.hid (same_lenT hl)
    have d : ((l.length : Int) != (m.length : Int)) = true := by rw [bne_iff_ne]; omega
    obtain ⟨a1, c1, rfl⟩ := ha.form
    obtain ⟨a2, c2, rfl⟩ := hb.form
    clear ha hb hl
    go_enter Tryd.func8, Tryd.ntmps8
    go_wp2
    go_ret
    exact ⟨ret_b R.out.symm, 0, rfl⟩
  have hne : ((l.length : Int) != (m.length : Int)) = false := by rw [hl]; simp
  by_cases h0 : 0 < l.length
  · obtain ⟨b1, o1, c1, rfl, hc1, hm1, _, hx1⟩ := ha.pos h0
    obtain ⟨b2, o2, c2, rfl, hc2, hm2, _, hx2⟩ := hb.pos (by omega)
    have HX1 := Lib.hid hx1
    have HX2 := Lib.hid hx2
    have HL := Lib.hid hl
    clear ha hb hx1 hx2 hl
    go_enter Tryd.func8, Tryd.ntmps8
    go_wp2
    go_loopw [13] (fun i wr => ∃ k n : Nat, k ≤ l.length ∧ i = .int .i64 k ∧ wr = w.drewN n ∧ Hid (l.take k = m.take k)) (fun i _ => l.length - (intOf i).toNat)
    case atStart => exact ⟨0, 0, by omega, rfl, rfl, Lib.hid (by simp)⟩
    case round =>
      obtain ⟨k, n, hk, rfl, rfl, HT⟩ := hrel
      by_cases hlt : k < l.length
      · have hlt2 : k < m.length := by have := HL.out; omega
        have p0 := HX1.out k _ (strs_get hlt)
        have q0 := HX2.out k _ (strs_get hlt2)
        by_cases he : l[k] = m[k]
        · have HN := Lib.hid (take_moreT HT.out hlt hlt2 he)
          have d1 : (!(l[k].toList == m[k].toList)) = false := by rw [beq_str, decide_eq_true he]; rfl
          clear he
          generalize l[k] = x at *
          generalize m[k] = y at *
          go_wp2_with fail
          go_big_quiet (fail)
          go_wp2
          exact ⟨⟨k + 1, n + nq, by omega, by go_num, rfl, HN⟩, by simp [intOf]; omega⟩
        · have R := Lib.hid (same_noT hlt hlt2 he)
          have d1 : (!(l[k].toList == m[k].toList)) = true := by rw [beq_str, decide_eq_false he]; rfl
          clear he
          generalize l[k] = x at *
          generalize m[k] = y at *
          go_wp2_with fail
          go_big_quiet (fail)
          go_wp2
          go_ret
          exact ⟨ret_b R.out.symm, n + nq, by simp [World.drewN, Nat.add_assoc]⟩
      · have R := Lib.hid (same_endT HT.out hlt (by have := HL.out; omega))
        go_wp2
        go_ret
        exact ⟨ret_b R.out.symm, n, rfl⟩
  · have R := Lib.hid (same_endT (l := l) (m := m) (k := 0) (by simp) h0 (by omega))
    obtain ⟨a1, c1, rfl⟩ := ha.form
    obtain ⟨a2, c2, rfl⟩ := hb.form
    have d0 : l.length = 0 := by omega
    have d02 : m.length = 0 := by omega
    clear ha hb h0 hmax hl hmax2
    go_enter Tryd.func8, Tryd.ntmps8
    go_wp2
    go_loopw [13] (fun i wr => i = .int .i64 0 ∧ wr = w) (fun _ _ => 0)
    case atStart => exact ⟨rfl, rfl⟩
    case round =>
      obtain ⟨rfl, rfl⟩ := hrel
      go_wp2
      go_ret
      exact ⟨ret_b R.out.symm, 0, rfl⟩
theorem ref1_SameQB (va vb : Value) (l m : List ByteArray) (w : World) (ha : SlA w 1 va l.length (strs l)) (hb : SlA w 1 vb m.length (strs m)) :
    Calls Tryd.prog 8 #[va, vb] w fun e w' => e = .returned (.bool (decide (l = m))) ∧ Below w.heap.size w w' :=
  (ref1_SameQ va vb l m w ha hb).mono fun e w' ⟨he, n, hn⟩ => ⟨he, by rw [hn]; exact below_of_drewN n⟩
theorem str_EqualQB (va vb : Value) (l m : List ByteArray) (w : World) (ha : SlA w 1 va l.length (strs l)) (hb : SlA w 1 vb m.length (strs m)) :
    Calls Tryd.prog 61 #[va, vb] w fun e w' => e = .returned (.bool (decide (l = m))) ∧ Below w.heap.size w w' :=
  (str_Equal va vb l m w ha hb).mono fun e w' ⟨he, n, hn⟩ => ⟨he, by rw [hn]; exact below_of_drewN n⟩
def sameQ (x y : Qd) : Bool := if x.k = y.k then if x.a = y.a then if x.b = y.b then decide (x.us = y.us) else false else false else false
theorem sameQ_iff {x y : Qd} : sameQ x y = true ↔ x = y := by
  obtain ⟨k, a, b, us⟩ := x
  obtain ⟨k', a', b', us'⟩ := y
  unfold sameQ
  simp only [Qd.mk.injEq]
  constructor
  · intro h
    split at h
    · split at h
      · split at h
        · exact ⟨by assumption, by assumption, by assumption, of_decide_eq_true h⟩
        · exact absurd h (by decide)
      · exact absurd h (by decide)
    · exact absurd h (by decide)
  · rintro ⟨rfl, rfl, rfl, rfl⟩
    simp
set_option maxRecDepth 100000 in
set_option maxHeartbeats 2000000 in
theorem ref4_SameQ (x y : Qd) (va vb : Value) (w : World) (ha : SlA w 1 va x.us.length (strs x.us)) (hb : SlA w 1 vb y.us.length (strs y.us)) :
    Calls Tryd.prog 16 #[qdv x va, qdv y vb] w fun e w' => e = .returned (.bool (sameQ x y)) ∧ Below w.heap.size w w' := by
  have E := Lib.hid (show sameQ x y = (if x.k = y.k then if x.a = y.a then if x.b = y.b then decide (x.us = y.us) else false else false else false) from rfl)
  have hEq := role_eql
  have SS := Lib.hid (fun W (h : Below w.heap.size w W) => ref1_SameQB va vb x.us y.us W (ha.below h) (hb.below h))
  generalize sameQ x y = r at *
  obtain ⟨k, ⟨x1, x2⟩, ⟨x3, x4⟩, us⟩ := x
  obtain ⟨k', ⟨y1, y2⟩, ⟨y3, y4⟩, us'⟩ := y
  dsimp only at E SS ha hb
  obtain ⟨wo, wc, rfl⟩ := ha.form
  obtain ⟨uo, uc, rfl⟩ := hb.form
  have HT := Lib.hid (TwoAt.new w #[.int .i64 k, .string x1, .string x2, .string x3, .string x4, .slice wo us.length wc] #[.int .i64 k', .string y1, .string y2, .string y3, .string y4, .slice uo us'.length uc] 31 31)
  have SS := Lib.hid (SS.out _ HT.out.low)
  clear ha hb
  by_cases h1 : k = k'
  case neg =>
    have R := Lib.hid (show r = false by rw [E.out, if_neg h1])
    have d1 : (k == k') = false := by simpa using h1
    clear h1 E
    go_enter Tryd.func16, Tryd.ntmps16
    go_wp2
    go_ret
    exact ⟨ret_b R.out.symm, HT.out.low⟩
  rw [if_pos h1] at E
  subst h1
  by_cases h2 : (⟨x1, x2⟩ : Rl) = ⟨y1, y2⟩
  case neg =>
    have R := Lib.hid (show r = false by rw [E.out, if_neg h2])
    have d1 : eqRl ⟨x1, x2⟩ ⟨y1, y2⟩ = false := decide_eq_false h2
    clear h2 E
    go_enter Tryd.func16, Tryd.ntmps16
    go_wp2
    go_ret
    exact ⟨ret_b R.out.symm, HT.out.low⟩
  rw [if_pos h2] at E
  have d1 : eqRl ⟨x1, x2⟩ ⟨y1, y2⟩ = true := decide_eq_true h2
  clear h2
  by_cases h3 : (⟨x3, x4⟩ : Rl) = ⟨y3, y4⟩
  case neg =>
    have R := Lib.hid (show r = false by rw [E.out, if_neg h3])
    have d2 : eqRl ⟨x3, x4⟩ ⟨y3, y4⟩ = false := decide_eq_false h3
    clear h3 E
    go_enter Tryd.func16, Tryd.ntmps16
    go_wp2
    go_ret
    exact ⟨ret_b R.out.symm, HT.out.low⟩
  rw [if_pos h3] at E
  have d2 : eqRl ⟨x3, x4⟩ ⟨y3, y4⟩ = true := decide_eq_true h3
  clear h3
  generalize decide (us = us') = d at *
  have R := Lib.hid E.out
  clear E
  go_enter Tryd.func16, Tryd.ntmps16
  go_wp2_with fail
  refine SS.out.mono ?_
  rintro e w1 ⟨rfl, hb⟩
  have HT := Lib.hid (HT.out.later hb)
  clear hb SS
  go_wp2
  go_ret
  exact ⟨ret_b R.out.symm, HT.out.low⟩
set_option maxRecDepth 100000 in
set_option maxHeartbeats 2000000 in
theorem query_SameQ (x y : Qd) (va vb : Value) (w : World) (ha : SlA w 1 va x.us.length (strs x.us)) (hb : SlA w 1 vb y.us.length (strs y.us)) :
    Calls Tryd.prog 22 #[qdv x va, qdv y vb] w fun e w' => e = .returned (.bool (sameQ x y)) ∧ Below w.heap.size w w' := by
  have E := Lib.hid (show sameQ x y = (if x.k = y.k then if x.a = y.a then if x.b = y.b then decide (x.us = y.us) else false else false else false) from rfl)
  have hEq := role_eql
  have SS := Lib.hid (fun W (h : Below w.heap.size w W) => str_EqualQB va vb x.us y.us W (ha.below h) (hb.below h))
  generalize sameQ x y = r at *
  obtain ⟨k, ⟨x1, x2⟩, ⟨x3, x4⟩, us⟩ := x
  obtain ⟨k', ⟨y1, y2⟩, ⟨y3, y4⟩, us'⟩ := y
  dsimp only at E SS ha hb
  obtain ⟨wo, wc, rfl⟩ := ha.form
  obtain ⟨uo, uc, rfl⟩ := hb.form
  have HT := Lib.hid (TwoAt.new w #[.int .i64 k, .string x1, .string x2, .string x3, .string x4, .slice wo us.length wc] #[.int .i64 k', .string y1, .string y2, .string y3, .string y4, .slice uo us'.length uc] 31 31)
  have SS := Lib.hid (SS.out _ HT.out.low)
  clear ha hb
  by_cases h1 : k = k'
  case neg =>
    have R := Lib.hid (show r = false by rw [E.out, if_neg h1])
    have d1 : (k == k') = false := by simpa using h1
    clear h1 E
    go_enter Tryd.func22, Tryd.ntmps22
    go_wp2
    go_ret
    exact ⟨ret_b R.out.symm, HT.out.low⟩
  rw [if_pos h1] at E
  subst h1
  by_cases h2 : (⟨x1, x2⟩ : Rl) = ⟨y1, y2⟩
  case neg =>
    have R := Lib.hid (show r = false by rw [E.out, if_neg h2])
    have d1 : eqRl ⟨x1, x2⟩ ⟨y1, y2⟩ = false := decide_eq_false h2
    clear h2 E
    go_enter Tryd.func22, Tryd.ntmps22
    go_wp2
    go_ret
    exact ⟨ret_b R.out.symm, HT.out.low⟩
  rw [if_pos h2] at E
  have d1 : eqRl ⟨x1, x2⟩ ⟨y1, y2⟩ = true := decide_eq_true h2
  clear h2
  by_cases h3 : (⟨x3, x4⟩ : Rl) = ⟨y3, y4⟩
  case neg =>
    have R := Lib.hid (show r = false by rw [E.out, if_neg h3])
    have d2 : eqRl ⟨x3, x4⟩ ⟨y3, y4⟩ = false := decide_eq_false h3
    clear h3 E
    go_enter Tryd.func22, Tryd.ntmps22
    go_wp2
    go_ret
    exact ⟨ret_b R.out.symm, HT.out.low⟩
  rw [if_pos h3] at E
  have d2 : eqRl ⟨x3, x4⟩ ⟨y3, y4⟩ = true := decide_eq_true h3
  clear h3
  generalize decide (us = us') = d at *
  have R := Lib.hid E.out
  clear E
  go_enter Tryd.func22, Tryd.ntmps22
  go_wp2_with fail
  refine SS.out.mono ?_
  rintro e w1 ⟨rfl, hb⟩
  have HT := Lib.hid (HT.out.later hb)
  clear hb SS
  go_wp2
  go_ret
  exact ⟨ret_b R.out.symm, HT.out.low⟩
end Go.Proofs.YtedkkegjiikcmaaDoor
namespace Go.Proofs.YtedkkegjiikcmaaDoor
open Go.RowKit Go.Shelf

theorem rises_asc {us : List ByteArray} (h : rises us = true) : (∀ x ∈ us, isP 65 90 (bl x) = true) ∧ AscB us := by
  unfold rises at h
  rw [List.all_eq_true] at h
  have h' : ∀ i, i < us.length → risesAt us i = true := fun i hi => h i (List.mem_range.2 hi)
  refine ⟨fun x hx => ?_, ?_⟩
  · obtain ⟨i, hi, rfl⟩ := List.getElem_of_mem hx
    have := h' i hi
    unfold risesAt at this
    rw [Bool.and_eq_true, getD_at hi] at this
    exact this.1
  · have adj : ∀ i (hi : i + 1 < us.length), cmpS us[i] us[i + 1] < 0 := fun i hi => by
      have := h' (i + 1) hi
      unfold risesAt at this
      rw [Bool.and_eq_true, Bool.or_eq_true, getD_at hi] at this
      rcases this.2 with e | e
      · exact absurd (of_decide_eq_true e) (by omega)
      · rw [Nat.add_sub_cancel, getD_at (by omega), ← str_less, decide_eq_true_iff] at e
        exact e
    have far : ∀ d i (hi : i + d + 1 < us.length), cmpS us[i] us[i + d + 1] < 0 := by
      intro d
      induction d with
      | zero => exact fun i hi => adj i hi
      | succ d ih => exact fun i hi => lt_trans'B (ih i (by omega)) (adj (i + d + 1) hi)
    exact List.pairwise_iff_getElem.2 fun i j hi hj hij => by
      obtain ⟨d, rfl⟩ : ∃ d, j = i + d + 1 := ⟨j - i - 1, by omega⟩
      exact far d i hj
theorem rises_of {us : List ByteArray} (hp : ∀ x ∈ us, isP 65 90 (bl x) = true) (ha : AscB us) : rises us = true := by
  refine rises_yes (k := us.length) (by omega) (fun j hj => ?_)
  unfold risesAt
  rw [getD_at hj, hp _ (List.getElem_mem hj), Bool.true_and, Bool.or_eq_true]
  by_cases h0 : j = 0
  · exact .inl (decide_eq_true h0)
  · refine .inr ?_
    rw [getD_at (by omega), ← str_less, decide_eq_true_iff]
    exact List.pairwise_iff_getElem.1 ha (j - 1) j (by omega) hj (by omega)
theorem good_of {q : Qv} {us : List ByteArray} (h : rightQ q us = true) : GoodQ ⟨q.k, q.a, q.b, us⟩ := by
  unfold rightQ at h
  simp only [Bool.and_eq_true, decide_eq_true_iff] at h
  obtain ⟨h1, h6, ha, hr, h⟩ := h
  obtain ⟨hp, hasc⟩ := rises_asc hr
  by_cases h5 : 5 ≤ q.k
  · rw [if_pos h5] at h
    simp only [Bool.and_eq_true, decide_eq_true_iff] at h
    obtain ⟨hb, hl⟩ := h
    exact ⟨h1, h6, ha, hp, hasc, by show us.length ≤ 12; omega, fun _ => hb, fun h => absurd h5 h, fun _ => List.eq_nil_of_length_eq_zero hl, fun h => by dsimp only at h; omega⟩
  · rw [if_neg h5] at h
    simp only [Bool.and_eq_true, decide_eq_true_iff, eqRl] at h
    obtain ⟨hb, hl, h⟩ := h
    by_cases h4 : q.k = 4
    · rw [if_pos h4, decide_eq_true_iff] at h
      exact ⟨h1, h6, ha, hp, hasc, hl, fun h => absurd h h5, fun _ => hb, fun _ => List.eq_nil_of_length_eq_zero h, fun h => by dsimp only at h; omega⟩
    · rw [if_neg h4, Bool.or_eq_true, decide_eq_true_iff, decide_eq_true_iff] at h
      exact ⟨h1, h6, ha, hp, hasc, hl, fun h => absurd h h5, fun _ => hb, fun h => by dsimp only at h; omega, fun hk => by
        dsimp only at hk ⊢
        rcases h with h | h
        · omega
        · omega⟩
theorem right_of {q : Qv} {us : List ByteArray} (h : GoodQ ⟨q.k, q.a, q.b, us⟩) : rightQ q us = true := by
  obtain ⟨h1, h6, ha, hp, hasc, hfew, htwo, hone, hnone, hsome⟩ := h
  dsimp only at h1 h6 ha hp hasc hfew htwo hone hnone hsome
  unfold rightQ
  rw [decide_eq_true h1, decide_eq_true h6, ha, rises_of hp hasc]
  simp only [Bool.true_and]
  by_cases h5 : 5 ≤ q.k
  · rw [if_pos h5, htwo h5, hnone (by omega)]; rfl
  · rw [if_neg h5, decide_eq_true hfew]
    have hb : eqRl q.b noR = true := decide_eq_true (hone h5)
    rw [hb]
    simp only [Bool.true_and]
    by_cases h4 : q.k = 4
    · rw [if_pos h4, hnone (by omega)]; rfl
    · rw [if_neg h4, Bool.or_eq_true, decide_eq_true_iff, decide_eq_true_iff]
      by_cases h3 : q.k = 3
      · exact .inl h3
      · have := hsome (by omega)
        exact .inr (by omega)
theorem right_iff {q : Qv} {us : List ByteArray} : rightQ q us = true ↔ GoodQ ⟨q.k, q.a, q.b, us⟩ := ⟨good_of, right_of⟩
end Go.Proofs.YtedkkegjiikcmaaDoor
namespace Go.Proofs.YtedkkegjiikcmaaDoor
open Go.RowKit Go.Shelf

theorem str_Join (v : Value) (xs : List ByteArray) (sep : ByteArray) (w : World) (h : SlA w 1 v xs.length (strs xs)) (hN : xs.length ≤ 1000000) (hlen : (joinB xs sep).size ≤ 140737488355328) :
    Calls Tryd.prog 60 #[v, .string sep] w fun e w' => e = .returned (.string (joinB xs sep)) ∧ Below w.heap.size w w' := by
  obtain ⟨ao, c, rfl⟩ := h.form
  by_cases h0 : xs.length = 0
  · have hx : xs = [] := List.eq_nil_of_length_eq_zero h0
    subst hx
    refine (str_Join_none ao c sep w).mono ?_
    rintro e w' ⟨rfl, rfl⟩
    exact ⟨rfl, Below.refl _ _⟩
  · obtain ⟨b1, o1, c1, he1, hc1, hm1, hb1, hx1⟩ := h.pos (by omega)
    simp only [Value.slice.injEq, true_and] at he1
    obtain ⟨rfl, rfl⟩ := he1
    have hcl : ∀ (j : Nat) x, xs[j]? = some x → w.cell? ⟨b1, o1 + j, none⟩ = some (.string x) := fun j x hj => hx1 j _ (by unfold strs; rw [List.getElem?_map, hj]; rfl)
    by_cases h1 : xs.length = 1
    · obtain ⟨x, hx⟩ := List.length_eq_one_iff.1 h1
      subst hx
      refine (str_Join_one b1 o1 c x sep w (by have := hcl 0 x rfl; simpa using this)).mono ?_
      rintro e w' ⟨rfl, rfl⟩
      exact ⟨by rw [joinB_one], Below.refl _ _⟩
    · refine (str_Join_many b1 o1 c xs sep w hcl hb1 (by omega) (by omega) hc1 ?_).mono ?_
      · have : (joinB xs sep).size = (Lib.join (xs.map (·.data.toList)) sep.data.toList).length := by unfold joinB; simp [ByteArray.size, bl]
        omega
      · rintro e w' ⟨rfl, hb⟩
        exact ⟨rfl, hb⟩
end Go.Proofs.YtedkkegjiikcmaaDoor
namespace Go.Proofs.YtedkkegjiikcmaaDoor
open Go.RowKit Go.Shelf

theorem query_head (k : Int) (w : World) : Calls Tryd.prog 58 #[.int .i64 k] w fun e w' => e = .returned (.string (headW k)) ∧ w' = w := by
  have UN := Lib.hid (fun W => query_Universal k W)
  have HE := Lib.hid (show headW k = if univB k = true then wAlways else wCan from rfl)
  generalize headW k = r at *
  generalize univB k = u at *
  cases u with
  | true =>
    have HE := Lib.hid (show r = wAlways by rw [HE.out]; rfl)
    go_enter Tryd.func58, Tryd.ntmps58
    go_wp2_with fail
    refine (UN.out _).mono ?_
    rintro e w1 ⟨rfl, rfl⟩
    go_wp2
    go_ret
    exact ⟨ret_s (by rw [HE.out]; rfl), rfl⟩
  | false =>
    have HE := Lib.hid (show r = wCan by rw [HE.out]; rfl)
    go_enter Tryd.func58, Tryd.ntmps58
    go_wp2_with fail
    refine (UN.out _).mono ?_
    rintro e w1 ⟨rfl, rfl⟩
    go_wp2
    go_ret
    exact ⟨ret_s (by rw [HE.out]; rfl), rfl⟩
theorem syn_PrintRoleQ (r : Rl) (w : World) (hs : r.le 1000000000000000) : Calls Tryd.prog 59 #[rv r] w fun e w' => e = .returned (.string (roleT r)) ∧ Below w.heap.size w w' := by
  obtain ⟨o, n⟩ := r
  obtain ⟨h1, h2⟩ := hs
  dsimp only at h1 h2
  go_enter Tryd.func59, Tryd.ntmps59
  go_wp2
  go_ret
  exact ⟨rfl, (Below.refl _ _).alloc (Nat.le_refl _) _⟩
theorem own_two {w : World} (x y : ByteArray) (base : Nat) (hb : base ≤ w.heap.size) : (w.alloc (.cells #[.string x, .string y] 9)).ownsRow base 9 1 (.slice (some ⟨w.heap.size, 0, none⟩) 2 2) [x, y].length (strs [x, y]) :=
  ⟨rfl, .inr ⟨w.heap.size, 2, #[.string x, .string y], rfl, hb, heap_alloc_new w _, (by show 2 ≤ 2; decide), (by decide), rfl, rfl⟩⟩
def printQ (q : Qv) (us : List ByteArray) : ByteArray := if rightQ q us = true then textQ ⟨q.k, q.a, q.b, us⟩ else emp
set_option maxRecDepth 100000 in
set_option maxHeartbeats 8000000 in
theorem query_Print (q : Qv) (us : List ByteArray) (w : World) (hla : q.a.le 4294967) (hlb : q.b.le 4294967) (hu : SlA w 1 q.w us.length (strs us)) (hz : ∀ s ∈ us, s.size ≤ 9223372036854775807) :
    Calls Tryd.prog 21 #[qv q] w fun e w' => e = .returned (.string (printQ q us)) ∧ Below w.heap.size w w' := by
  have RT := Lib.hid (fun W (hb : Below w.heap.size w W) => query_RightL q us W hla hlb (hu.below hb) hz)
  have PQ := Lib.hid (show printQ q us = if rightQ q us = true then textQ ⟨q.k, q.a, q.b, us⟩ else emp from rfl)
  have GD := Lib.hid (fun h => good_of (q := q) (us := us) h)
  have PA := Lib.hid (fun W => syn_PrintRoleQ q.a W (hla.mono (by decide)))
  have PB := Lib.hid (fun W => syn_PrintRoleQ q.b W (hlb.mono (by decide)))
  have WQ := Lib.hid (fun h1 h6 W => query_Words q h1 h6 W)
  have HU := Lib.hid hu
  generalize printQ q us = res at *
  obtain ⟨k, ⟨x1, x2⟩, ⟨x3, x4⟩, wv⟩ := q
  dsimp only at HU PQ GD PA PB WQ hu
  obtain ⟨wo, wc, rfl⟩ := hu.form
  clear hu hla hlb hz
  generalize rightQ ⟨k, ⟨x1, x2⟩, ⟨x3, x4⟩, .slice wo us.length wc⟩ us = r at *
  obtain ⟨W0, hW0⟩ : ∃ W, W = w.alloc (.cells #[.int .i64 k, .string x1, .string x2, .string x3, .string x4, .slice wo us.length wc] 31) := ⟨_, rfl⟩
  have HT := Lib.hid (show OneAt w #[.int .i64 k, .string x1, .string x2, .string x3, .string x4, .slice wo us.length wc] W0 by rw [hW0]; exact ⟨Blk.new w _ _, (Below.refl _ _).alloc (Nat.le_refl _) _⟩)
  cases r with
  | false =>
    have R := Lib.hid (show res = emp by rw [PQ.out]; rfl)
    have RT0 := Lib.hid (RT.out W0 HT.out.low)
    obtain ⟨ca, fa, za⟩ := HT.out.a
    subst hW0
    go_enter Tryd.func21, Tryd.ntmps21
    go_wp2_with fail
    refine RT0.out.mono ?_
    rintro e w1 ⟨rfl, hb1⟩
    have HB := Lib.hid (HT.out.low.trans (hb1.mono HT.out.low.size))
    clear hb1
    go_wp2
    go_ret
    exact ⟨ret_s R.out.symm, HB.out⟩
  | true =>
    have G := GD.out rfl
    have R := Lib.hid (show res = textQ ⟨k, ⟨x1, x2⟩, ⟨x3, x4⟩, us⟩ by rw [PQ.out]; rfl)
    have hk1 : 1 ≤ k := G.lo
    have hk6 : k ≤ 6 := G.hi
    have hul : us.length ≤ 12 := G.few
    have TS := Lib.hid (textQ_size _ G)
    have WQ := Lib.hid (fun W => WQ.out hk1 hk6 W)
    have HD := Lib.hid (fun W => query_head k W)
    have SE := Lib.hid (fun W => query_secondB k W)
    have RT0 := Lib.hid (RT.out W0 HT.out.low)
    have hwl : (wordsL k).length ≤ 2 := by unfold wordsL; (repeat' split) <;> simp
    have HX := Lib.hid (show textQ ⟨k, ⟨x1, x2⟩, ⟨x3, x4⟩, us⟩ = joinB (headW k :: roleT ⟨x1, x2⟩ :: (wordsL k ++ ((if secB k = true then [roleT ⟨x3, x4⟩] else []) ++ us))) ⟨#[32]⟩ from rfl)
    generalize textQ ⟨k, ⟨x1, x2⟩, ⟨x3, x4⟩, us⟩ = tq at *
    generalize headW k = hw at *
    generalize roleT ⟨x1, x2⟩ = ra at *
    generalize roleT ⟨x3, x4⟩ = rb at *
    unfold WordsR at WQ
    generalize wordsL k = wl at *
    generalize secB k = sb at *
    obtain ⟨si, hsi, hs0, hs1, hs2⟩ := info_parts str_info
    have HSI := Lib.hid hsi
    clear hsi G GD PQ
    obtain ⟨ca, fa, za⟩ := HT.out.a
    subst hW0
    go_enter Tryd.func21, Tryd.ntmps21
    go_wp2_with fail
    refine RT0.out.mono ?_
    rintro e w1 ⟨rfl, hb1⟩
    have HT := Lib.hid (HT.out.later hb1)
    clear hb1 RT0 ca fa za
    go_upto_region 3 with fail
    go_cut [3] (fun s3 wx => ∃ (V : World) (a5 : Option Addr) (c5 : Nat), V = wx ∧ s3 = .slice a5 (2 + wl.length) c5 ∧ Hid (OneAt w #[.int .i64 k, .string x1, .string x2, .string x3, .string x4, .slice wo us.length wc] V) ∧ Hid (V.ownsRow (w.heap.size + 1) 9 1 (.slice a5 (2 + wl.length) c5) (2 + wl.length) (strs (hw :: ra :: wl))))
    case first =>
      refine wp_region_held_drew (S := (fun W => ∀ o, W.cell? ⟨w.heap.size, o, none⟩ = (#[.int .i64 k, .string x1, .string x2, .string x3, .string x4, .slice wo us.length wc] : Array Value)[o]?)) (by kernel_rfl) HT.out.drew.a.1 (fun hHeld => ?_)
      have HT := Lib.hid HT.out.drew
      obtain ⟨wk, hwk⟩ : ∃ W, W = w1.drew := ⟨_, rfl⟩
      rw [← hwk] at HT hHeld ⊢
      clear hwk
      (refine hyes 0 ?_); (refine hyes 1 ?_); (refine hyes 3 ?_); (refine hyes 4 ?_); (refine hyes 7 ?_); (try simp only [Act.put, List.setIfInBounds_toArray, List.set])
      (refine held_call 2 rfl (by kernel_rfl) (fun K hK => ?_); go_simp)
      go_at_call 58; refine (HD.out _).mono ?_; rintro e wz2 ⟨rfl, rfl⟩
      (refine hK.out _ _ (HT.out.a.1) (fun hHeld => ?_); clear hK K; (try simp only [Act.put, List.setIfInBounds_toArray, List.set]))
      (refine held_call 5 rfl (by kernel_rfl) (fun K hK => ?_); go_simp)
      go_at_call 59; refine (PA.out _).mono ?_; rintro e wz5 ⟨rfl, hbq⟩
      have HT := Lib.hid (HT.out.later hbq)
      clear hbq
      (refine hK.out _ _ (HT.out.a.1) (fun hHeld => ?_); clear hK K; (try simp only [Act.put, List.setIfInBounds_toArray, List.set]))
      refine wpAnyH_ready (rs := [6, 8]) (by kernel_rfl) (by simp) (AllReadyH.cons rfl (fun K hK => ?_) (AllReadyH.cons rfl (fun K hK => ?_) AllReadyH.nil))
      · go_simp
        obtain ⟨wz6, hwn⟩ : ∃ V, V = wz5.alloc (.cells #[.string hw, .string ra] 9) := ⟨_, rfl⟩
        obtain ⟨bn, hbn⟩ : ∃ b, b = wz5.heap.size := ⟨_, rfl⟩
        rw [← hwn, ← hbn]
        have hbq : Below wz5.heap.size wz5 wz6 := by rw [hwn]; exact (Below.refl _ _).alloc (Nat.le_refl _) _
        have HO := Lib.hid (show wz6.ownsRow (w.heap.size + 1) 9 1 (.slice (some ⟨bn, 0, none⟩) 2 2) 2 (strs [hw, ra]) by rw [hwn, hbn]; exact own_two hw ra (w.heap.size + 1) HT.out.a.2.2)
        have HT := Lib.hid (HT.out.later hbq)
        clear hbq hwn hbn
        (refine hK.out _ _ (HT.out.a.1) (fun hHeld => ?_); clear hK K; (try simp only [Act.put, List.setIfInBounds_toArray, List.set]))
        (refine held_call 8 rfl (by kernel_rfl) (fun K hK => ?_); go_simp)
        go_at_call 23; refine (WQ.out _).mono ?_; rintro e wz8 ⟨b2, _, rfl, hcell2, hbq⟩
        have HWL := Lib.hid (show SlA wz8 1 (.slice (some ⟨b2, 0, none⟩) wl.length wl.length) wl.length (strs wl) from .inl ⟨by simp [strs], by simp only [maxLen]; omega, .inr ⟨b2, 0, wl.length, rfl, Nat.le_refl _, by simp only [maxLen]; omega, (Array.getElem?_eq_some_iff.1 hcell2).1, fun j u hu => by rw [Nat.zero_add, cell_of_row _ b2 j _ _ _ hcell2]; simpa using hu⟩⟩)
        have HO := Lib.hid (own_below HO.out hbq)
        have HT := Lib.hid (HT.out.later hbq)
        clear hbq hcell2 WQ
        (refine hK.out _ _ (HT.out.a.1) (fun hHeld => ?_); clear hK K; (try simp only [Act.put, List.setIfInBounds_toArray, List.set]))
        refine held_call 9 rfl (by kernel_rfl) (fun K hK => ?_)
        have hsz : w.heap.size + 1 ≤ wz8.heap.size := HT.out.a.2.2
        refine step_row rfl _ _ 22 rfl (w.heap.size + 1) 9 si _ 1 16 Tryd.underlying22 HSI.out hs0 hs1 hs2 (by decide) rfl (by decide) _ 2 _ rfl HO.out _ wl.length _ rfl HWL.out (strs_one wl) (by omega) hsz ?_
        intro a5 c5 wc9 hown5 hg5
        have HT2 : OneAt w #[.int .i64 k, .string x1, .string x2, .string x3, .string x4, .slice wo us.length wc] wc9 := ⟨HT.out.a.grown hg5 (fun e => by have := (HO.out.lt _ e.symm).1; omega), below_own HT.out.low HO.out hg5 HT.out.low.size (by omega)⟩
        have HO5 := Lib.hid (show wc9.ownsRow (w.heap.size + 1) 9 1 (.slice a5 (2 + wl.length) c5) (2 + wl.length) (strs (hw :: ra :: wl)) from hown5)
        have HT := Lib.hid HT2
        clear hown5 hg5 HO HWL hsz HT2
        (refine hK.out _ _ (HT.out.a.1) (fun hHeld => ?_); clear hK K; (try simp only [Act.put, List.setIfInBounds_toArray, List.set]))
        (refine hyes 10 ?_); (try simp only [Act.put, List.setIfInBounds_toArray, List.set])
        refine wpAnyH_done (by kernel_rfl) ?_ _
        clear hHeld
        obtain ⟨wd, hwd⟩ : ∃ W, W = wc9 := ⟨_, rfl⟩
        rw [← hwd] at HT HO5 ⊢
        clear hwd
        go_wp2_with fail
        go_meet
        exact ⟨_, a5, c5, rfl, rfl, HT, HO5⟩
      · go_simp
        go_at_call 23; refine (WQ.out _).mono ?_; rintro e wz8 ⟨b2, _, rfl, hcell2, hbq⟩
        have HWL := Lib.hid (show SlA wz8 1 (.slice (some ⟨b2, 0, none⟩) wl.length wl.length) wl.length (strs wl) from .inl ⟨by simp [strs], by simp only [maxLen]; omega, .inr ⟨b2, 0, wl.length, rfl, Nat.le_refl _, by simp only [maxLen]; omega, (Array.getElem?_eq_some_iff.1 hcell2).1, fun j u hu => by rw [Nat.zero_add, cell_of_row _ b2 j _ _ _ hcell2]; simpa using hu⟩⟩)
        have HT := Lib.hid (HT.out.later hbq)
        clear hbq hcell2 WQ
        (refine hK.out _ _ (HT.out.a.1) (fun hHeld => ?_); clear hK K; (try simp only [Act.put, List.setIfInBounds_toArray, List.set]))
        (refine held_call 6 rfl (by kernel_rfl) (fun K hK => ?_); go_simp)
        obtain ⟨wz6, hwn⟩ : ∃ V, V = wz8.alloc (.cells #[.string hw, .string ra] 9) := ⟨_, rfl⟩
        obtain ⟨bn, hbn⟩ : ∃ b, b = wz8.heap.size := ⟨_, rfl⟩
        rw [← hwn, ← hbn]
        have hbq : Below wz8.heap.size wz8 wz6 := by rw [hwn]; exact (Below.refl _ _).alloc (Nat.le_refl _) _
        have HO := Lib.hid (show wz6.ownsRow (w.heap.size + 1) 9 1 (.slice (some ⟨bn, 0, none⟩) 2 2) 2 (strs [hw, ra]) by rw [hwn, hbn]; exact own_two hw ra (w.heap.size + 1) HT.out.a.2.2)
        have HWL := Lib.hid (HWL.out.below hbq)
        have HT := Lib.hid (HT.out.later hbq)
        clear hbq hwn hbn
        (refine hK.out _ _ (HT.out.a.1) (fun hHeld => ?_); clear hK K; (try simp only [Act.put, List.setIfInBounds_toArray, List.set]))
        refine held_call 9 rfl (by kernel_rfl) (fun K hK => ?_)
        have hsz : w.heap.size + 1 ≤ wz6.heap.size := HT.out.a.2.2
        refine step_row rfl _ _ 22 rfl (w.heap.size + 1) 9 si _ 1 16 Tryd.underlying22 HSI.out hs0 hs1 hs2 (by decide) rfl (by decide) _ 2 _ rfl HO.out _ wl.length _ rfl HWL.out (strs_one wl) (by omega) hsz ?_
        intro a5 c5 wc9 hown5 hg5
        have HT2 : OneAt w #[.int .i64 k, .string x1, .string x2, .string x3, .string x4, .slice wo us.length wc] wc9 := ⟨HT.out.a.grown hg5 (fun e => by have := (HO.out.lt _ e.symm).1; omega), below_own HT.out.low HO.out hg5 HT.out.low.size (by omega)⟩
        have HO5 := Lib.hid (show wc9.ownsRow (w.heap.size + 1) 9 1 (.slice a5 (2 + wl.length) c5) (2 + wl.length) (strs (hw :: ra :: wl)) from hown5)
        have HT := Lib.hid HT2
        clear hown5 hg5 HO HWL hsz HT2
        (refine hK.out _ _ (HT.out.a.1) (fun hHeld => ?_); clear hK K; (try simp only [Act.put, List.setIfInBounds_toArray, List.set]))
        (refine hyes 10 ?_); (try simp only [Act.put, List.setIfInBounds_toArray, List.set])
        refine wpAnyH_done (by kernel_rfl) ?_ _
        clear hHeld
        obtain ⟨wd, hwd⟩ : ∃ W, W = wc9 := ⟨_, rfl⟩
        rw [← hwd] at HT HO5 ⊢
        clear hwd
        go_wp2_with fail
        go_meet
        exact ⟨_, a5, c5, rfl, rfl, HT, HO5⟩
    case rest =>
    clear HT
    obtain ⟨V, a5, c5, rfl, rfl, HT, HO⟩ := hcut
    obtain ⟨ca, fa, za⟩ := HT.out.a
    go_wp2_with fail
    refine (SE.out _).mono ?_
    rintro e w6 ⟨rfl, hw6⟩
    subst hw6
    have hw2 : (hw :: ra :: wl).length = 2 + wl.length := by simp only [List.length_cons]; omega
    go_upto_if 19 with fail
    clear ca fa za
    go_cut [3] (fun s3 wx => ∃ (V : World) (a6 : Option Addr) (c6 : Nat) (zs : List ByteArray), V = wx ∧ s3 = .slice a6 zs.length c6 ∧ Hid (zs = hw :: ra :: wl ++ (if sb = true then [rb] else [])) ∧ Hid (OneAt w #[.int .i64 k, .string x1, .string x2, .string x3, .string x4, .slice wo us.length wc] V) ∧ Hid (V.ownsRow (w.heap.size + 1) 9 1 (.slice a6 zs.length c6) zs.length (strs zs)))
    case first =>
      obtain ⟨ca, fa, za⟩ := HT.out.a
      cases sb with
      | false =>
        go_wp2
        go_meet
        exact ⟨_, a5, c5, hw :: ra :: wl, rfl, by rw [hw2], Lib.hid (by simp), HT, by rw [hw2]; exact HO⟩
      | true =>
        go_wp2_with fail
        refine (PB.out _).mono ?_
        rintro e w7 ⟨rfl, hb7⟩
        have HT7 := Lib.hid (HT.out.later hb7)
        have HO7 := Lib.hid (own_below HO.out hb7)
        clear hb7 ca fa za
        have hsz : w.heap.size + 1 ≤ w7.heap.size := HT7.out.a.2.2
        go_wp2_with (at_builtin; refine halt_ ?_)
        unfold Halt_
        refine app_own Tryd.underlying22 str_info rfl (by decide) (by decide) rfl _ _ rfl (w.heap.size + 1) rfl (HO7.out.alloc _) [.string rb] rfl (heap_new1 _ _) rfl (str1 _) (by omega) (by simp; omega) ?_
        intro a8 c8 w8 hown8 hg8
        have HT8 := Lib.hid (show OneAt w #[.int .i64 k, .string x1, .string x2, .string x3, .string x4, .slice wo us.length wc] w8 from ⟨(HT7.out.a.alloc _).grown hg8 (fun e => by have := (HO7.out.lt _ e.symm).1; omega), below_own (HT7.out.low.alloc HT7.out.low.size _) (HO7.out.alloc _) hg8 (by simp; omega) (by omega)⟩)
        have hz8 : (hw :: ra :: wl ++ [rb]).length = 2 + wl.length + 1 := by simp only [List.length_append, List.length_cons, List.length_nil]; omega
        have HO8 := Lib.hid (show w8.ownsRow (w.heap.size + 1) 9 1 (.slice a8 (hw :: ra :: wl ++ [rb]).length c8) (hw :: ra :: wl ++ [rb]).length (strs (hw :: ra :: wl ++ [rb])) by rw [hz8, show strs (hw :: ra :: wl ++ [rb]) = strs (hw :: ra :: wl) ++ [.string rb] by simp [strs]]; exact hown8)
        clear hown8 hg8
        go_wp2
        go_meet
        exact ⟨_, a8, c8, hw :: ra :: wl ++ [rb], rfl, by rw [hz8], Lib.hid (by simp), HT8, HO8⟩
    case rest =>
    clear HT HO
    obtain ⟨V, a6, c6, zs, rfl, rfl, HZ, HT, HO⟩ := hcut
    have hzl : zs.length ≤ 5 := by
      rw [HZ.out]
      cases sb <;> simp <;> omega
    have hsz : w.heap.size + 1 ≤ V.heap.size := HT.out.a.2.2
    obtain ⟨ca, fa, za⟩ := HT.out.a
    go_wp2_with (at_builtin; refine halt_ ?_)
    unfold Halt_
    refine app_row Tryd.underlying22 str_info rfl (by decide) (by decide) rfl _ _ rfl (w.heap.size + 1) rfl HO.out rfl (HU.out.below HT.out.low) (strs_one _) (by omega) hsz ?_
    intro a9 c9 w9 hown9 hg9
    have HB9 := Lib.hid (below_own HT.out.low HO.out hg9 HT.out.low.size (by omega))
    have HZ9 := Lib.hid (show zs ++ us = hw :: ra :: (wl ++ ((if sb = true then [rb] else []) ++ us)) by rw [HZ.out]; simp)
    have hl9 : (zs ++ us).length = zs.length + us.length := List.length_append
    have HJ := Lib.hid (str_Join (.slice a9 (zs ++ us).length c9) (zs ++ us) ⟨#[32]⟩ w9 (Sl.of_own (by rw [hl9, show strs (zs ++ us) = strs zs ++ strs us by simp [strs]]; exact hown9)).a (by omega) (by rw [HZ9.out, ← HX.out]; exact Nat.le_trans TS.out (by decide)))
    rw [hl9, HZ9.out, ← HX.out, ← R.out] at HJ
    clear hown9 hg9 ca fa za
    go_wp2_with fail
    refine HJ.out.mono ?_
    rintro e w10 ⟨rfl, hb10⟩
    have HB10 := Lib.hid (HB9.out.trans (hb10.mono HB9.out.size))
    clear hb10
    go_wp2
    go_ret
    exact ⟨rfl, HB10.out⟩
end Go.Proofs.YtedkkegjiikcmaaDoor
namespace Go.Proofs.YtedkkegjiikcmaaDoor
open Go.RowKit Go.Shelf

def livesIn : ByteArray := ⟨#[97, 108, 119, 97, 121, 115, 32, 65, 46, 114, 32, 119, 105, 116, 104, 105, 110, 32, 67, 32, 66]⟩
def livesOut : ByteArray := ⟨#[97, 108, 119, 97, 121, 115, 32, 65, 46, 114, 32, 119, 105, 116, 104, 105, 110, 32, 66, 32, 67]⟩
def livesQd : Qd := ⟨3, ⟨⟨#[65]⟩, ⟨#[114]⟩⟩, noR, [⟨#[66]⟩, ⟨#[67]⟩]⟩
theorem lives_parseQ : parseQ livesIn = (livesQd, 0, 0) := by
  kernel_rfl
set_option maxRecDepth 100000 in
set_option maxHeartbeats 2000000 in
theorem law4_livesQ (w : World) (hg : Gl w) : Calls Tryd.prog 18 #[] w fun e w' => e = .returned (.bool true) ∧ Below w.heap.size w w' := by
  have P1 := Lib.hid (query_Parse livesIn w (by decide) hg)
  rw [lives_parseQ] at P1
  have l1 : (⟨⟨#[65]⟩, ⟨#[114]⟩⟩ : Rl).le 4294967 := ⟨by decide, by decide⟩
  have l2 : noR.le 4294967 := ⟨by decide, by decide⟩
  have P2 := Lib.hid (fun (wv : Value) W (h : SlA W 1 wv 2 (strs [⟨#[66]⟩, ⟨#[67]⟩])) => query_Print ⟨3, ⟨⟨#[65]⟩, ⟨#[114]⟩⟩, noR, wv⟩ [⟨#[66]⟩, ⟨#[67]⟩] W l1 l2 h (by decide))
  have R2 := Lib.hid (show ∀ wv, printQ ⟨3, ⟨⟨#[65]⟩, ⟨#[114]⟩⟩, noR, wv⟩ [⟨#[66]⟩, ⟨#[67]⟩] = livesOut from fun wv => by kernel_rfl)
  clear hg
  go_enter Tryd.func18, Tryd.ntmps18
  go_wp2_with fail
  refine P1.out.mono ?_
  rintro e w1 ⟨v, rfl, hv, hb1⟩
  have HV := Lib.hid (show SlA w1 1 v 2 (strs [⟨#[66]⟩, ⟨#[67]⟩]) from hv)
  obtain ⟨vo, vc, rfl⟩ := HV.out.form
  clear hv P1
  obtain ⟨W1, hW1⟩ : ∃ W, W = w1.alloc (.cells #[.int .i64 3, .string ⟨#[65]⟩, .string ⟨#[114]⟩, .string ⟨#[]⟩, .string ⟨#[]⟩, .slice vo 2 vc] 31) := ⟨_, rfl⟩
  have HT := Lib.hid (show OneAt w1 #[.int .i64 3, .string ⟨#[65]⟩, .string ⟨#[114]⟩, .string ⟨#[]⟩, .string ⟨#[]⟩, .slice vo 2 vc] W1 by rw [hW1]; exact ⟨Blk.new w1 _ _, (Below.refl _ _).alloc (Nat.le_refl _) _⟩)
  have HB := Lib.hid hb1
  have S1 := Lib.hid (fun W (h : Below w1.heap.size w1 W) => ref1_SameQB (.slice vo 2 vc) (.slice (some ⟨W.heap.size, 0, none⟩) 2 2) [⟨#[66]⟩, ⟨#[67]⟩] [⟨#[66]⟩, ⟨#[67]⟩] (W.alloc (.cells #[.string ⟨#[66]⟩, .string ⟨#[67]⟩] 9)) ((HV.out.below h).below ((Below.refl _ _).alloc (Nat.le_refl _) _)) (Sl.new1 W (strs [⟨#[66]⟩, ⟨#[67]⟩]) 9 W.heap.size 2 rfl rfl (by decide)).a)
  clear hb1
  have P2 := Lib.hid (fun W (h : Below w1.heap.size w1 W) => P2.out (.slice vo 2 vc) W (HV.out.below h))
  rw [R2.out] at P2
  obtain ⟨ca, fa, za⟩ := HT.out.a
  have HT1 := HT
  have S0 := Lib.hid (S1.out _ HT1.out.low)
  clear S1
  subst hW1
  rw [show ((w1.alloc (.cells #[.int .i64 3, .string ⟨#[65]⟩, .string ⟨#[114]⟩, .string ⟨#[]⟩, .string ⟨#[]⟩, .slice vo 2 vc] 31)).heap.size) = w1.heap.size + 1 by simp] at S0
  go_wp2_with fail
  refine S0.out.mono ?_
  rintro e w2 ⟨rfl, hb2⟩
  have HT2 := Lib.hid ((HT1.out.alloc (.cells #[.string ⟨#[66]⟩, .string ⟨#[67]⟩] 9)).later hb2)
  have P3 := Lib.hid (P2.out w2 HT2.out.low)
  clear hb2 P2 S0 ca fa za
  obtain ⟨ca, fa, za⟩ := HT2.out.a
  go_wp2_with fail
  refine P3.out.mono ?_
  rintro e w3 ⟨rfl, hb3⟩
  have HT3 := Lib.hid (HT2.out.later hb3)
  clear hb3 P3
  have dO : (livesOut.toList == [97, 108, 119, 97, 121, 115, 32, 65, 46, 114, 32, 119, 105, 116, 104, 105, 110, 32, 66, 32, 67]) = true := by rw [show livesOut.toList = [97, 108, 119, 97, 121, 115, 32, 65, 46, 114, 32, 119, 105, 116, 104, 105, 110, 32, 66, 32, 67] from by rw [ByteArray.toList_eq]; rfl]; rfl
  go_wp2
  go_ret
  exact ⟨rfl, HB.out.trans (HT3.out.low.mono HB.out.size)⟩
end Go.Proofs.YtedkkegjiikcmaaDoor
namespace Go.Proofs.YtedkkegjiikcmaaDoor
open Go.RowKit Go.Shelf

def LightT (l : List ByteArray) (e : Ending) : Prop := ∃ b, e = .returned (.bool b) ∧ (b = true → l.length ≤ 40 ∧ ∀ x ∈ l, x.size ≤ 40)
set_option maxHeartbeats 1000000 in
theorem law1_LightT (va : Value) (l : List ByteArray) (w : World) (ha : SlA w 1 va l.length (strs l)) (hl : ∀ s ∈ l, s.size ≤ 9223372036854775807) :
    Calls Tryd.prog 57 #[va] w fun e w' => LightT l e ∧ w' = w := by
  have HA := Lib.hid ha
  have HL := Lib.hid hl
  have hmax := ha.max
  obtain ⟨ao, cap, hva⟩ := ha.form
  subst hva
  clear ha hl
  go_enter Tryd.func57, Tryd.ntmps57
  by_cases h40 : 40 < l.length
  · have d : decide ((40 : Int) < (l.length : Int)) = true := by (rw [decide_eq_true_iff]; omega)
    go_wp2
    go_ret
    exact ⟨⟨false, rfl, fun h => by cases h⟩, rfl⟩
  have d : decide ((40 : Int) < (l.length : Int)) = false := by (rw [decide_eq_false_iff_not]; omega)
  go_wp2
  go_loop [10] (fun i => ∃ k : Nat, k ≤ l.length ∧ i = .int .i64 k ∧ Hid (∀ j (hj : j < l.length), j < k → l[j].size ≤ 40)) (fun i => l.length - (intOf i).toNat)
  case atStart => exact ⟨0, by omega, rfl, Lib.hid (fun j hj h => absurd h (by omega))⟩
  case round =>
    obtain ⟨k, hk, rfl, HS⟩ := hrel
    by_cases hlt : k < l.length
    · obtain ⟨b1, o1, c1, he1, hc1, hm1, hb1, hx1⟩ := HA.out.pos (by omega)
      simp only [Value.slice.injEq, true_and] at he1
      obtain ⟨rfl, rfl⟩ := he1
      have p0 := hx1 k _ (strs_get hlt)
      have hsz := HL.out l[k] (List.getElem_mem hlt)
      clear hx1
      by_cases h : 40 < l[k].size
      · have d1 : decide ((40 : Int) < (l[k].size : Int)) = true := by (rw [decide_eq_true_iff]; omega)
        clear h
        go_wp2
        go_ret
        exact ⟨⟨false, rfl, fun h => by cases h⟩, rfl⟩
      · have d1 : decide ((40 : Int) < (l[k].size : Int)) = false := by (rw [decide_eq_false_iff_not]; omega)
        have HS2 := Lib.hid (show ∀ j (hj : j < l.length), j < k + 1 → l[j].size ≤ 40 from fun j hj hjk => by
          by_cases e : j = k
          · subst e; omega
          · exact HS.out j hj (by omega))
        clear h HS
        go_wp2
        exact ⟨⟨k + 1, by omega, by go_num, HS2⟩, by simp [intOf]; omega⟩
    · go_wp2
      go_ret
      exact ⟨⟨true, rfl, fun _ => ⟨by omega, fun x hx => by obtain ⟨j, hj, rfl⟩ := List.getElem_of_mem hx; exact HS.out j hj (by omega)⟩⟩, rfl⟩
end Go.Proofs.YtedkkegjiikcmaaDoor
namespace Go.Proofs.YtedkkegjiikcmaaDoor
open Go.RowKit Go.Shelf

def Qv.okS (q : Qv) (w : World) : Prop := q.okN 40 w ∧ q.a.le 40 ∧ q.b.le 40
def LightQS (q : Qv) (w : World) (e : Ending) : Prop := ∃ b, e = .returned (.bool b) ∧ (b = true → q.okS w)
theorem okS_back {q : Qv} {w W : World} (h : q.ok w) (hb : Below w.heap.size w W) (h' : q.okS W) : q.okS w := ⟨okN_back h hb h'.1, h'.2⟩
set_option maxRecDepth 100000 in
set_option maxHeartbeats 1000000 in
theorem law4_LightS (q : Qv) (w : World) (hq : q.ok w) : Calls Tryd.prog 20 #[qv q] w fun e w' => LightQS q w e ∧ Below w.heap.size w w' := by
  obtain ⟨ha, hb, ss, hs, hl⟩ := hq
  obtain ⟨k, ⟨x1, x2⟩, ⟨x3, x4⟩, wv⟩ := q
  have HS := Lib.hid (fun W h => law1_Light wv ss W h hl)
  have HQ := Lib.hid (fun (h : ss.length ≤ 40) (h4 : [x1, x2, x3, x4].length ≤ 40 ∧ ∀ x ∈ [x1, x2, x3, x4], x.size ≤ 40) => show (⟨k, ⟨x1, x2⟩, ⟨x3, x4⟩, wv⟩ : Qv).okS w from ⟨⟨ha, hb, ss, hs, h, hl⟩, ⟨h4.2 _ (by simp), h4.2 _ (by simp)⟩, ⟨h4.2 _ (by simp), h4.2 _ (by simp)⟩⟩)
  have HW := Lib.hid hs
  have H4 := Lib.hid (fun W h => law1_LightT (.slice (some ⟨w.heap.size + 1, 0, none⟩) 4 4) [x1, x2, x3, x4] W h (by
    intro s hs; simp at hs; rcases hs with rfl | rfl | rfl | rfl
    · exact ha.1
    · exact ha.2
    · exact hb.1
    · exact hb.2))
  obtain ⟨wo, wc, rfl⟩ := hs.form
  clear ha hb hl hs
  have HB := Lib.hid ((Below.refl _ w).alloc (Nat.le_refl _) (.cells #[.int .i64 k, .string x1, .string x2, .string x3, .string x4, .slice wo ss.length wc] 31))
  have HB2 := Lib.hid (HB.out.alloc HB.out.size (.cells #[.string x1, .string x2, .string x3, .string x4] 9))
  have S4 := Lib.hid (Sl.new (w.alloc (.cells #[.int .i64 k, .string x1, .string x2, .string x3, .string x4, .slice wo ss.length wc] 31)) [.string x1, .string x2, .string x3, .string x4] 9 1 4 (w.heap.size + 1) (by simp) rfl (by simp [maxLen]))
  go_enter Tryd.func20, Tryd.ntmps20
  go_wp2_with fail
  refine (HS.out _ (HW.out.below HB.out)).mono ?_
  rintro e w1 ⟨⟨b1, rfl, hb1⟩, rfl⟩
  have HB1 := Lib.hid hb1
  clear hb1
  cases b1 with
  | false =>
    go_wp2
    go_ret
    exact ⟨⟨false, rfl, fun h => by cases h⟩, HB.out⟩
  | true =>
    go_wp2_with fail
    refine (H4.out _ S4.out.a).mono ?_
    rintro e w1 ⟨⟨b2, rfl, hb2⟩, rfl⟩
    have HB4 := Lib.hid hb2
    clear hb2
    go_wp2
    go_ret
    exact ⟨⟨b2, rfl, fun h => HQ.out (HB1.out (by first | rfl | trivial)) (HB4.out h)⟩, HB2.out⟩
end Go.Proofs.YtedkkegjiikcmaaDoor
namespace Go.Proofs.YtedkkegjiikcmaaDoor
open Go.RowKit Go.Shelf

theorem okS_us {k : Int} {a b : Rl} {wo : Option Addr} {n wp : Nat} {w : World} (h : Qv.okS ⟨k, a, b, .slice wo n wp⟩ w) :
    ∃ us : List ByteArray, n = us.length ∧ a.le 4294967 ∧ b.le 4294967 ∧ SlA w 1 (.slice wo us.length wp) us.length (strs us) ∧ us.length ≤ 40 ∧ ∀ s ∈ us, s.size ≤ 9223372036854775807 := by
  obtain ⟨⟨_, _, us, hu, hun, huz⟩, hsa, hsb⟩ := h
  obtain ⟨_, _, he⟩ := hu.form
  dsimp only at he hu hsa hsb
  simp only [Value.slice.injEq] at he
  obtain ⟨-, hn, -⟩ := he
  subst hn
  exact ⟨us, rfl, hsa.mono (by decide), hsb.mono (by decide), hu, hun, huz⟩
theorem good_le {q : Qd} (h : GoodQ q) : q.a.le 4294967 ∧ q.b.le 4294967 ∧ ∀ s ∈ q.us, s.size ≤ 9223372036854775807 := by
  have hr : ∀ r : Rl, isRole r = true → r.le 4294967 := fun r hr => by
    unfold isRole at hr
    rw [Bool.and_eq_true] at hr
    exact ⟨Nat.le_trans (isP_size' hr.1) (by decide), Nat.le_trans (isP_size' hr.2) (by decide)⟩
  refine ⟨hr _ h.a, ?_, fun s hs => Nat.le_trans (isP_size' (h.p s hs)) (by decide)⟩
  by_cases h5 : 5 ≤ q.k
  · exact hr _ (h.two h5)
  · rw [h.one h5]; exact ⟨by decide, by decide⟩
theorem text_same {a b : Qd} (ha : GoodQ a) (hb : GoodQ b) : ((textQ a).toList == (textQ b).toList) = sameQ a b := by
  rw [beq_str]
  cases h : sameQ a b with
  | true => rw [sameQ_iff.1 h]; exact decide_eq_true rfl
  | false => exact decide_eq_false (fun e => by rw [sameQ_iff.2 (textQ_inj ha hb e)] at h; exact absurd h (by decide))
set_option maxRecDepth 100000 in
set_option maxHeartbeats 16000000 in
theorem law4_QueryBack (q p : Qv) (s : ByteArray) (w : World) (hg : Gl w) (hq : q.ok w) (hp : p.ok w) (hs : s.size ≤ 9223372036854775807) :
    Calls Tryd.prog 5 #[qv q, qv p, .string s] w fun e w' => e = .returned (.bool true) ∧ Below w.heap.size w w' := by
  have HL := Lib.hid (fun W (h : Gl W) => law4_livesQ W h)
  have HG := Lib.hid hg
  have LA := Lib.hid (fun W (h : Below w.heap.size w W) => law4_LightS q W (hq.below h))
  have LB := Lib.hid (fun W (h : Below w.heap.size w W) => law4_LightS p W (hp.below h))
  have KA := Lib.hid (fun (W : World) (h : Below w.heap.size w W) (h2 : q.okS W) => okS_back hq h h2)
  have KB := Lib.hid (fun (W : World) (h : Below w.heap.size w W) (h2 : p.okS W) => okS_back hp h h2)
  have hr : (s.extract 0 (min (s.size : Int) 300).toNat).size ≤ 300 := by simp; omega
  obtain ⟨ss, hss⟩ : ∃ ss : List ByteArray, SlA w 1 q.w ss.length (strs ss) := by obtain ⟨_, _, ss, h, _⟩ := hq; exact ⟨ss, h⟩
  obtain ⟨st, hst⟩ : ∃ ss : List ByteArray, SlA w 1 p.w ss.length (strs ss) := by obtain ⟨_, _, ss, h, _⟩ := hp; exact ⟨ss, h⟩
  obtain ⟨wo, wp, hwv⟩ := hss.form
  obtain ⟨uo, up, huv⟩ := hst.form
  clear hq hp hg hss hst
  obtain ⟨k, ⟨x1, x2⟩, ⟨x3, x4⟩, wv⟩ := q
  obtain ⟨m, ⟨y1, y2⟩, ⟨y3, y4⟩, uv⟩ := p
  dsimp only at hwv huv
  subst hwv
  subst huv
  generalize ss.length = n at *
  generalize st.length = n2 at *
  have HT := Lib.hid (TwoAt.new w #[.int .i64 k, .string x1, .string x2, .string x3, .string x4, .slice wo n wp] #[.int .i64 m, .string y1, .string y2, .string y3, .string y4, .slice uo n2 up] 31 31)
  go_enter Tryd.func5, Tryd.ntmps5
  go_wp2_with fail
  generalize s.extract 0 (min (s.size : Int) 300).toNat = r at hr ⊢
  have P1 := Lib.hid (query_Parse r _ (by omega) (HG.out.below HT.out.low))
  have PG := Lib.hid (parse_goodQ r)
  generalize parseQ r = res at P1 PG
  refine P1.out.mono ?_
  rintro e w1 ⟨v1, rfl, hv1, hb1⟩
  have HT := Lib.hid (HT.out.later hb1)
  have HV1 := Lib.hid hv1
  obtain ⟨⟨k0, ⟨z1, z2⟩, ⟨z3, z4⟩, us0⟩, i0, y0⟩ := res
  dsimp only at HV1 PG
  obtain ⟨zo, zp, rfl⟩ := HV1.out.form
  clear hv1 hb1 P1
  go_upto_region 3 with fail
  have HT1 := Lib.hid (HT.out.alloc (.cells #[.int .i64 k0, .string z1, .string z2, .string z3, .string z4, .slice zo us0.length zp] 31))
  have HV2 := Lib.hid (HV1.out.below ((Below.refl _ _).alloc (Nat.le_refl _) (.cells #[.int .i64 k0, .string z1, .string z2, .string z3, .string z4, .slice zo us0.length zp] 31)))
  go_cut [30] (fun s30 wx => ∃ V : World, V = wx ∧ s30 = .bool false ∧ Hid (TwoAt w #[.int .i64 k, .string x1, .string x2, .string x3, .string x4, .slice wo n wp] #[.int .i64 m, .string y1, .string y2, .string y3, .string y4, .slice uo n2 up] V))
  case first =>
    by_cases hy : y0 = 0
    · have d0 : (y0 == 0) = true := by simp [hy]
      have G := (PG.out hy).1
      have hle := good_le G
      have R1 := Lib.hid (query_RightL ⟨k0, ⟨z1, z2⟩, ⟨z3, z4⟩, .slice zo us0.length zp⟩ us0 _ hle.1 hle.2.1 HV2.out hle.2.2)
      rw [right_iff.2 G] at R1
      clear hy G hle PG
      go_wp2_with fail
      refine R1.out.mono ?_
      rintro e w2 ⟨rfl, hb2⟩
      have HT2 := Lib.hid (HT1.out.later hb2)
      clear hb2
      go_wp2
      go_meet
      exact ⟨_, rfl, rfl, HT2⟩
    · have d0 : (y0 == 0) = false := by simpa using hy
      clear hy PG
      go_wp2
      go_meet
      exact ⟨_, rfl, rfl, HT1⟩
  case rest =>
  clear HT HT1 HV1 HV2 PG
  obtain ⟨V, rfl, rfl, HT⟩ := hcut
  obtain ⟨ca, fa, za⟩ := HT.out.a
  obtain ⟨cb, fb, zb⟩ := HT.out.b
  go_wp2_with fail
  refine (LA.out _ HT.out.low).mono ?_
  rintro e w2 ⟨⟨ba, rfl, hla⟩, hb2⟩
  have HOA := Lib.hid (KA.out _ HT.out.low)
  have HT := Lib.hid (HT.out.later hb2)
  clear hb2 ca fa za cb fb zb LA KA
  cases ba with
  | false =>
    go_wp2_with fail
    refine (HL.out _ (HG.out.below HT.out.low)).mono ?_
    rintro e w6 ⟨rfl, hb6⟩
    have T6 := Lib.hid (HT.out.later hb6)
    clear hb6
    go_wp2
    go_ret
    exact ⟨rfl, T6.out.low⟩
  | true =>
  have HOA := HOA.out (hla (by first | rfl | trivial))
  clear hla
  obtain ⟨us, rfl, hxa, hxb, hu, hun, huz⟩ := okS_us HOA
  obtain ⟨ca, fa, za⟩ := HT.out.a
  obtain ⟨cb, fb, zb⟩ := HT.out.b
  go_wp2_with fail
  refine (LB.out _ HT.out.low).mono ?_
  rintro e w3 ⟨⟨bb, rfl, hlb⟩, hb3⟩
  have HOB := Lib.hid (KB.out _ HT.out.low)
  have HT := Lib.hid (HT.out.later hb3)
  clear hb3 ca fa za cb fb zb LB KB HOA
  cases bb with
  | false =>
    go_wp2_with fail
    refine (HL.out _ (HG.out.below HT.out.low)).mono ?_
    rintro e w6 ⟨rfl, hb6⟩
    have T6 := Lib.hid (HT.out.later hb6)
    clear hb6
    go_wp2
    go_ret
    exact ⟨rfl, T6.out.low⟩
  | true =>
  have HOB := HOB.out (hlb (by first | rfl | trivial))
  clear hlb
  obtain ⟨ts, rfl, hya, hyb, ht, htn, htz⟩ := okS_us HOB
  clear HOB
  have HU := Lib.hid hu
  have HW := Lib.hid ht
  have RA := Lib.hid (fun W (hb : Below w.heap.size w W) => query_RightL ⟨k, ⟨x1, x2⟩, ⟨x3, x4⟩, .slice wo us.length wp⟩ us W hxa hxb (hu.below hb) huz)
  have RB := Lib.hid (fun W (hb : Below w.heap.size w W) => query_RightL ⟨m, ⟨y1, y2⟩, ⟨y3, y4⟩, .slice uo ts.length up⟩ ts W hya hyb (ht.below hb) htz)
  have PA := Lib.hid (fun W (hb : Below w.heap.size w W) => query_Print ⟨k, ⟨x1, x2⟩, ⟨x3, x4⟩, .slice wo us.length wp⟩ us W hxa hxb (hu.below hb) huz)
  have PB := Lib.hid (fun W (hb : Below w.heap.size w W) => query_Print ⟨m, ⟨y1, y2⟩, ⟨y3, y4⟩, .slice uo ts.length up⟩ ts W hya hyb (ht.below hb) htz)
  have GA := Lib.hid (fun (h : rightQ ⟨k, ⟨x1, x2⟩, ⟨x3, x4⟩, .slice wo us.length wp⟩ us = true) => right_iff.1 h)
  have GB := Lib.hid (fun (h : rightQ ⟨m, ⟨y1, y2⟩, ⟨y3, y4⟩, .slice uo ts.length up⟩ ts = true) => right_iff.1 h)
  have EA := Lib.hid (fun (h : rightQ ⟨k, ⟨x1, x2⟩, ⟨x3, x4⟩, .slice wo us.length wp⟩ us = true) => show printQ ⟨k, ⟨x1, x2⟩, ⟨x3, x4⟩, .slice wo us.length wp⟩ us = textQ ⟨k, ⟨x1, x2⟩, ⟨x3, x4⟩, us⟩ from if_pos h)
  have EB := Lib.hid (fun (h : rightQ ⟨m, ⟨y1, y2⟩, ⟨y3, y4⟩, .slice uo ts.length up⟩ ts = true) => show printQ ⟨m, ⟨y1, y2⟩, ⟨y3, y4⟩, .slice uo ts.length up⟩ ts = textQ ⟨m, ⟨y1, y2⟩, ⟨y3, y4⟩, ts⟩ from if_pos h)
  clear hu ht hxa hxb hya hyb huz htz
  dsimp only at GA GB
  generalize rightQ ⟨k, ⟨x1, x2⟩, ⟨x3, x4⟩, .slice wo us.length wp⟩ us = ra at *
  generalize rightQ ⟨m, ⟨y1, y2⟩, ⟨y3, y4⟩, .slice uo ts.length up⟩ ts = rb at *
  obtain ⟨ca, fa, za⟩ := HT.out.a
  obtain ⟨cb, fb, zb⟩ := HT.out.b
  go_wp2_with fail
  refine (RA.out _ HT.out.low).mono ?_
  rintro e w4 ⟨rfl, hb4⟩
  have HT := Lib.hid (HT.out.later hb4)
  clear hb4 ca fa za cb fb zb RA
  cases ra with
  | false =>
    go_wp2_with fail
    refine (HL.out _ (HG.out.below HT.out.low)).mono ?_
    rintro e w6 ⟨rfl, hb6⟩
    have T6 := Lib.hid (HT.out.later hb6)
    clear hb6
    go_wp2
    go_ret
    exact ⟨rfl, T6.out.low⟩
  | true =>
  obtain ⟨ca, fa, za⟩ := HT.out.a
  obtain ⟨cb, fb, zb⟩ := HT.out.b
  go_wp2_with fail
  refine (RB.out _ HT.out.low).mono ?_
  rintro e w5 ⟨rfl, hb5⟩
  have HT := Lib.hid (HT.out.later hb5)
  clear hb5 ca fa za cb fb zb RB
  cases rb with
  | false =>
    go_wp2_with fail
    refine (HL.out _ (HG.out.below HT.out.low)).mono ?_
    rintro e w6 ⟨rfl, hb6⟩
    have T6 := Lib.hid (HT.out.later hb6)
    clear hb6
    go_wp2
    go_ret
    exact ⟨rfl, T6.out.low⟩
  | true =>
  have ga := GA.out (by first | rfl | trivial)
  have gb := GB.out (by first | rfl | trivial)
  have hts := textQ_size _ ga
  have PT := Lib.hid (parse_textQ _ ga)
  have dt := text_same ga gb
  have SX := Lib.hid (fun va vb W h1 h2 => query_SameQ ⟨k, ⟨x1, x2⟩, ⟨x3, x4⟩, us⟩ ⟨k, ⟨x1, x2⟩, ⟨x3, x4⟩, us⟩ va vb W h1 h2)
  rw [show sameQ (⟨k, ⟨x1, x2⟩, ⟨x3, x4⟩, us⟩ : Qd) ⟨k, ⟨x1, x2⟩, ⟨x3, x4⟩, us⟩ = true from sameQ_iff.2 rfl] at SX
  have SQ := Lib.hid (fun va vb W h1 h2 => query_SameQ ⟨k, ⟨x1, x2⟩, ⟨x3, x4⟩, us⟩ ⟨m, ⟨y1, y2⟩, ⟨y3, y4⟩, ts⟩ va vb W h1 h2)
  have SR := Lib.hid (fun va vb W h1 h2 => ref4_SameQ ⟨k, ⟨x1, x2⟩, ⟨x3, x4⟩, us⟩ ⟨m, ⟨y1, y2⟩, ⟨y3, y4⟩, ts⟩ va vb W h1 h2)
  rw [EA.out (by first | rfl | trivial)] at PA
  rw [EB.out (by first | rfl | trivial)] at PB
  clear EA EB GA GB ga gb
  have PP := Lib.hid (fun W h => query_Parse (textQ ⟨k, ⟨x1, x2⟩, ⟨x3, x4⟩, us⟩) W (by omega) h)
  rw [PT.out] at PP
  generalize textQ ⟨k, ⟨x1, x2⟩, ⟨x3, x4⟩, us⟩ = ta at *
  generalize textQ ⟨m, ⟨y1, y2⟩, ⟨y3, y4⟩, ts⟩ = tb at *
  generalize sameQ ⟨k, ⟨x1, x2⟩, ⟨x3, x4⟩, us⟩ ⟨m, ⟨y1, y2⟩, ⟨y3, y4⟩, ts⟩ = sm at *
  dsimp only at SX SQ SR
  clear PT hts
  obtain ⟨ca, fa, za⟩ := HT.out.a
  obtain ⟨cb, fb, zb⟩ := HT.out.b
  go_wp2_with fail
  refine (PA.out _ HT.out.low).mono ?_
  rintro e w6 ⟨rfl, hb6⟩
  have HT := Lib.hid (HT.out.later hb6)
  clear hb6 ca fa za cb fb zb
  go_wp2_with fail
  refine (PP.out _ (HG.out.below HT.out.low)).mono ?_
  rintro e w7 ⟨v2, rfl, hv2, hb7⟩
  have HT := Lib.hid (HT.out.later hb7)
  dsimp only at hv2
  obtain ⟨xo, xp, rfl⟩ := hv2.form
  obtain ⟨W8, hW8⟩ : ∃ W, W = w7.alloc (.cells #[.int .i64 k, .string x1, .string x2, .string x3, .string x4, .slice xo us.length xp] 31) := ⟨_, rfl⟩
  have hb8 : Below w7.heap.size w7 W8 := by rw [hW8]; exact (Below.refl _ _).alloc (Nat.le_refl _) _
  have HX := Lib.hid (show Blk W8 w7.heap.size #[.int .i64 k, .string x1, .string x2, .string x3, .string x4, .slice xo us.length xp] by rw [hW8]; exact Blk.new w7 _ _)
  have HT := HT.out.later hb8
  have HV := Lib.hid (hv2.below hb8)
  clear hv2 hb7 hb8 PP
  go_upto_region 8 with fail
  rw [← hW8]
  clear hW8
  refine wp_region_held_drew (S := (fun W => (∀ o, W.cell? ⟨w.heap.size, o, none⟩ = (#[.int .i64 k, .string x1, .string x2, .string x3, .string x4, .slice wo us.length wp] : Array Value)[o]?) ∧ (∀ o, W.cell? ⟨w.heap.size + 1, o, none⟩ = (#[.int .i64 m, .string y1, .string y2, .string y3, .string y4, .slice uo ts.length up] : Array Value)[o]?) ∧ (∀ o, W.cell? ⟨w7.heap.size, o, none⟩ = (#[.int .i64 k, .string x1, .string x2, .string x3, .string x4, .slice xo us.length xp] : Array Value)[o]?))) (by kernel_rfl) ⟨HT.drew.a.1, HT.drew.b.1, (HX.out.below (below_drew (Below.refl _ _))).1⟩ (fun hHeld => ?_)
  have HX := Lib.hid (HX.out.below (below_drew (Below.refl _ W8)))
  have HV := Lib.hid (HV.out.below (below_drew (Below.refl _ W8)))
  have HT := HT.drew
  obtain ⟨wk, hwk⟩ : ∃ W, W = W8.drew := ⟨_, rfl⟩
  rw [← hwk] at HT HX HV hHeld ⊢
  clear hwk
  (refine hyes 0 ?_); (refine hyes 1 ?_); (try simp only [Act.put, List.setIfInBounds_toArray, List.set])
  (refine held_call 2 rfl (by kernel_rfl) (fun K hK => ?_); go_simp)
  go_at_call 22; refine (SX.out _ _ _ HV.out (HU.out.below HT.low)).mono ?_; rintro e wz2 ⟨rfl, hbq⟩
  have HT := HT.later hbq
  have HV := Lib.hid (HV.out.below hbq)
  have HX := Lib.hid (HX.out.below hbq)
  clear hbq
  (refine hK.out _ _ (⟨HT.a.1, HT.b.1, HX.out.1⟩) (fun hHeld => ?_); clear hK K; (try simp only [Act.put, List.setIfInBounds_toArray, List.set]))
  (refine hyes 3 ?_); (refine hyes 4 ?_); (refine hyes 5 ?_); (refine hyes 6 ?_); (refine hyes 7 ?_); (refine hyes 8 ?_); (refine hyes 9 ?_); (refine hyes 10 ?_); (refine hyes 11 ?_); (refine hyes 12 ?_); (refine hyes 14 ?_); (refine hyes 17 ?_); (refine hyes 18 ?_); (try simp only [Act.put, List.setIfInBounds_toArray, List.set])
  (refine held_call 13 rfl (by kernel_rfl) (fun K hK => ?_); go_simp)
  go_at_call 21; refine (PA.out _ HT.low).mono ?_; rintro e wz13 ⟨rfl, hbq⟩
  have HT := HT.later hbq
  have HV := Lib.hid (HV.out.below hbq)
  have HX := Lib.hid (HX.out.below hbq)
  clear hbq
  (refine hK.out _ _ (⟨HT.a.1, HT.b.1, HX.out.1⟩) (fun hHeld => ?_); clear hK K; (try simp only [Act.put, List.setIfInBounds_toArray, List.set]))
  (refine held_call 15 rfl (by kernel_rfl) (fun K hK => ?_); go_simp)
  go_at_call 21; refine (PB.out _ HT.low).mono ?_; rintro e wz15 ⟨rfl, hbq⟩
  have HT := HT.later hbq
  have HV := Lib.hid (HV.out.below hbq)
  have HX := Lib.hid (HX.out.below hbq)
  clear hbq
  (refine hK.out _ _ (⟨HT.a.1, HT.b.1, HX.out.1⟩) (fun hHeld => ?_); clear hK K; (try simp only [Act.put, List.setIfInBounds_toArray, List.set]))
  (refine hyes 16 ?_); (try simp only [Act.put, List.setIfInBounds_toArray, List.set])
  (refine held_call 19 rfl (by kernel_rfl) (fun K hK => ?_); go_simp)
  go_at_call 22; refine (SQ.out _ _ _ (HU.out.below HT.low) (HW.out.below HT.low)).mono ?_; rintro e wz19 ⟨rfl, hbq⟩
  have HT := HT.later hbq
  have HV := Lib.hid (HV.out.below hbq)
  have HX := Lib.hid (HX.out.below hbq)
  clear hbq
  (refine hK.out _ _ (⟨HT.a.1, HT.b.1, HX.out.1⟩) (fun hHeld => ?_); clear hK K; (try simp only [Act.put, List.setIfInBounds_toArray, List.set]))
  (refine hyes 20 ?_); (refine hyes 21 ?_); (refine hyes 22 ?_); (refine hyes 23 ?_); (refine hyes 24 ?_); (refine hyes 26 ?_); (refine hyes 27 ?_); (try simp only [Act.put, List.setIfInBounds_toArray, List.set])
  (refine held_call 25 rfl (by kernel_rfl) (fun K hK => ?_); go_simp)
  go_at_call 22; refine (SQ.out _ _ _ (HU.out.below HT.low) (HW.out.below HT.low)).mono ?_; rintro e wz25 ⟨rfl, hbq⟩
  have HT := HT.later hbq
  have HV := Lib.hid (HV.out.below hbq)
  have HX := Lib.hid (HX.out.below hbq)
  clear hbq
  (refine hK.out _ _ (⟨HT.a.1, HT.b.1, HX.out.1⟩) (fun hHeld => ?_); clear hK K; (try simp only [Act.put, List.setIfInBounds_toArray, List.set]))
  (refine held_call 28 rfl (by kernel_rfl) (fun K hK => ?_); go_simp)
  go_at_call 16; refine (SR.out _ _ _ (HU.out.below HT.low) (HW.out.below HT.low)).mono ?_; rintro e wz28 ⟨rfl, hbq⟩
  have HT := HT.later hbq
  have HV := Lib.hid (HV.out.below hbq)
  have HX := Lib.hid (HX.out.below hbq)
  clear hbq
  (refine hK.out _ _ (⟨HT.a.1, HT.b.1, HX.out.1⟩) (fun hHeld => ?_); clear hK K; (try simp only [Act.put, List.setIfInBounds_toArray, List.set]))
  (refine hyes 29 ?_); (refine hyes 30 ?_); (refine hyes 31 ?_); (try simp only [Act.put, List.setIfInBounds_toArray, List.set])
  (refine held_call 32 rfl (by kernel_rfl) (fun K hK => ?_); go_simp)
  go_at_call 18; refine (HL.out _ (HG.out.below HT.low)).mono ?_; rintro e wz32 ⟨rfl, hbq⟩
  have HT := HT.later hbq
  have HV := Lib.hid (HV.out.below hbq)
  have HX := Lib.hid (HX.out.below hbq)
  clear hbq
  (refine hK.out _ _ (⟨HT.a.1, HT.b.1, HX.out.1⟩) (fun hHeld => ?_); clear hK K; (try simp only [Act.put, List.setIfInBounds_toArray, List.set]))
  (refine hyes 33 ?_); (refine hyes 34 ?_); (try simp only [Act.put, List.setIfInBounds_toArray, List.set])
  refine wpAnyH_done (by kernel_rfl) ?_ _
  have HZ := Lib.hid HT.low
  clear HT
  go_wp2_with fail
  go_ret
  exact ⟨rfl, HZ.out⟩
end Go.Proofs.YtedkkegjiikcmaaDoor
namespace Go.Proofs.YtedkkegjiikcmaaDoor
open Go.ChangeShapes Go.WideShapes Go.ChangeAt Go.RowKit

section
variable {H : Type} {enc : TypeId × Value → H} {w : World} {base fuel n : Nat} {sp : Nat → Bool} {held : Bool} {cs : List Value} {x : DataW H × List MemPlace} {v : Value} {d : DataW H} {ps : List MemPlace}
def dStr (H : Type) (s : ByteArray) : DataW H := .lit (.string s.data.toList)
def dRl (H : Type) (r : Rl) : DataW H := .agg [dStr H r.o, dStr H r.n]
theorem two_of (h : cs.length = 2) : ∃ a b, cs = [a, b] := by
  match cs, h with
  | [a, b], _ => exact ⟨a, b, rfl⟩
theorem trod_role (h : DataW.trod enc Tryd.prog w base sp held fuel 29 cs = some x) : ∃ r : Rl, cs = r.cells ∧ x = (dRl H r, []) ∧ r.le maxLen := by
  obtain ⟨xs, n, _, rfl, hl, hlen, hf⟩ := DataW.trod_struct Tryd.underlying29 h
  have hc : Tryd.prog.cellsOf 29 = 2 := by kernel_rfl
  have hs : Tryd.prog.cellsOf 9 = 1 := by kernel_rfl
  rw [hc] at hl
  obtain ⟨a, b, rfl⟩ := two_of hl
  have f0 : DataW.trod enc Tryd.prog w base sp held n 9 [a] = xs[0]? := by simpa [hs] using hf 0 _ rfl
  have f1 : DataW.trod enc Tryd.prog w base sp held n 9 [b] = xs[1]? := by simpa [hs] using hf 1 _ rfl
  match xs, hlen with
  | [y0, y1], _ =>
    simp only [List.getElem?_cons_zero, List.getElem?_cons_succ] at f0 f1
    obtain ⟨s0, e0, g0, l0⟩ := DataW.trod_string Tryd.underlying9 f0
    obtain ⟨s1, e1, g1, l1⟩ := DataW.trod_string Tryd.underlying9 f1
    simp only [List.cons.injEq, and_true] at e0 e1
    subst e0 e1 g0 g1
    exact ⟨⟨s0, s1⟩, rfl, rfl, l0, l1⟩
end
end Go.Proofs.YtedkkegjiikcmaaDoor
namespace Go.Proofs.YtedkkegjiikcmaaDoor
open Go.ChangeShapes Go.WideShapes Go.ChangeAt Go.RowKit Go.Deep

theorem laid_out : laidOutB Tryd.prog = true := by kernel_rfl
end Go.Proofs.YtedkkegjiikcmaaDoor
namespace Go.Proofs.YtedkkegjiikcmaaDoor
open Go.ChangeShapes Go.WideShapes Go.ChangeAt Go.RowKit Go.Deep

section
variable {H : Type} {enc : TypeId × Value → H} {w : World} {base : Nat} {held : Bool}
theorem open_rowOf {α : Type} [Inhabited α] (cells : α → List Value) (k : Nat) (hk : 0 < k) (hlen : ∀ x, (cells x).length = k) {t e : TypeId} (ht : Tryd.prog.underlying t = some (.slice e)) (hc : Tryd.prog.cellsOf e = k) (p : α → Prop)
    (each : ∀ n cs y, DataW.trod enc Tryd.prog w base (fun _ => true) held n e cs = some y → ∃ x : α, cs = cells x ∧ p x) {fuel : Nat} {c : Value} {y : DataW H × List MemPlace}
    (hf : DataW.trod enc Tryd.prog w base (fun _ => true) held fuel t [c] = some y) : ∃ l : List α, SlA w k c l.length (l.flatMap cells) ∧ ∀ x ∈ l, p x := by
  rcases open_slice ht hf with ⟨hcs, _⟩ | ⟨a, len, cap, m, n, D, Pl, hcs, _, hl, hm, hmm, _, hx⟩
  · simp only [List.cons.injEq, and_true] at hcs
    subst hcs
    exact ⟨[], (Sl.nil _ _).a, fun s hs => by cases hs⟩
  · simp only [List.cons.injEq, and_true] at hcs
    subst hcs
    simp only [if_true] at hmm
    subst hmm
    rw [hc] at hx
    have hex : ∀ i, i < m → ∃ s : α, w.cells? base (a.add (i * k)) k = some (cells s) ∧ p s := by
      intro i hi
      obtain ⟨cs', h1, h2⟩ := hx i hi
      obtain ⟨s, rfl, hs⟩ := each _ _ _ h2
      exact ⟨s, h1, hs⟩
    obtain ⟨S, hS⟩ := choose_lt hex
    obtain ⟨b, off, spot⟩ := a
    by_cases h0 : 0 < len
    · have hk0 : 0 < (cells (S 0)).length := by rw [hlen]; exact hk
      have c0 := (World.cells?_some (hS 0 (by omega)).1).2.2 0 hk
      rw [List.getElem?_eq_getElem hk0] at c0
      have hspot : spot = none := by simpa [Addr.add] using World.cell?_spot c0
      subst hspot
      have hlenl : ((List.range len).map S).length = len := by simp
      have hcell : ∀ j u, (((List.range len).map S).flatMap cells)[j]? = some u → w.cell? ⟨b, off + j, none⟩ = some u := by
        intro j u hu
        have hj : j < len * k := by
          have := (List.getElem?_eq_some_iff.1 hu).1
          rwa [flat_len cells k hlen, hlenl] at this
        have hf9 : j % k < k := Nat.mod_lt _ hk
        have hi : j / k < len := Nat.div_lt_of_lt_mul (by rwa [Nat.mul_comm])
        have e : j = j / k * k + j % k := by rw [Nat.mul_comm]; exact (Nat.div_add_mod j k).symm
        rw [e, flat_get cells k hlen _ (j / k) (j % k) hf9 (S (j / k)) (by simp [hi])] at hu
        have h1 := (World.cells?_some (hS (j / k) (by omega)).1).2.2 (j % k) hf9
        rw [add_add, add_plain, ← e] at h1
        exact h1.trans hu
      refine ⟨(List.range len).map S, .inl ?_, fun s hs => ?_⟩
      · rw [hlenl]
        refine ⟨by rw [flat_len cells k hlen, hlenl], by omega, .inr ⟨b, off, m, rfl, hl, hm, ?_, hcell⟩⟩
        rw [add_add, add_plain] at c0
        exact World.block_lt_of_cell? _ _ c0
      · obtain ⟨i, hi, rfl⟩ := List.mem_map.1 hs
        exact (hS i (by have := List.mem_range.1 hi; omega)).2
    · have hl0 : len = 0 := by omega
      subst hl0
      exact ⟨[], .inr ⟨⟨_, _, rfl⟩, rfl, rfl⟩, fun s hs => by cases hs⟩

theorem maxLen_eq : maxLen = 9223372036854775807 := by decide
theorem rle_max {r : Rl} (h : r.le maxLen) : r.le 9223372036854775807 := by rwa [maxLen_eq] at h
instance : Inhabited Rl := ⟨noR⟩
theorem strs_flat (l : List ByteArray) : (l.flatMap fun s => [Value.string s]) = strs l := by
  induction l with
  | nil => rfl
  | cons a r ih => rw [List.flatMap_cons, ih]; rfl
theorem open_strsC {fuel : Nat} {c : Value} {y : DataW H × List MemPlace} (hf : DataW.trod enc Tryd.prog w base (fun _ => true) held fuel 22 [c] = some y) :
    ∃ l : List ByteArray, SlA w 1 c l.length (strs l) ∧ ∀ x ∈ l, x.size ≤ 9223372036854775807 := by
  obtain ⟨l, h1, h2⟩ := open_rowOf (fun s : ByteArray => [Value.string s]) 1 (by decide) (fun _ => rfl) Tryd.underlying22 (by kernel_rfl) (fun s => s.size ≤ 9223372036854775807)
    (fun _ cs _ h => by obtain ⟨s, e, _, hs⟩ := DataW.trod_string Tryd.underlying9 h; exact ⟨s, e, by rwa [maxLen_eq] at hs⟩) hf
  exact ⟨l, by rwa [strs_flat] at h1, h2⟩

theorem six_of {cs : List Value} (h : cs.length = 6) : ∃ a b c d e f, cs = [a, b, c, d, e, f] := by
  match cs, h with
  | [a, b, c, d, e, f], _ => exact ⟨a, b, c, d, e, f, rfl⟩
theorem trod_query {fuel : Nat} {cs : List Value} {x : DataW H × List MemPlace} (h : DataW.trod enc Tryd.prog w base (fun _ => true) held fuel 31 cs = some x) : ∃ q : Qv, cs = q.cells ∧ q.ok w := by
  obtain ⟨xs, n, _, rfl, hl, hlen, hf⟩ := DataW.trod_struct Tryd.underlying31 h
  have hc : Tryd.prog.cellsOf 31 = 6 := by kernel_rfl
  have hr : Tryd.prog.cellsOf 29 = 2 := by kernel_rfl
  have hi : Tryd.prog.cellsOf 3 = 1 := by kernel_rfl
  have hs : Tryd.prog.cellsOf 22 = 1 := by kernel_rfl
  rw [hc] at hl
  obtain ⟨c0, c1, c2, c3, c4, c5, rfl⟩ := six_of hl
  have f0 : DataW.trod enc Tryd.prog w base (fun _ => true) held n 3 [c0] = xs[0]? := by simpa [hi] using hf 0 _ rfl
  have f1 : DataW.trod enc Tryd.prog w base (fun _ => true) held n 29 [c1, c2] = xs[1]? := by simpa [hr] using hf 1 _ rfl
  have f2 : DataW.trod enc Tryd.prog w base (fun _ => true) held n 29 [c3, c4] = xs[2]? := by simpa [hr] using hf 2 _ rfl
  have f3 : DataW.trod enc Tryd.prog w base (fun _ => true) held n 22 [c5] = xs[3]? := by simpa [hs] using hf 3 _ rfl
  match xs, hlen with
  | [y0, y1, y2, y3], _ =>
    simp only [List.getElem?_cons_zero, List.getElem?_cons_succ] at f0 f1 f2 f3
    obtain ⟨k, e0, _, _⟩ := DataW.trod_int Tryd.underlying3 f0
    obtain ⟨r1, e1, _, l1⟩ := trod_role f1
    obtain ⟨r2, e2, _, l2⟩ := trod_role f2
    obtain ⟨ss, s3, l3⟩ := open_strsC f3
    simp only [Rl.cells, List.cons.injEq, and_true] at e0 e1 e2
    obtain ⟨rfl, rfl⟩ := e1
    obtain ⟨rfl, rfl⟩ := e2
    subst e0
    exact ⟨⟨k, r1, r2, c5⟩, rfl, rle_max l1, rle_max l2, ss, s3, l3⟩
end
end Go.Proofs.YtedkkegjiikcmaaDoor
namespace Go.Proofs.YtedkkegjiikcmaaDoor
open Go.ChangeShapes Go.WideShapes Go.ChangeAt Go.RowKit
section
variable {H : Type} {enc : TypeId × Value → H} {w : World} {base b0 : Nat} {held : Bool} {r : Reach} {v : Value} {d : DataW H} {ps : List MemPlace}
set_option maxRecDepth 100000 in
theorem open_queryQ (hval : Value.okWide Tryd.prog w r b0 31 v) (hd : DataW.Trod enc Tryd.prog w base (fun _ => true) held 31 v d ps) : ∃ q : Qv, v = qv q ∧ q.ok w := by
  obtain ⟨cs, rfl, _⟩ := okWide_struct Tryd.underlying31 hval
  obtain ⟨fuel, hf⟩ := hd
  obtain ⟨q, h, hq⟩ := trod_query hf
  refine ⟨q, ?_, hq⟩
  obtain ⟨l⟩ := cs
  simp only [Value.cells] at h
  rw [show l = q.cells from by simpa using h]; rfl
end
end Go.Proofs.YtedkkegjiikcmaaDoor
