/- The statement ScanTokens: the walk of the law, and of its 'lives'. -/
import Derived.Test.YtakpahlgbcgnmaaScanPrint
import Derived.KernelRfl
namespace Go.Proofs.Ytakpahlgbcgnmaa
open Go.RowKit Go.Shelf

def livesToks : List Tok := [⟨1, [65], 1⟩, ⟨3, [46], 2⟩, ⟨2, [114], 3⟩, ⟨4, [60, 45], 5⟩, ⟨1, [66], 8⟩]
theorem lives_tokens : tokens [65, 46, 114, 32, 60, 45, 32, 66, 32, 35, 32, 120] = (livesToks, 0, 0) := by kernel_rfl
theorem lives_print : printT none livesToks = [65, 46, 114, 32, 60, 45, 32, 66] := by kernel_rfl

set_option maxRecDepth 100000 in
set_option maxHeartbeats 1000000 in
theorem law2_lives (w : World) (hg : Gl w) : Calls Try.prog 7 #[] w fun e w' => e = .returned (.bool true) ∧ Below w.heap.size w w' := by
  have HT := Lib.hid (scan_Tokens ⟨#[65, 46, 114, 32, 60, 45, 32, 66, 32, 35, 32, 120]⟩ w (by decide) hg)
  have HP := Lib.hid fun va W (h : Sl W 3 va livesToks.length (livesToks.flatMap Tok.cells)) => scan_Print va livesToks W h (by decide) (by decide)
  go_enter Try.func7, Try.ntmps7
  go_wp2_with fail
  refine HT.out.mono ?_
  rintro e w1 ⟨v, rfl, hown, hb⟩
  rw [show tokens (bl ⟨#[65, 46, 114, 32, 60, 45, 32, 66, 32, 35, 32, 120]⟩) = (livesToks, 0, 0) from lives_tokens] at hown ⊢
  have hsl := Sl.of_own hown
  obtain ⟨b, o, c, rfl, hc, hm, hlt, hx⟩ := hsl.pos (by decide)
  have hp := HP.out _ w1 hsl
  rw [lives_print, show livesToks.length = 5 from rfl] at hp
  have HP := Lib.hid hp
  clear hp
  obtain ⟨p0, p1, p2⟩ := tok_cell hx 3 (by decide)
  obtain ⟨q0, q1, q2⟩ := tok_cell hx 4 (by decide)
  clear hx hown hsl p1 q1 q0
  change w1.cell? ⟨b, o + 9, none⟩ = some (.int .i64 4) at p0
  change w1.cell? ⟨b, o + 11, none⟩ = some (.int .i64 5) at p2
  change w1.cell? ⟨b, o + 14, none⟩ = some (.int .i64 8) at q2
  have hlen : livesToks.length = 5 := rfl
  go_wp2_with (go_at_call 14; refine HP.out.mono ?_; rintro e w2 ⟨rfl, hb2⟩)
  go_ret
  exact ⟨rfl, hb.trans (hb2.mono hb.size)⟩

set_option maxHeartbeats 1000000 in
theorem law2_ScanTokens (s : ByteArray) (w : World) (hg : Gl w) (hs : s.size ≤ 9223372036854775807) :
    Calls Try.prog 3 #[.string s] w fun e w' => e = .returned (.bool true) ∧ Below w.heap.size w w' := by
  have HL := Lib.hid (fun W (h : Gl W) => law2_lives W h)
  have hr : (s.extract 0 (min (s.size : Int) 300).toNat).size ≤ 9223372036854775807 := by simp; omega
  have HG := Lib.hid hg
  clear hg
  go_enter Try.func3, Try.ntmps3
  go_wp2_with fail
  generalize s.extract 0 (min (s.size : Int) 300).toNat = r at hr ⊢
  refine (scan_Tokens_any r w HG.out hr).mono ?_
  rintro e w1 ⟨va, rfl, hown1, hb1⟩
  have hsl1 := Lib.hid (Sl.of_own hown1)
  have hg1 := HG.out.below hb1
  have HG1 := Lib.hid hg1
  clear hown1 hg1
  go_wp2_with fail
  refine (ref2_Tokens_any r w1 hr).mono ?_
  rintro e w2 ⟨vb, rfl, hown2, hb2⟩
  have hsl2 := Lib.hid (Sl.of_own hown2)
  have hb12 := hb1.trans (hb2.mono hb1.size)
  have hg2 := HG1.out.below hb2
  have HG2 := Lib.hid hg2
  have hsl3 := Lib.hid (hsl1.out.below hb2)
  clear hown2 hg2 hsl1
  generalize tokens (bl r) = t at hsl2 hsl3 ⊢
  obtain ⟨l, i, e⟩ := t
  dsimp only at hsl2 hsl3 ⊢
  go_wp2_with fail
  refine (ref2_Alike_same va vb l w2 hsl3.out hsl2.out).mono ?_
  rintro e w3 ⟨rfl, n, rfl⟩
  go_wp2_with fail
  refine (law2_lives (w2.drewN n) HG2.out).mono ?_
  rintro e w4 ⟨rfl, hb4⟩
  go_wp2
  go_ret
  exact ⟨rfl, (below_drewN hb12 n).trans (hb4.mono hb12.size)⟩
end Go.Proofs.Ytakpahlgbcgnmaa
