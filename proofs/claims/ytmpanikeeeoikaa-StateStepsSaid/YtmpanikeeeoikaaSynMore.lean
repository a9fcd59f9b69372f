/- syn.Normal, Print, Roles and the reference's Normal, Print, SameRoles, for every statement of texts that are not too long. -/
import Derived.Test.YtmpanikeeeoikaaRef03
import Derived.Test.YtmpanikeeeoikaaPlain2
import Derived.Deep.RegionWith
namespace Go.Proofs.Ytmpanikeeeoikaa
open Go.RowKit Go.Shelf

theorem normal_no (k : Int) (h : Rl) (who : ByteArray) (a b : Rl) (via : ByteArray) (h4 : ¬ k = 4) : normalS ⟨k, h, who, a, b, via⟩ = ⟨k, h, who, a, b, via⟩ := by
  unfold normalS; rw [if_neg (fun x => h4 x.1)]
theorem normal_same (h : Rl) (who : ByteArray) (a b : Rl) (via : ByteArray) (hl : lessR b a = false) : normalS ⟨4, h, who, a, b, via⟩ = ⟨4, h, who, a, b, via⟩ := by
  unfold normalS; rw [if_neg (fun x => by rw [hl] at x; cases x.2)]
theorem normal_swap (h : Rl) (who : ByteArray) (a b : Rl) (via : ByteArray) (hl : lessR b a = true) : normalS ⟨4, h, who, a, b, via⟩ = ⟨4, h, who, b, a, via⟩ := by
  unfold normalS; rw [if_pos ⟨rfl, hl⟩]

theorem printS_no (s : St) (h : rightS s = false) : printS s = emp := by unfold printS; rw [h]; rfl
theorem printS1 (h : Rl) (who : ByteArray) (a b : Rl) (via : ByteArray) (hr : rightS ⟨1, h, who, a, b, via⟩ = true) : printS ⟨1, h, who, a, b, via⟩ = roleT h ++ ⟨#[32, 60, 45, 32]⟩ ++ who := by unfold printS; rw [hr]; rfl
theorem printS2 (h : Rl) (who : ByteArray) (a b : Rl) (via : ByteArray) (hr : rightS ⟨2, h, who, a, b, via⟩ = true) : printS ⟨2, h, who, a, b, via⟩ = roleT h ++ ⟨#[32, 60, 45, 32]⟩ ++ roleT a := by unfold printS; rw [hr]; rfl
theorem printS3 (h : Rl) (who : ByteArray) (a b : Rl) (via : ByteArray) (hr : rightS ⟨3, h, who, a, b, via⟩ = true) : printS ⟨3, h, who, a, b, via⟩ = roleT h ++ ⟨#[32, 60, 45, 32]⟩ ++ (roleT a ++ ⟨#[46]⟩ ++ via) := by unfold printS; rw [hr]; rfl
theorem printS4 (h : Rl) (who : ByteArray) (a b : Rl) (via : ByteArray) (hr : rightS ⟨4, h, who, a, b, via⟩ = true) : printS ⟨4, h, who, a, b, via⟩ = roleT h ++ ⟨#[32, 60, 45, 32]⟩ ++ (roleT a ++ ⟨#[32, 38, 32]⟩ ++ roleT b) := by unfold printS; rw [hr]; rfl
theorem roleT_size (r : Rl) : (roleT r).size = r.o.size + 1 + r.n.size := by simp [roleT, ByteArray.size_append]; rfl
theorem roleT_le (r : Rl) (h : r.le 4294967) : (roleT r).size ≤ 8600000 := by rw [roleT_size]; have := h.1; have := h.2; omega
theorem app_assoc (a b c : ByteArray) : a ++ b ++ c = a ++ (b ++ c) := by
  obtain ⟨⟨x⟩⟩ := a; obtain ⟨⟨y⟩⟩ := b; obtain ⟨⟨z⟩⟩ := c
  apply bl_inj.1
  rw [bl_append, bl_append, bl_append, bl_append, List.append_assoc]

end Go.Proofs.Ytmpanikeeeoikaa
