/- The reference's Print; the law's Light. -/
import Derived.Test.YtmpanikeeeoikaaSynMore2
namespace Go.Proofs.Ytmpanikeeeoikaa
open Go.RowKit Go.Shelf

def light8 (s : St) : List ByteArray := [s.who, s.via, s.h.o, s.h.n, s.a.o, s.a.n, s.b.o, s.b.n]
theorem light8_le {s : St} {m : Nat} : (∀ x ∈ light8 s, x.size ≤ m) ↔ s.le m := by
  simp only [light8, St.le, Rl.le, List.forall_mem_cons]
  constructor
  · rintro ⟨a, b, c, d, e, f, g, h, _⟩; exact ⟨⟨c, d⟩, a, ⟨e, f⟩, ⟨g, h⟩, b⟩
  · rintro ⟨⟨c, d⟩, a, ⟨e, f⟩, ⟨g, h⟩, b⟩; exact ⟨a, b, c, d, e, f, g, h, by simp⟩
theorem St.le.mono {s : St} {m n : Nat} (h : s.le m) (hmn : m ≤ n) : s.le n := light8_le.1 (fun x hx => Nat.le_trans (light8_le.2 h x hx) hmn)
theorem Rl.le.mono {s : Rl} {m n : Nat} (h : s.le m) (hmn : m ≤ n) : s.le n := ⟨Nat.le_trans h.1 hmn, Nat.le_trans h.2 hmn⟩
set_option maxRecDepth 100000 in
set_option maxHeartbeats 4000000 in
theorem law3_Light (s : St) (w : World) (hs : s.le 9223372036854775807) :
    Calls Try.prog 9 #[sv s] w fun e w' => ∃ b, e = .returned (.bool b) ∧ (b = true → s.le 40) ∧ Below w.heap.size w w' := by
  have HL := Lib.hid (light8_le.2 hs)
  have HE := Lib.hid (fun h => (light8_le (s := s) (m := 40)).1 h)
  have h8 : (light8 s).length = 8 := rfl
  have HS : ∀ W : World, (∀ o, W.cell? ⟨w.heap.size + 1, o, none⟩ = ((light8 s).map Value.string).toArray[o]?) → ∀ k (hk : k < (light8 s).length), W.cell? ⟨w.heap.size + 1, k, none⟩ = some (.string (light8 s)[k]) := by
    intro W h k hk; rw [h]; simp [hk]
  have HC := Lib.hid HS
  have H0 := Lib.hid (show ((light8 s).map Value.string).toArray = #[.string s.who, .string s.via, .string s.h.o, .string s.h.n, .string s.a.o, .string s.a.n, .string s.b.o, .string s.b.n] from rfl)
  generalize light8 s = L at *
  obtain ⟨k, ⟨h1, h2⟩, who, ⟨a1, a2⟩, ⟨b1, b2⟩, via⟩ := s
  clear hs HS
  go_enter Try.func9, Try.ntmps9
  go_wp2
  go_loopw [29] (fun i wr => ∃ k : Nat, k ≤ 8 ∧ i = .int .i64 k ∧ (∀ j (h : j < L.length), j < k → L[j].size ≤ 40) ∧ Below w.heap.size w wr ∧ (∀ o, wr.cell? ⟨w.heap.size + 1, o, none⟩ = (L.map Value.string).toArray[o]?)) (fun i _ => 8 - (intOf i).toNat)
  case atStart =>
    refine ⟨0, by omega, rfl, fun j h hj => absurd hj (by omega), ((Below.refl _ _).alloc (Nat.le_refl _) _).alloc (by simp) _, fun o => ?_⟩
    rw [H0.out, World.cell?_alloc_at _ _ _ _ (by simp)]
  case round =>
    obtain ⟨k, hk, rfl, hpre, hbw, hcell⟩ := hrel
    have HCE := Lib.hid hcell
    have HPRE := Lib.hid hpre
    by_cases hlt : k < 8
    · have p0 := HC.out _ hcell k (by omega)
      have hz := HL.out L[k] (List.getElem_mem (by omega))
      clear hcell hpre
      by_cases h40 : L[k].size ≤ 40
      · have d1 : decide ((40 : Int) < (L[k].size : Int)) = false := by simp; omega
        go_wp2
        refine ⟨⟨k + 1, by omega, by go_num, fun j h hj => ?_, hbw, HCE.out⟩, by simp [intOf]; omega⟩
        by_cases hjk : j < k
        · exact HPRE.out j h hjk
        · obtain rfl : j = k := by omega
          exact h40
      · have d1 : decide ((40 : Int) < (L[k].size : Int)) = true := by simp; omega
        go_wp2
        go_ret
        exact ⟨false, rfl, fun h => (by cases h), hbw⟩
    · clear hcell hpre
      go_wp2
      go_ret
      refine ⟨true, rfl, fun _ => HE.out fun x hx => ?_, hbw⟩
      obtain ⟨j, hj, rfl⟩ := List.getElem_of_mem hx
      exact HPRE.out j hj (by omega)
end Go.Proofs.Ytmpanikeeeoikaa
