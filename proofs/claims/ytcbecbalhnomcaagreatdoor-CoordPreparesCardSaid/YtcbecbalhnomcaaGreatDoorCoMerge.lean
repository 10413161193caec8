/- What comes of promises that tell of nothing. -/
import Derived.Test.YtcbecbalhnomcaaGreatDoorCoFar
import Derived.Test.YtcbecbalhnomcaaGreatDoorPCoordServesx14
namespace Go.Proofs.YtcbecbalhnomcaaGreatDoor.Co
open Go.RowKit Go.Proofs.YtcbecbalhnomcaaGreatDoorW.PrintWords Go.Proofs.YtcbecbalhnomcaaGreatDoor.PCoordServes

theorem mz0 : plan_Merge.f 60 (List.replicate 0 z120) = some (0, 0, [], []) := by kernel_rfl
theorem mz1 : plan_Merge.f 60 (List.replicate 1 z120) = some (0, 0, [], []) := by kernel_rfl
theorem mz2 : plan_Merge.f 60 (List.replicate 2 z120) = some (0, 0, [], []) := by kernel_rfl
theorem mz3 : plan_Merge.f 60 (List.replicate 3 z120) = some (0, 0, [], []) := by kernel_rfl
theorem mz4 : plan_Merge.f 60 (List.replicate 4 z120) = some (0, 0, [], []) := by kernel_rfl
theorem mz5 : plan_Merge.f 60 (List.replicate 5 z120) = some (0, 0, [], []) := by kernel_rfl
theorem mz6 : plan_Merge.f 60 (List.replicate 6 z120) = some (0, 0, [], []) := by kernel_rfl
theorem mz7 : plan_Merge.f 60 (List.replicate 7 z120) = some (0, 0, [], []) := by kernel_rfl
theorem mz8 : plan_Merge.f 60 (List.replicate 8 z120) = some (0, 0, [], []) := by kernel_rfl
theorem mz9 : plan_Merge.f 60 (List.replicate 9 z120) = some (0, 0, [], []) := by kernel_rfl
theorem merge_zero (m : Nat) (h : m ≤ 9) : plan_Merge.f 60 (List.replicate m z120) = some (0, 0, [], []) := by
  have : m = 0 ∨ m = 1 ∨ m = 2 ∨ m = 3 ∨ m = 4 ∨ m = 5 ∨ m = 6 ∨ m = 7 ∨ m = 8 ∨ m = 9 := by omega
  rcases this with rfl | rfl | rfl | rfl | rfl | rfl | rfl | rfl | rfl | rfl
  · exact (mz0)
  · exact (mz1)
  · exact (mz2)
  · exact (mz3)
  · exact (mz4)
  · exact (mz5)
  · exact (mz6)
  · exact (mz7)
  · exact (mz8)
  · exact (mz9)
/-- a promise of nothing -/
def PZ (_ : Unit) (c : List Value) : Prop := c = [.int .i64 0, .int .i64 0, .slice none 0 0]
theorem merge_none (base : Nat) (v : Value) (L : List Unit) (w : World) (h : Rw w base 120 3 PZ v L) (hl : L.length ≤ 9) :
    Calls Tryz.prog 68 #[v] w fun e w' => ∃ A2 n2 c2 A3 n3 c3, e = .returned (.tuple #[.int .i64 0, .int .i64 0, .slice A2 n2 c2, .slice A3 n3 c3]) ∧ Below w.heap.size w w' := by
  obtain ⟨A, c, rfl, hc, hr⟩ := h.read
  have hz : ReadsRow (k120.K w) 3 w A (List.replicate L.length z120).length (List.replicate L.length z120) := by
    refine ⟨by simp, by simpa using hr.2.1, fun h0 => ?_⟩
    obtain ⟨ad, e, hcell⟩ := hr.2.2 (by simpa using h0)
    refine ⟨ad, e, fun i p hp => ?_⟩
    rw [List.getElem?_replicate] at hp
    split at hp
    case isFalse => cases hp
    case isTrue hi =>
      cases hp
      obtain ⟨c', h1, h2, h3⟩ := hcell i () (by rw [List.getElem?_eq_getElem hi])
      refine ⟨c', h1, ?_, h3⟩
      rw [show c' = _ from h2]
      exact k120_mk w z120 (A2 := none) (c2 := 0) (Nat.le_refl _) ⟨rfl, by simp [z120], fun h0 => absurd h0 (by simp [z120])⟩
  have := plan_Merge.calls 60 A c (List.replicate L.length z120) 0 0 [] [] w hz (by simpa using hc) (merge_zero _ hl)
  rw [List.length_replicate] at this
  refine this.mono fun e w' ⟨v2, v3, h1, h2, h3, h4⟩ => ?_
  obtain ⟨A2, c2, rfl⟩ := Kd.R_slice h2
  obtain ⟨A3, c3, rfl⟩ := Kd.R_slice h3
  exact ⟨A2, _, c2, A3, _, c3, h1, h4⟩
end Go.Proofs.YtcbecbalhnomcaaGreatDoor.Co
