/- The plain law of the number that a majority has reached. -/
import Derived.Test.YtpmbklagjaibgaaMeets
namespace Go.Proofs.Ytpmbklagjaibgaa.Plan
open Go.RowKit Go.Proofs.YtpmbklagjaibgaaW.PrintWords

def geC (r : Int) (ys : List Int) (k : Nat) : Nat := (ys.take k).countP fun x => decide (x ≥ r)
def gtC (r : Int) (ys : List Int) (k : Nat) : Nat := (ys.take k).countP fun x => decide (x > r)
def isC (r : Int) (ys : List Int) (k : Nat) : Bool := (ys.take k).any fun x => x == r
theorem take_succ_getD (ys : List Int) (k : Nat) (h : k < ys.length) : ys.take (k + 1) = ys.take k ++ [ys.getD k 0] := by
  rw [List.take_succ_eq_append_getElem h, List.getD_eq_getElem?_getD, List.getElem?_eq_getElem h]; rfl
theorem geC_succ (r : Int) (ys : List Int) (k : Nat) (h : k < ys.length) : geC r ys (k + 1) = geC r ys k + (if ys.getD k 0 ≥ r then 1 else 0) := by
  unfold geC; rw [take_succ_getD ys k h, List.countP_append]; simp [List.countP_cons]
theorem gtC_succ (r : Int) (ys : List Int) (k : Nat) (h : k < ys.length) : gtC r ys (k + 1) = gtC r ys k + (if ys.getD k 0 > r then 1 else 0) := by
  unfold gtC; rw [take_succ_getD ys k h, List.countP_append]; simp [List.countP_cons]
theorem isC_succ (r : Int) (ys : List Int) (k : Nat) (h : k < ys.length) : isC r ys (k + 1) = (isC r ys k || (ys.getD k 0 == r)) := by
  unfold isC; rw [take_succ_getD ys k h, List.any_append]; simp
theorem geC_le (r : Int) (ys : List Int) (k : Nat) : geC r ys k ≤ k := Nat.le_trans List.countP_le_length (by simp; omega)
theorem gtC_le (r : Int) (ys : List Int) (k : Nat) : gtC r ys k ≤ k := Nat.le_trans List.countP_le_length (by simp; omega)

theorem srt_perm (ys : List Int) : (srt ys).Perm ys := List.mergeSort_perm ys _
theorem srt_le (ys : List Int) (i j : Nat) (hij : i ≤ j) (hj : j < ys.length) : (srt ys).getD i 0 ≤ (srt ys).getD j 0 := by
  have hl := srt_length ys
  have hp : (srt ys).Pairwise (fun x y => decide (x ≤ y) = true) := List.pairwise_mergeSort (fun a b c h1 h2 => by simp at *; omega) (fun a b => by simp; omega) ys
  rw [List.getD_eq_getElem?_getD, List.getD_eq_getElem?_getD, List.getElem?_eq_getElem (by omega : i < (srt ys).length), List.getElem?_eq_getElem (by omega : j < (srt ys).length)]
  show (srt ys)[i] ≤ (srt ys)[j]
  rcases Nat.lt_or_ge i j with h | h
  · have := (List.pairwise_iff_getElem.1 hp) i j (by omega) (by omega) h
    simpa using this
  · obtain rfl : i = j := by omega
    exact Int.le_refl _

theorem reach_law (ys : List Int) (h : 0 < ys.length) : isC (reach ys) ys ys.length = true ∧ ys.length < 2 * geC (reach ys) ys ys.length ∧ 2 * gtC (reach ys) ys ys.length ≤ ys.length := by
  have hl := srt_length ys
  have hs : seat ys.length < ys.length := by unfold seat; omega
  have hr : reach ys = (srt ys).getD (seat ys.length) 0 := rfl
  have hmem : reach ys ∈ srt ys := by
    rw [hr, List.getD_eq_getElem?_getD, List.getElem?_eq_getElem (by omega : seat ys.length < (srt ys).length)]
    exact List.getElem_mem _
  refine ⟨?_, ?_, ?_⟩
  · unfold isC
    rw [List.take_length, List.any_eq_true]
    exact ⟨_, (srt_perm ys).mem_iff.1 hmem, by simp⟩
  · unfold geC
    rw [List.take_length, ← (srt_perm ys).countP_eq, ← List.take_append_drop (seat ys.length) (srt ys), List.countP_append]
    have : ((srt ys).drop (seat ys.length)).countP (fun x => decide (x ≥ reach ys)) = ((srt ys).drop (seat ys.length)).length := by
      rw [List.countP_eq_length]
      intro a ha
      obtain ⟨i, hi, rfl⟩ := List.mem_iff_getElem.1 ha
      rw [List.length_drop] at hi
      have := srt_le ys (seat ys.length) (seat ys.length + i) (by omega) (by omega)
      rw [List.getElem_drop]
      rw [← hr, List.getD_eq_getElem?_getD, List.getElem?_eq_getElem (by omega : seat ys.length + i < (srt ys).length)] at this
      simpa using this
    rw [this, List.length_drop]
    unfold seat at *
    omega
  · unfold gtC
    rw [List.take_length, ← (srt_perm ys).countP_eq, ← List.take_append_drop (seat ys.length + 1) (srt ys), List.countP_append]
    have : ((srt ys).take (seat ys.length + 1)).countP (fun x => decide (x > reach ys)) = 0 := by
      rw [List.countP_eq_zero]
      intro a ha
      obtain ⟨i, hi, rfl⟩ := List.mem_iff_getElem.1 ha
      rw [List.length_take] at hi
      have := srt_le ys i (seat ys.length) (by omega) (by omega)
      rw [List.getElem_take]
      rw [← hr, List.getD_eq_getElem?_getD, List.getElem?_eq_getElem (by omega : i < (srt ys).length)] at this
      simp at this ⊢
      omega
    rw [this]
    have h2 := List.countP_le_length (p := fun x => decide (x > reach ys)) (l := (srt ys).drop (seat ys.length + 1))
    rw [List.length_drop] at h2
    unfold seat at *
    omega

end Go.Proofs.Ytpmbklagjaibgaa.Plan
