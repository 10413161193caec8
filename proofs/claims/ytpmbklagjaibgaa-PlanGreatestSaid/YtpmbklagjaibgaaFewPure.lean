/- What few keeps of promises; and what entries tells of two lists. -/
import Derived.Test.YtpmbklagjaibgaaMergedPure
import Derived.Test.YtpmbklagjaibgaaPPlanMergesx11
namespace Go.Proofs.Ytpmbklagjaibgaa.PPlanMerges
open Go.RowKit Go.Proofs.YtpmbklagjaibgaaW.PrintWords Go.Proofs.YtpmbklagjaibgaaW.PrintLast Go.Proofs.YtpmbklagjaibgaaW.PrintMore

def cut70 (p : S44) : S44 := ⟨p.f0, p.f1, p.f2.take 70⟩
def fewI (l : List S44) : List S44 := (l.take 9).map cut70
theorem few_l0 (l : List S44) : ∀ (d i : Nat) (x3 : List S44), min l.length 9 = i + d → x3.length ≤ i → ∃ k, barquelaw19_few.l0 k l x3 (i : Int) = some (x3 ++ ((l.take 9).drop i).map cut70) := by
  intro d
  induction d with
  | zero =>
    intro i x3 hi hx
    refine ⟨2, ?_⟩
    have hj : barquelaw19_few.j1 1 l x3 (i : Int) false = some (x3 ++ ((l.take 9).drop i).map cut70) := by
      unfold barquelaw19_few.j1
      rw [if_neg (by simp), List.drop_of_length_le (by simp; omega)]
      simp
    unfold barquelaw19_few.l0
    by_cases c : (i : Int) < (l.length : Int)
    · rw [if_pos c, decide_eq_false (by omega)]
      exact hj
    · rw [if_neg c]
      exact hj
  | succ d ih =>
    intro i x3 hi hx
    have hw : wrap64 ((i : Int) + 1) = ((i + 1 : Nat) : Int) := by rw [w64 (by omega) (by omega)]; omega
    have hil : i < l.length := by omega
    obtain ⟨k, hk⟩ := ih (i + 1) (x3 ++ [cut70 l[i]]) (by omega) (by simp; omega)
    refine ⟨k + 2, ?_⟩
    have e : (l.take 9).drop i = l[i] :: (l.take 9).drop (i + 1) := by
      rw [List.drop_eq_getElem_cons (by simp; omega), List.getElem_take]
    rw [e, List.map_cons]
    rw [List.append_assoc] at hk
    unfold barquelaw19_few.l0
    rw [if_pos (by omega), decide_eq_true (by omega)]
    unfold barquelaw19_few.j1
    rw [if_pos rfl, if_pos (by omega), if_pos (by omega), rd44 l i hil, hw]
    by_cases c : (l[i].f2.length : Int) > 70
    · rw [if_pos c, if_pos (by omega), if_pos (by omega)]
      exact hk
    · rw [if_neg c, if_pos (by omega)]
      have e2 : cut70 l[i] = ⟨l[i].f0, l[i].f1, l[i].f2⟩ := by unfold cut70; rw [List.take_of_length_le (by omega)]
      rw [e2] at hk
      rw [e2]
      exact hk
theorem few_f (l : List S44) : ∃ k, barquelaw19_few.f k l = some (fewI l) := by
  have := few_l0 l (min l.length 9) 0 [] (by omega) (by simp)
  simpa [barquelaw19_few.f, fewI] using this
theorem few_len (l : List S44) : (fewI l).length ≤ 9 := by unfold fewI; simp; omega
theorem few_rows (l : List S44) : ∀ p ∈ fewI l, p.f2.length ≤ 70 := by
  intro p hp
  unfold fewI at hp
  obtain ⟨q, _, rfl⟩ := List.mem_map.1 hp
  unfold cut70
  simp
  omega

theorem entries_l0 (a : List S50) (ha : a.length ≤ 1000000) : ∀ d i : Nat, a.length = i + d → ∃ k, barquelaw19_entries.l0 k a a (i : Int) = some true := by
  intro d
  induction d with
  | zero =>
    intro i hi
    refine ⟨1, ?_⟩
    unfold barquelaw19_entries.l0
    rw [if_neg (by omega)]
  | succ d ih =>
    intro i hi
    have hw : wrap64 ((i : Int) + 1) = ((i + 1 : Nat) : Int) := by rw [w64 (by omega) (by omega)]; omega
    obtain ⟨k, hk⟩ := ih (i + 1) (by omega)
    refine ⟨k + 1, ?_⟩
    unfold barquelaw19_entries.l0
    rw [if_pos (by omega), if_pos (by omega), if_pos (by omega), if_neg (by simp), hw]
    exact hk
theorem entries_f (a : List S50) (ha : a.length ≤ 1000000) : ∃ k, barquelaw19_entries.f k a a = some true := by
  obtain ⟨k, hk⟩ := entries_l0 a ha a.length 0 (by omega)
  exact ⟨k, by unfold barquelaw19_entries.f; rw [if_pos rfl]; exact hk⟩
theorem agI_len (l : List S44) : ∀ n g, (agI l n g).length ≤ n := by
  intro n
  induction n with
  | zero => intro g; simp [agI]
  | succ n ih =>
    intro g
    have := ih (g + 1)
    simp only [agI]
    split
    · simp
    · simp; omega

end Go.Proofs.Ytpmbklagjaibgaa.PPlanMerges
