/- The laws of majorities, ballots; and the tally that is nil. -/
import Derived.Test.YtpmbklagjaibgaaBase
namespace Go.Proofs.Ytpmbklagjaibgaa.Plan
open Go.RowKit Go.Proofs.YtpmbklagjaibgaaW.PrintWords

theorem majorities_law (n : Int) (w : World) (_ : (Lit.int .i64 n).wf = true) : Calls Try.prog 3 #[.int .i64 n] w fun e w' => e = .returned (.bool true) ∧ Below w.heap.size w w' := by
  by_cases h1 : n < 0
  · go_enter Try.func3, Try.ntmps3
    go_wp2_with (go_at_call 12; refine (awake_calls _).mono ?_; rintro e w' ⟨rfl, hh⟩)
    go_ret
    exact ⟨rfl, hh.out⟩
  by_cases h2 : n > 1099511627776
  · go_enter Try.func3, Try.ntmps3
    go_wp2_with (go_at_call 12; refine (awake_calls _).mono ?_; rintro e w' ⟨rfl, hh⟩)
    go_ret
    exact ⟨rfl, hh.out⟩
  obtain ⟨m, rfl⟩ : ∃ m : Nat, n = (m : Int) := ⟨n.toNat, by omega⟩
  have hm := fun w => majority_calls m w (by omega)
  have e1 : wrap64 (2 * ((m / 2 + 1 : Nat) : Int)) = 2 * ((m / 2 + 1 : Nat) : Int) := w64e rfl (by omega) (by omega)
  have e2 : wrap64 (((m / 2 + 1 : Nat) : Int) - 1) = ((m / 2 + 1 : Nat) : Int) - 1 := w64e rfl (by omega) (by omega)
  have e3 : wrap64 (2 * (((m / 2 + 1 : Nat) : Int) - 1)) = 2 * (((m / 2 + 1 : Nat) : Int) - 1) := w64e rfl (by omega) (by omega)
  have c1 : 2 * ((m / 2 + 1 : Nat) : Int) > (m : Int) := by omega
  have c2 : 2 * (((m / 2 + 1 : Nat) : Int) - 1) ≤ (m : Int) := by omega
  generalize ((m / 2 + 1 : Nat) : Int) = k at *
  go_enter Try.func3, Try.ntmps3
  go_wp2_with (first
    | (go_at_call 13; refine (hm _).mono ?_; rintro e w' ⟨rfl, rfl⟩)
    | (go_at_call 12; refine (awake_calls _).mono ?_; rintro e w' ⟨rfl, hh⟩))
  go_ret
  exact ⟨rfl, hh.out⟩

set_option maxHeartbeats 4000000 in
theorem ballots_law (a i b k : Int) (w : World) (_ : (Lit.int .i64 a).wf = true) (_ : (Lit.int .i64 i).wf = true) (_ : (Lit.int .i64 b).wf = true) (_ : (Lit.int .i64 k).wf = true) :
    Calls Try.prog 5 #[.int .i64 a, .int .i64 i, .int .i64 b, .int .i64 k] w fun e w' => e = .returned (.bool true) ∧ Below w.heap.size w w' := by
  by_cases hg : 0 ≤ i ∧ i < 4 ∧ 1 ≤ a ∧ a ≤ 1099511627776
  · have h1 := fun w => ballot_ok a i w hg.1 hg.2.1 hg.2.2.1 hg.2.2.2
    have c1 : a ≥ 1 := by omega
    have c2 : a ≤ 1099511627776 := by omega
    have c3 : i ≥ 0 := by omega
    have c4 : i ≤ 3 := by omega
    have c5 : (a * 4 + i == 0) = false := by simp; omega
    by_cases hk : 0 ≤ k ∧ k < 4 ∧ 1 ≤ b ∧ b ≤ 1099511627776
    · have h2 := fun w => ballot_ok b k w hk.1 hk.2.1 hk.2.2.1 hk.2.2.2
      by_cases e1 : a = b
      · subst e1
        by_cases e2 : i = k
        · subst e2
          go_enter Try.func5, Try.ntmps5
          go_wp2_with (first
            | (go_at_call 15; (with_reducible refine (h1 _).mono ?_); rintro e w' ⟨rfl, rfl⟩)
            | (go_at_call 12; refine (awake_calls _).mono ?_; rintro e w' ⟨rfl, hh⟩))
          go_ret
          exact ⟨rfl, hh.out⟩
        · have e2' : (i == k) = false := by simpa using e2
          have e3 : (a * 4 + i == a * 4 + k) = false := by simp; omega
          go_enter Try.func5, Try.ntmps5
          go_wp2_with (first
            | (go_at_call 15; (with_reducible refine (h1 _).mono ?_); rintro e w' ⟨rfl, rfl⟩)
            | (go_at_call 15; (with_reducible refine (h2 _).mono ?_); rintro e w' ⟨rfl, rfl⟩)
            | (go_at_call 12; refine (awake_calls _).mono ?_; rintro e w' ⟨rfl, hh⟩))
          go_ret
          exact ⟨rfl, hh.out⟩
      · have e2' : (a == b) = false := by simpa using e1
        have e3 : (a * 4 + i == b * 4 + k) = false := by simp; omega
        by_cases e4 : a ≤ b
        · go_enter Try.func5, Try.ntmps5
          go_wp2_with (first
            | (go_at_call 15; (with_reducible refine (h1 _).mono ?_); rintro e w' ⟨rfl, rfl⟩)
            | (go_at_call 15; (with_reducible refine (h2 _).mono ?_); rintro e w' ⟨rfl, rfl⟩)
            | (go_at_call 12; refine (awake_calls _).mono ?_; rintro e w' ⟨rfl, hh⟩))
          go_ret
          exact ⟨rfl, hh.out⟩
        · have e5 : a * 4 + i > b * 4 + k := by omega
          go_enter Try.func5, Try.ntmps5
          go_wp2_with (first
            | (go_at_call 15; (with_reducible refine (h1 _).mono ?_); rintro e w' ⟨rfl, rfl⟩)
            | (go_at_call 15; (with_reducible refine (h2 _).mono ?_); rintro e w' ⟨rfl, rfl⟩)
            | (go_at_call 12; refine (awake_calls _).mono ?_; rintro e w' ⟨rfl, hh⟩))
          go_ret
          exact ⟨rfl, hh.out⟩
    · have h2 := fun w => ballot_bad b k w (by omega)
      go_enter Try.func5, Try.ntmps5
      go_wp2_with (first
        | (go_at_call 15; (with_reducible refine (h1 _).mono ?_); rintro e w' ⟨rfl, rfl⟩)
        | (go_at_call 15; (with_reducible refine (h2 _).mono ?_); rintro e w' ⟨rfl, rfl⟩)
        | (go_at_call 12; refine (awake_calls _).mono ?_; rintro e w' ⟨rfl, hh⟩))
      go_ret
      exact ⟨rfl, hh.out⟩
  · have h1 := fun w => ballot_bad a i w (by omega)
    obtain ⟨y, f, h2⟩ : ∃ y f, ∀ w, Calls Try.prog 15 #[.int .i64 b, .int .i64 k] w fun e w' => e = .returned (.tuple #[.int .i64 y, .int .i64 f]) ∧ w = w' := by
      by_cases hk : 0 ≤ k ∧ k < 4 ∧ 1 ≤ b ∧ b ≤ 1099511627776
      · exact ⟨_, _, fun w => ballot_ok b k w hk.1 hk.2.1 hk.2.2.1 hk.2.2.2⟩
      · exact ⟨_, _, fun w => ballot_bad b k w (by omega)⟩
    by_cases c1 : a ≥ 1
    all_goals by_cases c2 : a ≤ 1099511627776
    all_goals by_cases c3 : i ≥ 0
    all_goals by_cases c4 : i ≤ 3
    all_goals first
      | (exfalso; omega)
      | (clear hg
         go_enter Try.func5, Try.ntmps5
         go_wp2_with (first
           | (go_at_call 15; (with_reducible refine (h1 _).mono ?_); rintro e w' ⟨rfl, rfl⟩)
           | (go_at_call 15; (with_reducible refine (h2 _).mono ?_); rintro e w' ⟨rfl, rfl⟩)
           | (go_at_call 12; refine (awake_calls _).mono ?_; rintro e w' ⟨rfl, hh⟩))
         go_ret
         exact ⟨rfl, hh.out⟩)

end Go.Proofs.Ytpmbklagjaibgaa.Plan
