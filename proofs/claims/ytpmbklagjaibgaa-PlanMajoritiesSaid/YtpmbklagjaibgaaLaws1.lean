/- The laws of majorities, ballots; and the tally that is nil. -/
import Derived.Test.YtpmbklagjaibgaaBase
namespace Go.Proofs.Ytpmbklagjaibgaa.Plan
open Go.RowKit Go.Proofs.YtpmbklagjaibgaaW.PrintWords

theorem majorities_law (n : Int) (w : World) (_ : (Lit.int .i64 n).wf = true) : Calls Try.prog 3 #[.int .i64 n] w fun e w' => e = .returned (.bool true) ∧ Below w.heap.size w w' := by
  by_cases h1 : n < 0
  · go_enter Try.func3, Try.ntmps3
    go_wp2_with (go_at_call 12; refine (awake_calls _).mono ?_; rintro e w' ⟨rfl, hh⟩)
    go_ret
    exact ⟨rfl, hh.out⟩
  by_cases h2 : n > 1099511627776
  · go_enter Try.func3, Try.ntmps3
    go_wp2_with (go_at_call 12; refine (awake_calls _).mono ?_; rintro e w' ⟨rfl, hh⟩)
    go_ret
    exact ⟨rfl, hh.out⟩
  obtain ⟨m, rfl⟩ : ∃ m : Nat, n = (m : Int) := ⟨n.toNat, by omega⟩
  have hm := fun w => majority_calls m w (by omega)
  have e1 : wrap64 (2 * ((m / 2 + 1 : Nat) : Int)) = 2 * ((m / 2 + 1 : Nat) : Int) := w64e rfl (by omega) (by omega)
  have e2 : wrap64 (((m / 2 + 1 : Nat) : Int) - 1) = ((m / 2 + 1 : Nat) : Int) - 1 := w64e rfl (by omega) (by omega)
  have e3 : wrap64 (2 * (((m / 2 + 1 : Nat) : Int) - 1)) = 2 * (((m / 2 + 1 : Nat) : Int) - 1) := w64e rfl (by omega) (by omega)
  have c1 : 2 * ((m / 2 + 1 : Nat) : Int) > (m : Int) := by omega
  have c2 : 2 * (((m / 2 + 1 : Nat) : Int) - 1) ≤ (m : Int) := by omega
  generalize ((m / 2 + 1 : Nat) : Int) = k at *
  go_enter Try.func3, Try.ntmps3
  go_wp2_with (first
    | (go_at_call 13; refine (hm _).mono ?_; rintro e w' ⟨rfl, rfl⟩)
    | (go_at_call 12; refine (awake_calls _).mono ?_; rintro e w' ⟨rfl, hh⟩))
  go_ret
  exact ⟨rfl, hh.out⟩

end Go.Proofs.Ytpmbklagjaibgaa.Plan
