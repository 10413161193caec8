/- The law of the tally that is nil. -/
import Derived.Test.YtpmbklagjaibgaaTally
namespace Go.Proofs.Ytpmbklagjaibgaa.Plan
open Go.RowKit Go.Proofs.YtpmbklagjaibgaaW.PrintWords

theorem nobody_law (i : Int) (w : World) (_ : (Lit.int .i64 i).wf = true) : Calls Try.prog 7 #[.int .i64 i] w fun e w' => e = .returned (.bool true) ∧ Below w.heap.size w w' := by
  have hh2 : ∀ q, Below w.heap.size w (w.drewN q) := fun q => ⟨rfl, rfl, rfl, Nat.le_refl _, fun _ _ => rfl⟩
  go_enter Try.func7, Try.ntmps7
  go_wp2_with (first
    | (go_at_call 17; (with_reducible refine (add_nil _ _).mono ?_); rintro e w' ⟨rfl, rfl⟩)
    | (go_at_call 18; (with_reducible refine (has_nil _ _).mono ?_); rintro e w' ⟨rfl, rfl⟩)
    | (go_at_call 19; (with_reducible refine (count_nil _).mono ?_); rintro e w' ⟨rfl, rfl⟩)
    | (go_at_call 20; (with_reducible refine (won_nil _).mono ?_); rintro e w' ⟨rfl, q, rfl⟩)
    | (go_at_call 12; (with_reducible refine (awake_calls _).mono ?_); rintro e w' ⟨rfl, hh⟩))
  go_ret
  exact ⟨rfl, (hh2 q).trans hh.out⟩
end Go.Proofs.Ytpmbklagjaibgaa.Plan
