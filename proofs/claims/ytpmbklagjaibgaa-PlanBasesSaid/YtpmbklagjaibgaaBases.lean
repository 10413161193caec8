/- The law of the basis. -/
import Derived.Test.YtpmbklagjaibgaaMeets
namespace Go.Proofs.Ytpmbklagjaibgaa.Plan
open Go.RowKit Go.Proofs.YtpmbklagjaibgaaW.PrintWords

/-- the better of two bases -/
def bst (fl tp gn best g : Int) : Int := if g ≥ fl then (if g < tp then (if g < gn then (if best = gn then g else if g > best then g else best) else best) else best) else best
def bf (fl tp gn : Int) (zs : List Int) : Nat → Int
  | 0 => gn
  | k + 1 => bst fl tp gn (bf fl tp gn zs k) (zs.getD k 0)
/-- the five questions of one round, answered -/
theorem bst_cases (fl tp gn best g : Int) :
    (¬ g ≥ fl ∧ bst fl tp gn best g = best) ∨ (g ≥ fl ∧ ¬ g < tp ∧ bst fl tp gn best g = best) ∨ (g ≥ fl ∧ g < tp ∧ ¬ g < gn ∧ bst fl tp gn best g = best) ∨
    (g ≥ fl ∧ g < tp ∧ g < gn ∧ (best == gn) = true ∧ bst fl tp gn best g = g) ∨ (g ≥ fl ∧ g < tp ∧ g < gn ∧ (best == gn) = false ∧ g > best ∧ bst fl tp gn best g = g) ∨
    (g ≥ fl ∧ g < tp ∧ g < gn ∧ (best == gn) = false ∧ ¬ g > best ∧ bst fl tp gn best g = best) := by
  by_cases h1 : g ≥ fl <;> by_cases h2 : g < tp <;> by_cases h3 : g < gn <;> by_cases h4 : best = gn <;> by_cases h5 : g > best <;> simp [bst, h1, h2, h3, h4, h5] <;> omega

theorem basis_calls (A : Option Addr) (n c : Nat) (zs : List Int) (fl tp gn : Int) (w : World) (hn : n ≤ 9223372036854775807) (R : ∀ i, i < n → ∃ x, A = some x ∧ w.cell? (x.add i) = some (.int .i64 (zs.getD i 0))) :
    Calls Try.prog 16 #[.slice A n c, .int .i64 fl, .int .i64 tp, .int .i64 gn] w fun e w' => e = .returned (.int .i64 (bf fl tp gn zs n)) ∧ w = w' := by
  go_enter Try.func16, Try.ntmps16
  go_wp2
  go_loopw [9, 11, 15] (fun b g i wr => ∃ (j : Nat), j ≤ n ∧ b = .int .i64 (bf fl tp gn zs j) ∧ i = .int .i64 j ∧ wr = w) (fun _ _ i _ => n - (intOf i).toNat)
  case atStart => exact ⟨0, by omega, rfl, rfl, rfl⟩
  case round =>
    obtain ⟨j, hj, rfl, rfl, rfl⟩ := hrel
    by_cases h : j < n
    · obtain ⟨ad, rfl, hc⟩ := R j h
      have hs : Hid (bf fl tp gn zs (j + 1) = bst fl tp gn (bf fl tp gn zs j) (zs.getD j 0)) := rfl
      have hcs := bst_cases fl tp gn (bf fl tp gn zs j) (zs.getD j 0)
      have h' : (j : Int) < (n : Int) := by omega
      have h'' : (0 : Int) ≤ (j : Int) := by omega
      clear R
      generalize bf fl tp gn zs j = best at *
      generalize zs.getD j 0 = g at *
      rcases hcs with ⟨c1, e⟩ | ⟨c1, c2, e⟩ | ⟨c1, c2, c3, e⟩ | ⟨c1, c2, c3, c4, e⟩ | ⟨c1, c2, c3, c4, c5, e⟩ | ⟨c1, c2, c3, c4, c5, e⟩
      all_goals
        rw [e] at hs
        clear e
        go_wp2
        go_roundw
        case rel => exact ⟨j + 1, by omega, by rw [hs.out], by go_num, trivial⟩
        case measure => simp [intOf]; omega
    · obtain rfl : j = n := by omega
      have h' : ¬ (j : Int) < (j : Int) := by omega
      go_wp2
      go_ret
      exact ⟨rfl, rfl⟩

set_option maxRecDepth 100000 in
set_option maxHeartbeats 1000000 in
theorem bases_few (A : Option Addr) (n c : Nat) (zs : List Int) (fl tp gn : Int) (w : World) (hn : n ≤ 9223372036854775807) (h0 : n ≤ 60) (R1 : Hid (∀ w', Below w.heap.size w w' → ∀ i, i < n → ∃ x, A = some x ∧ w'.cell? (x.add i) = some (.int .i64 (zs.getD i 0)))) :
    Calls Try.prog 6 #[.slice A n c, .int .i64 fl, .int .i64 tp, .int .i64 gn] w fun e w' => e = .returned (.bool true) ∧ Below w.heap.size w w' := by
  have bel0 := Below.refl w.heap.size w
  have g0 : ¬ (n : Int) > 60 := by omega
  go_enter Try.func6, Try.ntmps6
  go_wp2
  go_loopw [9, 10, 11] (fun b i g wr => ∃ (j : Nat), j ≤ n ∧ b = .int .i64 (bf fl tp gn zs j) ∧ i = .int .i64 j ∧ Hid (Below w.heap.size w wr)) (fun _ i _ _ => n - (intOf i).toNat)
  case atStart => exact ⟨0, by omega, rfl, rfl, bel0⟩
  case round =>
    obtain ⟨j, hj, rfl, rfl, bel⟩ := hrel
    by_cases h : j < n
    · obtain ⟨ad, rfl, hc⟩ := R1.out _ bel.out j (by omega)
      have hs : Hid (bf fl tp gn zs (j + 1) = bst fl tp gn (bf fl tp gn zs j) (zs.getD j 0)) := rfl
      have hcs := bst_cases fl tp gn (bf fl tp gn zs j) (zs.getD j 0)
      have h' : (j : Int) < (n : Int) := by omega
      have h'' : (0 : Int) ≤ (j : Int) := by omega
      generalize bf fl tp gn zs j = best at *
      generalize zs.getD j 0 = g at *
      rcases hcs with ⟨c1, e⟩ | ⟨c1, c2, e⟩ | ⟨c1, c2, c3, e⟩ | ⟨c1, c2, c3, c4, e⟩ | ⟨c1, c2, c3, c4, c5, e⟩ | ⟨c1, c2, c3, c4, c5, e⟩
      all_goals
        rw [e] at hs
        clear e
        go_wp2
        go_roundw
        case rel => exact ⟨j + 1, by omega, by rw [hs.out], by go_num, bel⟩
        case measure => simp [intOf]; omega
    · obtain rfl : j = n := by omega
      have h' : ¬ (j : Int) < (j : Int) := by omega
      have hb := basis_calls A j c zs fl tp gn wr (by omega) (fun i hi => R1.out _ bel.out i (by omega))
      generalize bf fl tp gn zs j = best at *
      go_wp2_with (first
        | (go_at_call 16; (with_reducible refine hb.mono ?_); rintro e w9 ⟨rfl, rfl⟩)
        | (go_at_call 12; (with_reducible refine (awake_calls _).mono ?_); rintro e w6 ⟨rfl, hh⟩))
      go_ret
      exact ⟨rfl, bel.out.trans (hh.out.mono bel.out.size)⟩

set_option maxRecDepth 100000 in
set_option maxHeartbeats 1000000 in
theorem bases_many (A : Option Addr) (n c : Nat) (zs : List Int) (fl tp gn : Int) (w : World) (hn : n ≤ 9223372036854775807) (h0 : 60 < n) (hc : n ≤ c) (R1 : Hid (∀ w', Below w.heap.size w w' → ∀ i, i < n → ∃ x, A = some x ∧ w'.cell? (x.add i) = some (.int .i64 (zs.getD i 0)))) :
    Calls Try.prog 6 #[.slice A n c, .int .i64 fl, .int .i64 tp, .int .i64 gn] w fun e w' => e = .returned (.bool true) ∧ Below w.heap.size w w' := by
  have bel0 := Below.refl w.heap.size w
  have g0 : (n : Int) > 60 := by omega
  have g1 : (60 : Int) ≤ (n : Int) := by omega
  have g2 : (60 : Int) ≤ (c : Int) := by omega
  go_enter Try.func6, Try.ntmps6
  go_wp2
  go_loopw [9, 10, 11] (fun b i g wr => ∃ (j : Nat), j ≤ 60 ∧ b = .int .i64 (bf fl tp gn zs j) ∧ i = .int .i64 j ∧ Hid (Below w.heap.size w wr)) (fun _ i _ _ => 60 - (intOf i).toNat)
  case atStart => exact ⟨0, by omega, rfl, rfl, bel0⟩
  case round =>
    obtain ⟨j, hj, rfl, rfl, bel⟩ := hrel
    by_cases h : j < 60
    · obtain ⟨ad, rfl, hc⟩ := R1.out _ bel.out j (by omega)
      have hs : Hid (bf fl tp gn zs (j + 1) = bst fl tp gn (bf fl tp gn zs j) (zs.getD j 0)) := rfl
      have hcs := bst_cases fl tp gn (bf fl tp gn zs j) (zs.getD j 0)
      have h' : (j : Int) < (60 : Int) := by omega
      have h'' : (0 : Int) ≤ (j : Int) := by omega
      generalize bf fl tp gn zs j = best at *
      generalize zs.getD j 0 = g at *
      rcases hcs with ⟨c1, e⟩ | ⟨c1, c2, e⟩ | ⟨c1, c2, c3, e⟩ | ⟨c1, c2, c3, c4, e⟩ | ⟨c1, c2, c3, c4, c5, e⟩ | ⟨c1, c2, c3, c4, c5, e⟩
      all_goals
        rw [e] at hs
        clear e
        go_wp2
        go_roundw
        case rel => exact ⟨j + 1, by omega, by rw [hs.out], by go_num, bel⟩
        case measure => simp [intOf]; omega
    · obtain rfl : j = 60 := by omega
      have h' : ¬ (60 : Int) < (60 : Int) := by omega
      have hb := basis_calls A 60 c zs fl tp gn wr (by omega) (fun i hi => R1.out _ bel.out i (by omega))
      generalize bf fl tp gn zs 60 = best at *
      go_wp2_with (first
        | (go_at_call 16; (with_reducible refine hb.mono ?_); rintro e w9 ⟨rfl, rfl⟩)
        | (go_at_call 12; (with_reducible refine (awake_calls _).mono ?_); rintro e w6 ⟨rfl, hh⟩))
      go_ret
      exact ⟨rfl, bel.out.trans (hh.out.mono bel.out.size)⟩

theorem bases_law (A : Option Addr) (n c : Nat) (zs : List Int) (fl tp gn : Int) (w : World) (r : Ints w A n c zs) (_ : n * 8 ≤ 140737488351232) (_ : (Lit.int .i64 fl).wf = true) (_ : (Lit.int .i64 tp).wf = true) (_ : (Lit.int .i64 gn).wf = true) :
    Calls Try.prog 6 #[.slice A n c, .int .i64 fl, .int .i64 tp, .int .i64 gn] w fun e w' => e = .returned (.bool true) ∧ Below w.heap.size w w' := by
  have b1 := r.len_le.1
  have R1 : Hid (∀ w', Below w.heap.size w w' → ∀ i, i < n → ∃ x, A = some x ∧ w'.cell? (x.add i) = some (.int .i64 (zs.getD i 0))) := fun w' h i hi => r.at_ h i hi
  by_cases h : n ≤ 60
  · exact bases_few A n c zs fl tp gn w b1 h R1
  · refine bases_many A n c zs fl tp gn w b1 (by omega) ?_ R1
    rcases r with ⟨_, h1, _, _⟩ | ⟨x, _, h1, _⟩
    · omega
    · exact h1

end Go.Proofs.Ytpmbklagjaibgaa.Plan
