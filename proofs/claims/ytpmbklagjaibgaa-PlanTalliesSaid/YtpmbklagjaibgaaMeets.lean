/- The law of two tallies of one number. -/
import Derived.Test.YtpmbklagjaibgaaTally
namespace Go.Proofs.Ytpmbklagjaibgaa.Plan
open Go.RowKit Go.Proofs.YtpmbklagjaibgaaW.PrintWords

/-- a list of numbers that came in, read through its slice -/
def Ints (w : World) (a : Option Addr) (len cap : Nat) (zs : List Int) : Prop :=
  (a = none ∧ len = 0 ∧ cap = 0 ∧ zs = []) ∨
  ∃ x, a = some x ∧ len ≤ cap ∧ cap ≤ maxLen ∧ zs.length = cap ∧ (∀ i, i < zs.length → w.cell? (x.add i) = some (.int .i64 (zs.getD i 0))) ∧ ∀ n ∈ zs, (Lit.int .i64 n).wf = true
theorem Ints.len_le {w : World} {a : Option Addr} {len cap : Nat} {zs : List Int} (h : Ints w a len cap zs) : len ≤ 9223372036854775807 ∧ len ≤ zs.length := by
  rcases h with ⟨_, rfl, _, rfl⟩ | ⟨x, _, h1, h2, h3, _⟩
  · simp
  · simp only [maxLen] at h2; omega
theorem Ints.at_ {w w' : World} {a : Option Addr} {len cap : Nat} {zs : List Int} (h : Ints w a len cap zs) (hb : Below w.heap.size w w') (i : Nat) (hi : i < len) : ∃ x, a = some x ∧ w'.cell? (x.add i) = some (.int .i64 (zs.getD i 0)) := by
  rcases h with ⟨_, rfl, _, rfl⟩ | ⟨x, e, h1, h2, h3, h4, _⟩
  · omega
  · exact ⟨x, e, pw_cell_below hb (h4 i (by omega))⟩
theorem Ints.wf {w : World} {a : Option Addr} {len cap : Nat} {zs : List Int} (h : Ints w a len cap zs) (i : Nat) (hi : i < len) : (Lit.int .i64 (zs.getD i 0)).wf = true := by
  rcases h with ⟨_, rfl, _, rfl⟩ | ⟨x, e, h1, h2, h3, _, h4⟩
  · omega
  · exact h4 _ (by rw [List.getD_eq_getElem?_getD, List.getElem?_eq_getElem (by omega : i < zs.length)]; exact List.getElem_mem _)

/-- whom a tally has once one more is added -/
def put (n : Nat) (S : Nat → Bool) (i : Int) : Nat → Bool := fun k => S k || (decide (0 ≤ i ∧ i < n) && (k : Int) == i)
theorem put_no {n : Nat} {S : Nat → Bool} {i : Int} (h : ¬ (0 ≤ i ∧ i < n)) : put n S i = S := by funext k; simp [put, h]
theorem add_any (b n : Nat) (S : Nat → Bool) (i : Int) (w : World) (t : Tal w b n S) :
    Calls Try.prog 17 #[.pointer (some ⟨b, 0, none⟩), .int .i64 i] w fun e w' => e = .returned (.bool (decide (0 ≤ i ∧ i < n))) ∧ Hid (Tal w' b n (put n S i) ∧ w'.heap.size = w.heap.size ∧ w'.os = w.os ∧ w'.tape = w.tape ∧ w'.output = w.output ∧ ∀ k, k ≠ b → w'.heap[k]? = w.heap[k]?) := by
  by_cases h : 0 ≤ i ∧ i < n
  · obtain ⟨j, rfl⟩ := Int.eq_ofNat_of_zero_le h.1
    have hj : j < n := by omega
    refine (add_at b n S j w t hj).mono ?_
    rintro e w' ⟨rfl, rfl⟩
    refine ⟨by simp [hj], ?_, by simp [World.setCell], rfl, rfl, rfl, fun k hk => Below.heap_setCell _ _ _ _ hk⟩
    have := t.set j (by have := t.le; omega)
    have e : put n S (j : Int) = fun k => S k || k == j := by
      funext k
      show (S k || (decide (0 ≤ (j : Int) ∧ (j : Int) < n) && (k : Int) == (j : Int))) = _
      rw [decide_eq_true h, Bool.true_and]
      congr 1
      rw [Bool.eq_iff_iff]
      simp
      omega
    rw [e]
    exact this
  · refine (add_no b n S i w t h).mono ?_
    rintro e w' ⟨rfl, rfl⟩
    exact ⟨by simp [h], by rw [put_no h]; exact t, rfl, rfl, rfl, rfl, fun _ _ => rfl⟩

/-- two tallies that the call itself made -/
structure Two (w wr : World) (n : Nat) (S T : Nat → Bool) : Prop where
  s : Tal wr w.heap.size n S
  t : Tal wr (w.heap.size + 1) n T
  bel : Below w.heap.size w wr
theorem add_s (n : Nat) (S T : Nat → Bool) (i : Int) (w wr : World) (h : Two w wr n S T) :
    Calls Try.prog 17 #[.pointer (some ⟨w.heap.size, 0, none⟩), .int .i64 i] wr fun e w' => e = .returned (.bool (decide (0 ≤ i ∧ i < n))) ∧ ∃ S', Hid (Two w w' n S' T) := by
  refine (add_any _ n S i wr h.s).mono ?_
  rintro e w' ⟨he, h1, h2, h3, h4, h5, h6⟩
  exact ⟨he, _, h1, h.t.same (h6 _ (by omega)), h.bel.trans ⟨h3, h4, h5, by omega, fun k hk => h6 k (by omega)⟩⟩
theorem add_t (n : Nat) (S T : Nat → Bool) (i : Int) (w wr : World) (h : Two w wr n S T) :
    Calls Try.prog 17 #[.pointer (some ⟨w.heap.size + 1, 0, none⟩), .int .i64 i] wr fun e w' => e = .returned (.bool (decide (0 ≤ i ∧ i < n))) ∧ ∃ T', Hid (Two w w' n S T') := by
  refine (add_any _ n T i wr h.t).mono ?_
  rintro e w' ⟨he, h1, h2, h3, h4, h5, h6⟩
  exact ⟨he, _, h.s.same (h6 _ (by omega)), h1, h.bel.trans ⟨h3, h4, h5, by omega, fun k hk => h6 k (by omega)⟩⟩
theorem Two.drewN {w wr : World} {n : Nat} {S T : Nat → Bool} (h : Two w wr n S T) (q : Nat) : Two w (wr.drewN q) n S T := ⟨h.s.same rfl, h.t.same rfl, h.bel.trans ⟨rfl, rfl, rfl, Nat.le_refl _, fun _ _ => rfl⟩⟩

/-- more than half and more than half are more than all -/
theorem meet (n : Nat) (S T : Nat → Bool) (hn : n ≤ 9) (hs : n / 2 + 1 ≤ cnt n S 9) (ht : n / 2 + 1 ≤ cnt n T 9) (hno : ∀ k, k < 9 → ((decide (k < n) && S k) && (decide (k < n) && T k)) = false) : False := by
  have key : ∀ k, k ≤ 9 → cnt n S k + cnt n T k ≤ min k n := by
    intro k
    induction k with
    | zero => intro _; simp [cnt]
    | succ k ih =>
      intro hk
      have h1 := ih (by omega)
      have h2 := hno k (by omega)
      simp only [cnt]
      by_cases hkn : k < n
      · simp only [hkn, decide_true, Bool.true_and] at h2 ⊢
        cases h3 : S k <;> cases h4 : T k <;> simp_all <;> omega
      · simp only [hkn, decide_false, Bool.false_and]
        simp
        omega
  have := key 9 (by omega)
  omega

def wonB (n : Nat) (S : Nat → Bool) : Bool := decide (0 < n) && decide (cnt n S 9 ≥ n / 2 + 1)
theorem won_s (m : Nat) (S T : Nat → Bool) (w wr : World) (h : Two w wr m S T) : Calls Try.prog 20 #[.pointer (some ⟨w.heap.size, 0, none⟩)] wr fun e w' => e = .returned (.bool (wonB m S)) ∧ Hid (Two w w' m S T) := by
  refine (won_at _ m S wr h.s).mono ?_
  rintro e w' ⟨he, q, rfl⟩
  exact ⟨he, h.drewN q⟩
theorem won_t (m : Nat) (S T : Nat → Bool) (w wr : World) (h : Two w wr m S T) : Calls Try.prog 20 #[.pointer (some ⟨w.heap.size + 1, 0, none⟩)] wr fun e w' => e = .returned (.bool (wonB m T)) ∧ Hid (Two w w' m S T) := by
  refine (won_at _ m T wr h.t).mono ?_
  rintro e w' ⟨he, q, rfl⟩
  exact ⟨he, h.drewN q⟩
theorem new_s (n : Int) (w : World) (hw : (Lit.int .i64 n).wf = true) : Calls Try.prog 21 #[.int .i64 n] w fun e w' => e = .returned (.pointer (some ⟨w.heap.size, 0, none⟩)) ∧ Hid (Tal w' w.heap.size (some_ n) (fun _ => false) ∧ Below w.heap.size w w' ∧ w'.heap.size = w.heap.size + 1) := new_calls n w hw
theorem new_t (n : Int) (w w1 : World) (hw : (Lit.int .i64 n).wf = true) (h : Tal w1 w.heap.size (some_ n) (fun _ => false) ∧ Below w.heap.size w w1 ∧ w1.heap.size = w.heap.size + 1) :
    Calls Try.prog 21 #[.int .i64 n] w1 fun e w' => e = .returned (.pointer (some ⟨w.heap.size + 1, 0, none⟩)) ∧ Hid (Two w w' (some_ n) (fun _ => false) (fun _ => false)) := by
  obtain ⟨h1, h2, h3⟩ := h
  refine (new_calls n w1 hw).mono ?_
  rintro e w' ⟨he, k1, k2, k3⟩
  rw [h3] at he k1
  exact ⟨he, h1.same (k2.block _ (by omega)), k1, h2.trans (k2.mono (by omega))⟩

set_option maxRecDepth 100000 in
set_option maxHeartbeats 1000000 in
theorem meets_law (n : Int) (a : Option Addr) (len cap : Nat) (zs : List Int) (a2 : Option Addr) (len2 cap2 : Nat) (zs2 : List Int) (w : World) (hn : (Lit.int .i64 n).wf = true) (r1 : Ints w a len cap zs) (_ : len * 8 ≤ 140737488351232) (r2 : Ints w a2 len2 cap2 zs2) (_ : len2 * 8 ≤ 140737488351232) :
    Calls Try.prog 9 #[.int .i64 n, .slice a len cap, .slice a2 len2 cap2] w fun e w' => e = .returned (.bool true) ∧ Below w.heap.size w w' := by
  have b1 := r1.len_le.1
  have b2 := r2.len_le.1
  have R1 : Hid (∀ w', Below w.heap.size w w' → ∀ i, i < len → ∃ x, a = some x ∧ w'.cell? (x.add i) = some (.int .i64 (zs.getD i 0))) := fun w' h i hi => r1.at_ h i hi
  have R2 : Hid (∀ w', Below w.heap.size w w' → ∀ i, i < len2 → ∃ x, a2 = some x ∧ w'.cell? (x.add i) = some (.int .i64 (zs2.getD i 0))) := fun w' h i hi => r2.at_ h i hi
  have hnew := new_s n w hn
  clear r1 r2
  go_enter Try.func9, Try.ntmps9
  go_wp2_with (first
    | (go_at_call 21; (with_reducible refine hnew.mono ?_); rintro e w1 ⟨rfl, n1⟩)
    | (go_at_call 21; (with_reducible refine (new_t n w _ hn n1.out).mono ?_); rintro e w2 ⟨rfl, n2⟩))
  clear hnew n1
  generalize hm : some_ n = m at *
  go_loopw [9] (fun i wr => ∃ (j : Nat) (S : Nat → Bool), j ≤ len ∧ j ≤ 60 ∧ i = .int .i64 j ∧ Hid (Two w wr m S (fun _ => false))) (fun i _ => 60 - (intOf i).toNat)
  case atStart => exact ⟨0, _, by omega, by omega, rfl, n2⟩
  case round =>
    obtain ⟨j, S, hj, hj2, rfl, st⟩ := hrel
    clear n2
    by_cases hlt : j < len ∧ j < 60
    · obtain ⟨h1, h2⟩ := hlt
      obtain ⟨ad, rfl, hc⟩ := R1.out wr st.out.bel j h1
      have hadd := add_s m S _ (zs.getD j 0) w wr st.out
      generalize zs.getD j 0 = z at *
      go_wp2_with (go_at_call 17; (with_reducible refine hadd.mono ?_); rintro e w3 ⟨rfl, S3, st3⟩)
      go_roundw
      case rel => exact ⟨j + 1, S3, by omega, by omega, by go_num, st3⟩
      case measure => simp [intOf]; omega
    · by_cases c1 : j < len
      all_goals
        go_wp2
        go_loopw [10] (fun i wr => ∃ (j : Nat) (T : Nat → Bool), j ≤ len2 ∧ j ≤ 60 ∧ i = .int .i64 j ∧ Hid (Two w wr m S T)) (fun i _ => 60 - (intOf i).toNat)
        case atStart => exact ⟨0, _, by omega, by omega, rfl, st⟩
        case round =>
          obtain ⟨k, T, hk, hk2, rfl, st4⟩ := hrel
          clear st
          by_cases hlt2 : k < len2 ∧ k < 60
          · obtain ⟨h1, h2⟩ := hlt2
            obtain ⟨ad, rfl, hc⟩ := R2.out wr st4.out.bel k h1
            have hadd := add_t m S T (zs2.getD k 0) w wr st4.out
            generalize zs2.getD k 0 = z at *
            go_wp2_with (go_at_call 17; (with_reducible refine hadd.mono ?_); rintro e w3 ⟨rfl, T3, st3⟩)
            go_roundw
            case rel => exact ⟨k + 1, T3, by omega, by omega, by go_num, st3⟩
            case measure => simp [intOf]; omega
          · have hv1 : Hid (wonB m S = true → m / 2 + 1 ≤ cnt m S 9) := by show _ → _; intro h; unfold wonB at h; simp at h; omega
            have hv2 : Hid (wonB m T = true → m / 2 + 1 ≤ cnt m T 9) := by show _ → _; intro h; unfold wonB at h; simp at h; omega
            have hw1 : ∀ wr, Hid (Two w wr m S T) → _ := fun wr h => won_s m S T w wr h.out
            have hw2 : ∀ wr, Hid (Two w wr m S T) → _ := fun wr h => won_t m S T w wr h.out
            generalize wonB m S = v1 at *
            generalize wonB m T = v2 at *
            by_cases c2 : k < len2
            all_goals
              cases v1
              · go_wp2_with (first
                  | (go_at_call 20; (with_reducible refine (hw1 _ st4).mono ?_); rintro e w5 ⟨rfl, st5⟩)
                  | (go_at_call 12; (with_reducible refine (awake_calls _).mono ?_); rintro e w6 ⟨rfl, hh⟩))
                go_ret
                exact ⟨rfl, st5.out.bel.trans (hh.out.mono st5.out.bel.size)⟩
              · cases v2
                · go_wp2_with (first
                    | (go_at_call 20; (with_reducible refine (hw1 _ st4).mono ?_); rintro e w5 ⟨rfl, st5⟩)
                    | (go_at_call 20; (with_reducible refine (hw2 _ st5).mono ?_); rintro e w7 ⟨rfl, st7⟩)
                    | (go_at_call 12; (with_reducible refine (awake_calls _).mono ?_); rintro e w6 ⟨rfl, hh⟩))
                  go_ret
                  exact ⟨rfl, st7.out.bel.trans (hh.out.mono st7.out.bel.size)⟩
                · go_wp2_with (first
                    | (go_at_call 20; (with_reducible refine (hw1 _ st4).mono ?_); rintro e w5 ⟨rfl, st5⟩)
                    | (go_at_call 20; (with_reducible refine (hw2 _ st5).mono ?_); rintro e w7 ⟨rfl, st7⟩))
                  go_loopw [11] (fun i wr => ∃ (j : Nat), j ≤ 9 ∧ i = .int .i64 j ∧ Hid (Two w wr m S T) ∧ Hid (∀ k, k < j → ((decide (k < m) && S k) && (decide (k < m) && T k)) = false)) (fun i _ => 9 - (intOf i).toNat)
                  case atStart => exact ⟨0, by omega, rfl, st7, fun k hk => absurd hk (by omega)⟩
                  case round =>
                    obtain ⟨q, hq, rfl, st8, hno⟩ := hrel
                    clear st4 st5 st7 hw1 hw2
                    by_cases h9 : (q : Int) < 9
                    · have ha := has_any _ m S q wr st8.out.s
                      have hb := has_any _ m T q wr st8.out.t
                      have hno' : Hid (((decide (q < m) && S q) && (decide (q < m) && T q)) = false → ∀ k, k < q + 1 → ((decide (k < m) && S k) && (decide (k < m) && T k)) = false) := by
                        show _ → _
                        intro h k hk
                        rcases Nat.lt_or_ge k q with hl | hl
                        · exact hno.out k hl
                        · obtain rfl : k = q := by omega
                          exact h
                      generalize (decide (q < m) && S q) = x1 at *
                      generalize (decide (q < m) && T q) = x2 at *
                      cases x1
                      · go_wp2_with (first
                          | (go_at_call 18; (with_reducible refine ha.mono ?_); rintro e w9 ⟨rfl, rfl⟩))
                        go_roundw
                        case rel => exact ⟨q + 1, by omega, by go_num, st8, hno'.out (by simp)⟩
                        case measure => simp [intOf]; omega
                      · cases x2
                        · go_wp2_with (first
                            | (go_at_call 18; (with_reducible refine ha.mono ?_); rintro e w9 ⟨rfl, rfl⟩)
                            | (go_at_call 18; (with_reducible refine hb.mono ?_); rintro e w9 ⟨rfl, rfl⟩))
                          go_roundw
                          case rel => exact ⟨q + 1, by omega, by go_num, st8, hno'.out (by simp)⟩
                          case measure => simp [intOf]; omega
                        · go_wp2_with (first
                            | (go_at_call 18; (with_reducible refine ha.mono ?_); rintro e w9 ⟨rfl, rfl⟩)
                            | (go_at_call 18; (with_reducible refine hb.mono ?_); rintro e w9 ⟨rfl, rfl⟩)
                            | (go_at_call 12; (with_reducible refine (awake_calls _).mono ?_); rintro e w6 ⟨rfl, hh⟩))
                          go_ret
                          exact ⟨rfl, st8.out.bel.trans (hh.out.mono st8.out.bel.size)⟩
                    · exact (meet m S T st8.out.s.le (hv1.out (by simp)) (hv2.out (by simp)) (fun k hk => hno.out k (by omega))).elim

end Go.Proofs.Ytpmbklagjaibgaa.Plan
