/- As many messages are on the way as may be, and no more: the law's own walk. -/
import Derived.Test.YtjfohacibijnoaaLaws1
namespace Go.Proofs.Ytjfohacibijnoaa.Net
open Go.RowKit Go.Proofs.YtjfohacibijnoaaW.PrintWords

theorem full_out (n : Int) (w : World) (h : n < 0 ∨ 20 < n) : Calls Try.prog 4 #[.int .i64 n] w fun e w' => e = .returned (.bool true) ∧ Below w.heap.size w w' := by
  by_cases h1 : n < 0
  · clear h
    go_enter Try.func4, Try.ntmps4
    go_wp2_with (go_at_call 13; (with_reducible refine (awake_calls _).mono ?_); rintro e w9 ⟨rfl, b9⟩)
    go_ret
    exact ⟨rfl, b9.out⟩
  · have h2 : 20 < n := by omega
    clear h
    go_enter Try.func4, Try.ntmps4
    go_wp2_with (go_at_call 13; (with_reducible refine (awake_calls _).mono ?_); rintro e w9 ⟨rfl, b9⟩)
    go_ret
    exact ⟨rfl, b9.out⟩

def X1 : ByteArray := ⟨#[120]⟩
/-- j messages sent -/
def Sent (B : Nat) (w0 w : World) (b c : Nat) (j : Nat) : Prop := ∃ v, In B w0 w b c v (List.replicate (min j 4096) X1) (j : Int) ((j - 4096 : Nat) : Int)
theorem sent_yes {B : Nat} {w0 w : World} {b c j : Nat} (h : Sent B w0 w b c j) (hj : j < 4096) : Calls Try.prog 9 #[.pointer (some ⟨b, 0, none⟩), .string ⟨#[120]⟩] w fun e w' => e = .returned (.bool true) ∧ Hid (Sent B w0 w' b c (j + 1)) := by
  obtain ⟨v, h⟩ := h
  refine (send_in X1 h (by simp; omega) (by omega) (by omega)).mono fun e w' ⟨he, v', h'⟩ => ⟨he, v', ?_⟩
  have h2 : In B w0 w' b c v' (List.replicate (min j 4096) X1 ++ [X1]) ((j : Int) + 1) ((j - 4096 : Nat) : Int) := h'
  rw [show List.replicate (min j 4096) X1 ++ [X1] = List.replicate (min (j + 1) 4096) X1 from by rw [← List.replicate_succ']; congr 1; omega, show (j : Int) + 1 = ((j + 1 : Nat) : Int) from by omega, show j - 4096 = j + 1 - 4096 from by omega] at h2
  exact h2
theorem sent_no {B : Nat} {w0 w : World} {b c j : Nat} (h : Sent B w0 w b c j) (hj : 4096 ≤ j) (hj2 : j ≤ 5000) : Calls Try.prog 9 #[.pointer (some ⟨b, 0, none⟩), .string ⟨#[120]⟩] w fun e w' => e = .returned (.bool false) ∧ Hid (Sent B w0 w' b c (j + 1)) := by
  obtain ⟨v, h⟩ := h
  refine (send_full b c v _ _ _ X1 w h.at_ (by simp; omega) (by omega) (by omega) (by omega) (by omega)).mono fun e w' ⟨he, d⟩ => ⟨he, ?_⟩
  obtain ⟨v', h2⟩ := h.did d
  rw [show min j 4096 = min (j + 1) 4096 from by omega, show (j : Int) + 1 = ((j + 1 : Nat) : Int) from by omega, show ((j - 4096 : Nat) : Int) + 1 = ((j + 1 - 4096 : Nat) : Int) from by omega] at h2
  exact ⟨v', h2⟩

set_option maxHeartbeats 1000000 in
theorem full_in (m : Nat) (w : World) (h : m ≤ 20) : Calls Try.prog 4 #[.int .i64 m] w fun e w' => e = .returned (.bool true) ∧ Below w.heap.size w w' := by
  have hnew := new_in w.heap.size w w (Below.refl _ _) (Nat.le_refl _)
  go_enter Try.func4, Try.ntmps4
  go_wp2_with (first
    | (go_at_call 8; (with_reducible refine hnew.mono ?_); rintro e w1 ⟨b, c, rfl, n1⟩))
  clear hnew
  have s1 : Hid (Sent w.heap.size w w1 b c 0) := ⟨_, n1.out⟩
  generalize hB : w.heap.size = B at *
  have HB : Hid (w.heap.size = B) := hB
  clear hB n1
  go_loopw [4, 5] (fun l i wr => ∃ j : Nat, j ≤ 4096 + m ∧ l = .int .i64 ((j - 4096 : Nat) : Int) ∧ i = .int .i64 j ∧ Hid (Sent B w wr b c j)) (fun _ i _ => 4096 + m - (intOf i).toNat)
  case atStart => exact ⟨0, by omega, rfl, rfl, s1⟩
  case round =>
    obtain ⟨j, hj, rfl, rfl, st⟩ := hrel
    clear s1
    by_cases hlt : j < 4096 + m
    · by_cases h4 : j < 4096
      · go_wp2_with (go_at_call 9; (with_reducible refine (sent_yes st.out h4).mono ?_); rintro e w2 ⟨rfl, st2⟩)
        go_roundw
        case rel => exact ⟨j + 1, by omega, by rw [show j + 1 - 4096 = j - 4096 from by omega], by go_num, st2⟩
        case measure => simp [intOf]; omega
      · have h5 : 4096 ≤ j := by omega
        go_wp2_with (go_at_call 9; (with_reducible refine (sent_no st.out h5 (by omega)).mono ?_); rintro e w2 ⟨rfl, st2⟩)
        go_roundw
        case rel => exact ⟨j + 1, by omega, by rw [show ((j + 1 - 4096 : Nat) : Int) = ((j - 4096 : Nat) : Int) + 1 from by omega], by go_num, st2⟩
        case measure => simp [intOf]; omega
    · obtain rfl : j = 4096 + m := by omega
      obtain ⟨v, n2⟩ := st.out
      rw [show min (4096 + m) 4096 = 4096 from by omega, show 4096 + m - 4096 = m from by omega] at n2
      have hl : (List.replicate 4096 X1).length = 4096 := List.length_replicate
      have hl2 : ((List.replicate 4096 X1).eraseIdx 0).length = 4095 := by rw [List.length_eraseIdx_of_lt (by omega)]; omega
      have hcnt := fun w' (d : In B w w' b c v (List.replicate 4096 X1) ((4096 + m : Nat) : Int) (m : Int)) => counts_at b c v _ _ _ w' d.at_
      have hcopy : ∀ w', In B w w' b c v (List.replicate 4096 X1) ((4096 + m : Nat) : Int) (m : Int) → Calls Try.prog 15 #[.pointer (some ⟨b, 0, none⟩), .int .i64 0] w' fun e w'' => e = .returned (.int .i64 7) ∧ w' = w'' := fun w' d => copy_full b c v _ _ _ 0 w' d.at_ (by omega) (by omega)
      have hdrop : ∀ w', In B w w' b c v (List.replicate 4096 X1) ((4096 + m : Nat) : Int) (m : Int) → Calls Try.prog 16 #[.pointer (some ⟨b, 0, none⟩), .int .i64 0] w' fun e w'' => e = .returned (.int .i64 0) ∧ ∃ v', Hid (In B w w'' b c v' ((List.replicate 4096 X1).eraseIdx 0) ((4096 + m : Nat) : Int) (m : Int)) :=
        fun w' d => (drop_at b c v _ _ _ 0 w' d.at_ (by omega)).mono fun _ _ ⟨he, x⟩ => ⟨he, d.did x⟩
      have N2 : Hid (In B w wr b c v (List.replicate 4096 X1) ((4096 + m : Nat) : Int) (m : Int)) := n2
      have hm1 : ((4096 + m : Nat) : Int) = (4096 : Int) + (m : Int) := by omega
      have HL2 : Hid (((List.replicate 4096 X1).eraseIdx 0).length = 4095) := hl2
      have hlen : ∀ w' v', In B w w' b c v' ((List.replicate 4096 X1).eraseIdx 0) ((4096 + m : Nat) : Int) (m : Int) → Calls Try.prog 11 #[.pointer (some ⟨b, 0, none⟩)] w' fun e w'' => e = .returned (.int .i64 4095) ∧ w' = w'' := by
        intro w' v' d
        have := len_at b c v' _ _ _ w' d.at_
        rw [hl2] at this
        exact this
      have hsend : ∀ w' v', In B w w' b c v' ((List.replicate 4096 X1).eraseIdx 0) ((4096 + m : Nat) : Int) (m : Int) → Calls Try.prog 9 #[.pointer (some ⟨b, 0, none⟩), .string ⟨#[121]⟩] w' fun e w'' => e = .returned (.bool true) ∧ Hid (Below B w w'' ∧ B ≤ w''.heap.size) :=
        fun w' v' d => (send_in ⟨#[121]⟩ d (by omega) (by omega) (by omega)).mono fun _ _ ⟨he, v'', x⟩ => ⟨he, x.out.bel, x.out.size⟩
      rw [hm1] at hcnt
      generalize (List.replicate 4096 X1).eraseIdx 0 = L2 at *
      generalize List.replicate 4096 X1 = L1 at *
      clear n2 hl hl2 st
      go_wp2_with (first
        | (go_at_call 14; (with_reducible refine (hcnt _ N2.out).mono ?_); rintro e w3 ⟨rfl, d3⟩; have n3 : Hid (In B w w3 b c v L1 ((4096 + m : Nat) : Int) (m : Int)) := N2.out.drawn d3; clear d3)
        | (go_at_call 15; (with_reducible refine (hcopy _ n3.out).mono ?_); rintro e w4 ⟨rfl, rfl⟩)
        | (go_at_call 16; (with_reducible refine (hdrop _ n3.out).mono ?_); rintro e w5 ⟨rfl, v5, n5⟩)
        | (go_at_call 11; (with_reducible refine (hlen _ _ n5.out).mono ?_); rintro e w6 ⟨rfl, rfl⟩)
        | (go_at_call 9; (with_reducible refine (hsend _ _ n5.out).mono ?_); rintro e w7 ⟨rfl, n7⟩)
        | (go_at_call 13; (with_reducible refine (awake_calls _).mono ?_); rintro e w9 ⟨rfl, b9⟩))
      go_ret
      refine ⟨rfl, ?_⟩
      rw [HB.out]
      exact n7.out.1.trans (b9.out.mono n7.out.2)
theorem full_law (n : Int) (w : World) (_ : (Lit.int .i64 n).wf = true) : Calls Try.prog 4 #[.int .i64 n] w fun e w' => e = .returned (.bool true) ∧ Below w.heap.size w w' := by
  by_cases h : n < 0 ∨ 20 < n
  · exact full_out n w h
  · obtain ⟨m, rfl⟩ := Int.eq_ofNat_of_zero_le (show 0 ≤ n by omega)
    exact full_in m w (by omega)
end Go.Proofs.Ytjfohacibijnoaa.Net
