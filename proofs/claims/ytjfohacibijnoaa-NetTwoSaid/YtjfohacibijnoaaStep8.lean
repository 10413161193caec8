/- What any step of the script does; that a net stands as its plain list does. -/
import Derived.Test.YtjfohacibijnoaaStep2
import Derived.Test.YtjfohacibijnoaaStep3
import Derived.Test.YtjfohacibijnoaaStep7
namespace Go.Proofs.Ytjfohacibijnoaa.Net
open Go.RowKit Go.Proofs.YtjfohacibijnoaaW.PrintWords

theorem step_any (K N M Y : Int) (T : ByteArray) (b c : Nat) (v lv : Value) (L : List ByteArray) (x y : Int) (w : World) (st : Sc w b c v L x y lv) (hL : L.length ≤ 1000) (x0 : 0 ≤ x) (x1 : x ≤ 1000000) :
    Calls Try.prog 17 #[.pointer (some ⟨b, 0, none⟩), lv, .agg #[.int .i64 K, .int .i64 N, .int .i64 M, .int .i64 Y, .string T]] w fun e w' => ∃ lv', e = .returned (.tuple #[lv', .bool true]) ∧
      Hid (∃ L', Stp w b c v lv w' lv' L' (if K = 0 then x + 1 else x) y ∧ L'.length ≤ L.length + 1) := by
  show Calls Try.prog 17 #[.pointer (some ⟨b, 0, none⟩), lv, .agg (opv K N M Y T)] w _
  by_cases k0 : K = 0
  · subst k0
    refine (step_send N M Y T b c v lv L x y w st (by omega) x0 x1).mono ?_
    rintro e w' ⟨lv', rfl, s, h⟩
    exact ⟨lv', rfl, L ++ [s], by rw [if_pos rfl]; exact h.out, by simp⟩
  have KEEP : ∀ {Q : Ending → World → Prop}, True → True := fun _ => trivial
  simp only [if_neg k0]
  by_cases k1 : K = 1
  · subst k1
    by_cases hN : 0 ≤ N ∧ N < L.length
    · refine (step_take_in N M Y T b c v lv L x y w st hN (by omega)).mono ?_
      rintro e w' ⟨lv', rfl, h⟩
      exact ⟨lv', rfl, _, h.out, by have := List.length_eraseIdx_le L N.toNat; omega⟩
    · refine (step_take_out N M Y T b c v lv L x y w st hN).mono ?_
      rintro e w' ⟨lv', rfl, h⟩
      exact ⟨lv', rfl, _, h.out, by omega⟩
  by_cases k2 : K = 2
  · subst k2
    by_cases hN : 0 ≤ N ∧ N < L.length
    · refine (step_drop_in N M Y T b c v lv L x y w st hN (by omega)).mono ?_
      rintro e w' ⟨lv', rfl, h⟩
      exact ⟨lv', rfl, _, h.out, by have := List.length_eraseIdx_le L N.toNat; omega⟩
    · refine (step_drop_out N M Y T b c v lv L x y w st hN).mono ?_
      rintro e w' ⟨lv', rfl, h⟩
      exact ⟨lv', rfl, _, h.out, by omega⟩
  by_cases k3 : K = 3
  · subst k3
    by_cases hN : 0 ≤ N ∧ N < L.length
    · refine (step_copy_in N M Y T b c v lv L x y w st hN (by omega)).mono ?_
      rintro e w' ⟨lv', rfl, h⟩
      exact ⟨lv', rfl, _, h.out, by simp⟩
    · refine (step_copy_out N M Y T b c v lv L x y w st hN).mono ?_
      rintro e w' ⟨lv', rfl, h⟩
      exact ⟨lv', rfl, _, h.out, by omega⟩
  by_cases k4 : K = 4
  · subst k4
    by_cases hN : 0 ≤ N ∧ N < L.length
    · obtain ⟨i, rfl⟩ := Int.eq_ofNat_of_zero_le hN.1
      have hi : i < L.length := by omega
      by_cases hM : 0 ≤ M ∧ M < (L[i].size : Int)
      · obtain ⟨k, rfl⟩ := Int.eq_ofNat_of_zero_le hM.1
        refine (step_bend_in i k Y T b c v lv L x y w st hi (by omega) _ rfl (by omega)).mono ?_
        rintro e w' ⟨lv', rfl, h⟩
        exact ⟨lv', rfl, _, h.out, by simp⟩
      · refine (step_bend_far i M Y T b c v lv L x y w st hN (fun h => by simpa using hM)).mono ?_
        rintro e w' ⟨lv', rfl, h⟩
        exact ⟨lv', rfl, _, h.out, by omega⟩
    · refine (step_bend_out N M Y T b c v lv L x y w st hN).mono ?_
      rintro e w' ⟨lv', rfl, h⟩
      exact ⟨lv', rfl, _, h.out, by omega⟩
  by_cases k5 : K = 5
  · subst k5
    by_cases hN : 0 ≤ N ∧ N < L.length
    · by_cases hM : 0 ≤ M ∧ M < L.length
      · refine (step_swap_in N M Y T b c v lv L x y w st hN hM (by omega)).mono ?_
        rintro e w' ⟨lv', rfl, h⟩
        exact ⟨lv', rfl, _, h.out, by simp⟩
      · refine (step_swap_out2 N M Y T b c v lv L x y w st hN hM).mono ?_
        rintro e w' ⟨lv', rfl, h⟩
        exact ⟨lv', rfl, _, h.out, by omega⟩
    · refine (step_swap_out N M Y T b c v lv L x y w st hN).mono ?_
      rintro e w' ⟨lv', rfl, h⟩
      exact ⟨lv', rfl, _, h.out, by omega⟩
  by_cases k7 : K = 7
  · subst k7
    by_cases hN : 0 ≤ N ∧ N < L.length
    · refine (step_peek_in N M Y T b c v lv L x y w st hN).mono ?_
      rintro e w' ⟨lv', rfl, h⟩
      exact ⟨lv', rfl, _, h.out, by omega⟩
    · refine (step_peek_out N M Y T b c v lv L x y w st hN).mono ?_
      rintro e w' ⟨lv', rfl, h⟩
      exact ⟨lv', rfl, _, h.out, by omega⟩
  refine (step_clear K N M Y T b c v lv L x y w st (by simpa using k0) (by simpa using k1) (by simpa using k2) (by simpa using k3) (by simpa using k4) (by simpa using k5) (by simpa using k7)).mono ?_
  rintro e w' ⟨lv', rfl, h⟩
  exact ⟨lv', rfl, _, h.out, by simp⟩

theorem stands_at (b c : Nat) (v lv : Value) (L : List ByteArray) (x y : Int) (w : World) (st : Sc w b c v L x y lv) :
    Calls Try.prog 18 #[.pointer (some ⟨b, 0, none⟩), lv] w fun e w' => e = .returned (.bool true) ∧ Hid (Below w.heap.size w w') := by
  obtain ⟨A, c0, rfl, hc0, hC⟩ := id st.lst
  have hl := fun w st => len_at b c v L x y w st
  have hlen : L.length ≤ 9223372036854775807 := hC.2.1
  have ST : Hid (Sc w b c v L x y (.slice A L.length c0)) := st
  clear st hC
  go_enter Try.func18, Try.ntmps18
  go_wp2_with (go_at_call 11; (with_reducible refine (hl _ ST.out.at_).mono ?_); rintro e w' ⟨rfl, rfl⟩)
  have B0 : Hid (Below w.heap.size w w) := Below.refl _ _
  go_loopw [5] (fun i wr => ∃ j : Nat, j ≤ L.length ∧ i = .int .i64 j ∧ Hid (Below w.heap.size w wr)) (fun i _ => L.length - (intOf i).toNat)
  case atStart => exact ⟨0, Nat.zero_le _, rfl, B0⟩
  case round =>
    obtain ⟨j, hj, rfl, bel⟩ := hrel
    clear B0
    by_cases hlt : j < L.length
    · have sc : Hid (Sc wr b c v L x y (.slice A L.length c0)) := ST.out.below bel.out
      have hp := peek_at b c v L x y j wr sc.out.at_ hlt
      obtain ⟨ad, rfl, hc⟩ : ∃ ad, A = some ad ∧ wr.cell? (ad.add j) = some (.string L[j]) := by
        obtain ⟨A', c', e, _, h2⟩ := sc.out.lst
        cases e
        exact C_str h2 j hlt
      have j1 : (j : Int) < (L.length : Int) := by omega
      have j2 : 0 ≤ (j : Int) := by omega
      generalize L[j] = s at *
      have hss : (s.toList != s.toList) = false := by simp
      go_wp2_with (go_at_call 19; (with_reducible refine hp.mono ?_); rintro e w' ⟨rfl, rfl⟩)
      go_roundw
      case rel => exact ⟨j + 1, by omega, by go_num, bel⟩
      case measure => simp [intOf]; omega
    · have j1 : ¬ (j : Int) < (L.length : Int) := by omega
      go_wp2
      go_ret
      exact ⟨rfl, bel⟩
end Go.Proofs.Ytjfohacibijnoaa.Net
