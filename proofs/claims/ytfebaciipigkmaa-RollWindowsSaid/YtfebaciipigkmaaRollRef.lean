/- What the document's weak sum and the law's cut do, as calls. -/
import Derived.Test.YtfebaciipigkmaaRollSkip
namespace Go.Proofs.Ytfebaciipigkmaa.Roll
open Go.RowKit Go.Proofs.Ytfebaciipigkmaa.PRollEnds Go.Proofs.YtfebaciipigkmaaW.PrintWords Go.Proofs.YtfebaciipigkmaaW.PrintLast Go.Proofs.YtfebaciipigkmaaW.PrintMore Go.Proofs.Ytfebaciipigkmaa.RollMath

theorem ref_sum_l (s : ByteArray) (hn : s.size ≤ 1048576) (d : Nat) : ∀ (k i : Nat), i ≤ s.size → s.size - i = d → d < k →
    barqueref04_Sum.l0 k s (sA (bs s) i % 65536) (sC (bs s) (s.size : Int) i % 65536) (i : Int) = some (weak (bs s) s.size) := by
  induction d with
  | zero =>
    intro k i h1 hd hk
    obtain ⟨k, rfl⟩ : ∃ m, k = m + 1 := ⟨k - 1, by omega⟩
    obtain rfl : i = s.size := by omega
    have e : wrap64 (65536 * (sB (bs s) s.size % 65536)) = sB (bs s) s.size % 65536 * 65536 := w64e (by omega) (by omega) (by omega)
    have e2 : wrap64 (sA (bs s) s.size % 65536 + sB (bs s) s.size % 65536 * 65536) = weak (bs s) s.size := w64e rfl (by unfold weak; omega) (by unfold weak; omega)
    simp only [barqueref04_Sum.l0]; rw [if_neg (by omega), ← sB_sC, e, e2]
  | succ d ih =>
    intro k i h1 hd hk
    obtain ⟨k, rfl⟩ : ∃ m, k = m + 1 := ⟨k - 1, by omega⟩
    have a3 := bs_bd s i
    have c1 : (i : Int) < (s.size : Int) := by omega
    have c2 : 0 ≤ (i : Int) := by omega
    have c3 : (i : Int) + 1 = ((i + 1 : Nat) : Int) := by omega
    have s1 : sA (bs s) (i + 1) = sA (bs s) i + bs s i := rfl
    have s2 : sC (bs s) (s.size : Int) (i + 1) = sC (bs s) (s.size : Int) i + ((s.size : Int) - (i : Int)) * bs s i := rfl
    have p0 : 0 ≤ ((s.size : Int) - (i : Int)) % 65536 * bs s i := Int.mul_nonneg (by omega) a3.1
    have p1 : ((s.size : Int) - (i : Int)) % 65536 * bs s i ≤ 65536 * 255 := Int.mul_le_mul (by omega) a3.2 a3.1 (by omega)
    have p2 := mul_mod1 ((s.size : Int) - (i : Int)) (bs s i)
    have i1 : -9223372036854775808 ≤ bs s i ∧ bs s i ≤ 9223372036854775807 := by omega
    have i4 : -9223372036854775808 ≤ ((i + 1 : Nat) : Int) ∧ ((i + 1 : Nat) : Int) ≤ 9223372036854775807 := by omega
    have i2 : -9223372036854775808 ≤ sA (bs s) i % 65536 + bs s i ∧ sA (bs s) i % 65536 + bs s i ≤ 9223372036854775807 := by omega
    have n2 : 0 ≤ sA (bs s) i % 65536 + bs s i := by omega
    have m2 : (sA (bs s) i % 65536 + bs s i) % 65536 = sA (bs s) (i + 1) % 65536 := by omega
    have i0 : -9223372036854775808 ≤ (s.size : Int) - (i : Int) ∧ (s.size : Int) - (i : Int) ≤ 9223372036854775807 := by omega
    have n0 : 0 ≤ (s.size : Int) - (i : Int) := by omega
    have i3 : -9223372036854775808 ≤ ((s.size : Int) - (i : Int)) % 65536 * bs s i ∧ ((s.size : Int) - (i : Int)) % 65536 * bs s i ≤ 9223372036854775807 := by omega
    have i5 : -9223372036854775808 ≤ sC (bs s) (s.size : Int) i % 65536 + ((s.size : Int) - (i : Int)) % 65536 * bs s i ∧ sC (bs s) (s.size : Int) i % 65536 + ((s.size : Int) - (i : Int)) % 65536 * bs s i ≤ 9223372036854775807 := by omega
    have n5 : 0 ≤ sC (bs s) (s.size : Int) i % 65536 + ((s.size : Int) - (i : Int)) % 65536 * bs s i := by omega
    have m5 : (sC (bs s) (s.size : Int) i % 65536 + ((s.size : Int) - (i : Int)) % 65536 * bs s i) % 65536 = sC (bs s) (s.size : Int) (i + 1) % 65536 := by omega
    have H := ih k (i + 1) (by omega) (by omega) (by omega)
    have e1 : wrap64 (bt s (i : Int)) = bs s i := w64e rfl i1.1 i1.2
    simp only [barqueref04_Sum.l0]
    rw [if_pos c1, if_pos c2, e1, w64 i2.1 i2.2, tm n2, m2, w64 i0.1 i0.2, tm n0, w64 i3.1 i3.2, w64 i5.1 i5.2, tm n5, m5, w64e c3 i4.1 i4.2]
    exact H

theorem ref_calls (s : ByteArray) (hn : s.size ≤ 1048576) (w : World) : Calls Try.prog 13 #[.string s] w fun e w' => e = .returned (.int .i64 (wk s s.size 0)) ∧ Drawn0 w w' :=
  barqueref04_Sum.calls (s.size + 1) s _ w ((ref_sum_l s hn s.size (s.size + 1) 0 (by omega) (by omega) (by omega)).trans (by unfold wk; rw [Wi_zero]))

theorem cut_tells (s : ByteArray) (n : Nat) : ∃ t, barquelaw04_cut.f s (n : Int) = some t ∧ t.size ≤ n := by
  unfold barquelaw04_cut.f
  by_cases h : (s.size : Int) > (n : Int)
  · rw [if_pos h, if_pos (by omega), if_pos (by omega)]
    exact ⟨_, rfl, by rw [ByteArray.size_extract]; omega⟩
  · rw [if_neg h]
    exact ⟨s, rfl, by omega⟩
theorem cut_calls (s : ByteArray) (n : Nat) : ∃ t : ByteArray, t.size ≤ n ∧ ∀ w : World, Calls Try.prog 11 #[.string s, .int .i64 n] w fun e w' => e = .returned (.string t) ∧ Drawn0 w w' := by
  obtain ⟨t, ht, hs⟩ := cut_tells s n
  exact ⟨t, hs, fun w => barquelaw04_cut.calls s n t w ht⟩
end Go.Proofs.Ytfebaciipigkmaa.Roll
