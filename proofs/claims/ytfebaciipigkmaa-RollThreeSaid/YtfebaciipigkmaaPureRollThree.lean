/- RollThree as a statement about numbers: sums joined in either order are one, and what can not be is refused. -/
import Derived.Test.YtfebaciipigkmaaPRollThreex1
import Derived.Test.YtfebaciipigkmaaRollMath
namespace Go.Proofs.Ytfebaciipigkmaa.Pure
open Go.RowKit Go.Proofs.Ytfebaciipigkmaa.PRollThree Go.Proofs.YtfebaciipigkmaaW.PrintWords Go.Proofs.YtfebaciipigkmaaW.PrintLast Go.Proofs.Ytfebaciipigkmaa.RollMath

namespace RollThreeW
def bs (s : ByteArray) : Nat → Int := fun i => bt s (i : Int)
theorem bs_bd (s : ByteArray) : ∀ i, 0 ≤ bs s i ∧ bs s i ≤ 255 := fun i => bt_range s (i : Int)
theorem w64 {x : Int} (h : -9223372036854775808 ≤ x) (h' : x ≤ 9223372036854775807) : wrap64 x = x := by unfold wrap64; omega
theorem w64e {x y : Int} (e : x = y) (h : -9223372036854775808 ≤ y) (h' : y ≤ 9223372036854775807) : wrap64 x = y := by subst e; exact w64 h h'
theorem tm {x : Int} (h : 0 ≤ x) : Int.tmod x 65536 = x % 65536 := Int.tmod_eq_emod_of_nonneg h
theorem td {x : Int} (h : 0 ≤ x) : Int.tdiv x 65536 = x / 65536 := Int.tdiv_eq_ediv_of_nonneg h

theorem roll_sum_l (s : ByteArray) (hn : s.size ≤ 1048576) (d : Nat) : ∀ (k i : Nat), i ≤ s.size → s.size - i = d → d < k →
    roll_Sum.l0 k s (sA (bs s) i) (sB (bs s) i) (s.size : Int) (i : Int) = some (weak (bs s) s.size) := by
  induction d with
  | zero =>
    intro k i h1 hd hk
    obtain ⟨k, rfl⟩ : ∃ m, k = m + 1 := ⟨k - 1, by omega⟩
    obtain rfl : i = s.size := by omega
    have a1 := sA_bd (bs_bd s) s.size
    have a2 := sB_bd (bs_bd s) s.size hn
    have e1 : wrap64 (sB (bs s) s.size % 65536 * 65536) = sB (bs s) s.size % 65536 * 65536 := w64 (by omega) (by omega)
    have e2 : wrap64 (sA (bs s) s.size % 65536 + sB (bs s) s.size % 65536 * 65536) = weak (bs s) s.size := w64e rfl (by unfold weak; omega) (by unfold weak; omega)
    simp only [roll_Sum.l0]; rw [if_neg (by omega), tm a1.1, tm a2.1, e1, e2]
  | succ d ih =>
    intro k i h1 hd hk
    obtain ⟨k, rfl⟩ : ∃ m, k = m + 1 := ⟨k - 1, by omega⟩
    have a1 := sA_bd (bs_bd s) (i + 1)
    have a2 := sB_bd (bs_bd s) (i + 1) (by omega)
    have a3 := bs_bd s i
    have s1 : sA (bs s) i + bs s i = sA (bs s) (i + 1) := rfl
    have s2 : sB (bs s) i + sA (bs s) (i + 1) = sB (bs s) (i + 1) := rfl
    have c1 : (i : Int) < (s.size : Int) := by omega
    have c2 : 0 ≤ (i : Int) := by omega
    have c3 : (i : Int) + 1 = ((i + 1 : Nat) : Int) := by omega
    have i1 : -9223372036854775808 ≤ bs s i ∧ bs s i ≤ 9223372036854775807 := by omega
    have i2 : -9223372036854775808 ≤ sA (bs s) (i + 1) ∧ sA (bs s) (i + 1) ≤ 9223372036854775807 := by omega
    have i3 : -9223372036854775808 ≤ sB (bs s) (i + 1) ∧ sB (bs s) (i + 1) ≤ 9223372036854775807 := by omega
    have i4 : -9223372036854775808 ≤ ((i + 1 : Nat) : Int) ∧ ((i + 1 : Nat) : Int) ≤ 9223372036854775807 := by omega
    have H := ih k (i + 1) (by omega) (by omega) (by omega)
    have e1 : wrap64 (bt s (i : Int)) = bs s i := w64e rfl i1.1 i1.2
    simp only [roll_Sum.l0]
    rw [if_pos c1, if_pos c2, if_pos c1, e1, w64e s1 i2.1 i2.2, w64e s2 i3.1 i3.2, w64e c3 i4.1 i4.2]
    exact H

theorem roll_sum (s : ByteArray) (hn : s.size ≤ 1048576) (k : Nat) (hk : s.size < k) : roll_Sum.f k s = some (weak (bs s) s.size) :=
  roll_sum_l s hn s.size k 0 (by omega) (by omega) hk

theorem awake_true (k : Nat) (hk : 2 < k) : barquelaw04_awake.f k = some true := by
  unfold barquelaw04_awake.f
  have h : roll_Sum.f 3 ⟨#[97, 98]⟩ = some 19136707 := by kernel_rfl
  have h2 : roll_Sum.f k ⟨#[97, 98]⟩ = some 19136707 := at_rounds (roll_Sum.mono _) (show 3 ≤ k from hk) h
  rw [h2]; rfl

def J (x y n : Int) : Int := (x % 65536 + y % 65536) % 65536 + (x / 65536 + y / 65536 + n % 65536 * (x % 65536)) % 65536 * 65536
theorem J_bd (x y n : Int) : 0 ≤ J x y n ∧ J x y n < 4294967296 := by unfold J; omega
theorem J_mod (x y n : Int) : J x y n % 65536 = (x % 65536 + y % 65536) % 65536 := by unfold J; omega
theorem J_div (x y n : Int) : J x y n / 65536 = (x / 65536 + y / 65536 + n % 65536 * (x % 65536)) % 65536 := by unfold J; omega
theorem J_three (x y z n m : Int) : J (J x y n) z m = J x (J y z m) (n + m) := by
  unfold J
  rw [show ((x % 65536 + y % 65536) % 65536 + (x / 65536 + y / 65536 + n % 65536 * (x % 65536)) % 65536 * 65536) % 65536 = (x % 65536 + y % 65536) % 65536 from by omega]
  rw [show ((x % 65536 + y % 65536) % 65536 + (x / 65536 + y / 65536 + n % 65536 * (x % 65536)) % 65536 * 65536) / 65536 = (x / 65536 + y / 65536 + n % 65536 * (x % 65536)) % 65536 from by omega]
  rw [show ((y % 65536 + z % 65536) % 65536 + (y / 65536 + z / 65536 + m % 65536 * (y % 65536)) % 65536 * 65536) % 65536 = (y % 65536 + z % 65536) % 65536 from by omega]
  rw [show ((y % 65536 + z % 65536) % 65536 + (y / 65536 + z / 65536 + m % 65536 * (y % 65536)) % 65536 * 65536) / 65536 = (y / 65536 + z / 65536 + m % 65536 * (y % 65536)) % 65536 from by omega]
  have h1 : (m % 65536 * ((x % 65536 + y % 65536) % 65536)) % 65536 = (m * x + m * y) % 65536 := by
    rw [mul_mod1, mul_mod2, Int.mul_add, Int.add_emod, mul_mod2, mul_mod2, ← Int.add_emod]
  have h2 : (n % 65536 * (x % 65536)) % 65536 = (n * x) % 65536 := by rw [mul_mod1, mul_mod2]
  have h3 : (m % 65536 * (y % 65536)) % 65536 = (m * y) % 65536 := by rw [mul_mod1, mul_mod2]
  have h4 : ((n + m) % 65536 * (x % 65536)) % 65536 = (n * x + m * x) % 65536 := by rw [mul_mod1, mul_mod2, Int.add_mul]
  omega
theorem join_yes (x y n : Int) (h : 0 ≤ x ∧ 0 ≤ y ∧ x ≤ 4294967295 ∧ y ≤ 4294967295 ∧ 0 ≤ n ∧ n ≤ 524288) : roll_Join.f x y n = some (J x y n, 0) := by
  obtain ⟨b1, b2, c1, c2, hn, hn2⟩ := h
  have p0 : 0 ≤ n % 65536 * (x % 65536) := Int.mul_nonneg (by omega) (by omega)
  have p1 : n % 65536 * (x % 65536) ≤ 65536 * 65536 := Int.mul_le_mul (by omega) (by omega) (by omega) (by omega)
  unfold roll_Join.f
  rw [if_neg (by omega), if_neg (by omega), if_neg (by omega), if_neg (by omega), if_neg (by omega), if_neg (by omega)]
  rw [tm b1, tm b2, td b1, td b2, tm hn]
  rw [w64 (x := x / 65536) (by omega) (by omega), w64 (x := y / 65536) (by omega) (by omega), w64 (x := x % 65536 + y % 65536) (by omega) (by omega), w64 (x := x / 65536 + y / 65536) (by omega) (by omega), w64 (x := n % 65536 * (x % 65536)) (by omega) (by omega)]
  rw [w64 (x := x / 65536 + y / 65536 + n % 65536 * (x % 65536)) (by omega) (by omega), tm (by omega), tm (by omega)]
  rw [w64 (x := (x / 65536 + y / 65536 + n % 65536 * (x % 65536)) % 65536 * 65536) (by omega) (by omega), w64 (x := (x % 65536 + y % 65536) % 65536 + (x / 65536 + y / 65536 + n % 65536 * (x % 65536)) % 65536 * 65536) (by omega) (by omega)]
  rfl
theorem join_no (x y n : Int) (h : ¬ (0 ≤ x ∧ 0 ≤ y ∧ x ≤ 4294967295 ∧ y ≤ 4294967295 ∧ 0 ≤ n ∧ n ≤ 524288)) : roll_Join.f x y n = some (0, 1) := by
  unfold roll_Join.f
  by_cases h1 : x < 0
  · rw [if_pos h1]
  rw [if_neg h1]
  by_cases h2 : y < 0
  · rw [if_pos h2]
  rw [if_neg h2]
  by_cases h3 : x ≥ 4294967296
  · rw [if_pos h3]
  rw [if_neg h3]
  by_cases h4 : y ≥ 4294967296
  · rw [if_pos h4]
  rw [if_neg h4]
  by_cases h5 : n < 0
  · rw [if_pos h5]
  rw [if_neg h5]
  by_cases h6 : n > 524288
  · rw [if_pos h6]
  exact absurd ⟨by omega, by omega, by omega, by omega, by omega, by omega⟩ h
theorem j0_true (k : Nat) (x y z n m : Int) : barquelaw04_RollThree.j0 (k + 4) x y z n m 0 1 true = some true := by
  simp only [barquelaw04_RollThree.j0]
  rw [if_pos trivial, if_pos trivial, if_pos trivial, awake_true _ (by omega)]; rfl
theorem j1_true (k : Nat) (x z n m a b : Int) : barquelaw04_RollThree.j1 (k + 4) x z n m a 0 b true = some true := by
  simp only [barquelaw04_RollThree.j1]
  rw [if_pos trivial, if_pos trivial, awake_true _ (by omega)]; rfl
theorem j0_false (k : Nat) (x y z n m : Int) (h : 0 ≤ x ∧ 0 ≤ y ∧ x ≤ 4294967295 ∧ y ≤ 4294967295 ∧ 0 ≤ n ∧ n ≤ 524288) :
    barquelaw04_RollThree.j0 (k + 5) x y z n m (J x y n) 0 false = some true := by
  simp only [barquelaw04_RollThree.j0]
  rw [if_neg (by decide)]
  by_cases h2 : 0 ≤ y ∧ 0 ≤ z ∧ y ≤ 4294967295 ∧ z ≤ 4294967295 ∧ 0 ≤ m ∧ m ≤ 524288
  · rw [join_yes y z m h2]; simp only [Option.bind_some]
    rw [if_pos trivial, w64 (x := 524288 - n) (by omega) (by omega)]
    by_cases h3 : m > 524288 - n
    · rw [decide_eq_true h3]; exact j1_true k _ _ _ _ _ _
    · rw [decide_eq_false h3]
      have b1 := J_bd x y n
      have b2 := J_bd y z m
      simp only [barquelaw04_RollThree.j1]
      rw [if_neg (by decide), join_yes (J x y n) z m (by omega)]; simp only [Option.bind_some]
      rw [w64 (x := n + m) (by omega) (by omega), join_yes x (J y z m) (n + m) (by omega)]; simp only [Option.bind_some]
      rw [if_pos trivial, if_pos trivial, if_pos trivial, if_pos (J_three x y z n m), awake_true _ (by omega)]; rfl
  · rw [join_no y z m h2]; simp only [Option.bind_some]
    rw [if_neg (by decide)]; exact j1_true k _ _ _ _ _ _
end RollThreeW

open RollThreeW in
theorem RollThree : barquelaw04_RollThree.Pure := by
  intro x y z n m _ _ _ _ _
  refine ⟨5, ?_⟩
  unfold barquelaw04_RollThree.f
  by_cases h : 0 ≤ x ∧ 0 ≤ y ∧ x ≤ 4294967295 ∧ y ≤ 4294967295 ∧ 0 ≤ n ∧ n ≤ 524288
  · rw [join_yes x y n h]; simp only [Option.bind_some]
    rw [if_neg (by omega), if_neg (by omega), if_neg (by omega), if_neg (by omega), if_neg (by omega), decide_eq_false (by omega)]
    exact j0_false 0 x y z n m h
  · rw [join_no x y n h]; simp only [Option.bind_some]
    by_cases h1 : x < 0
    · rw [if_pos h1]; exact j0_true 1 x y z n m
    rw [if_neg h1]
    by_cases h2 : y < 0
    · rw [if_pos h2]; exact j0_true 1 x y z n m
    rw [if_neg h2]
    by_cases h3 : x > 4294967295
    · rw [if_pos h3]; exact j0_true 1 x y z n m
    rw [if_neg h3]
    by_cases h4 : y > 4294967295
    · rw [if_pos h4]; exact j0_true 1 x y z n m
    rw [if_neg h4]
    by_cases h5 : n < 0
    · rw [if_pos h5]; exact j0_true 1 x y z n m
    rw [if_neg h5, decide_eq_true (by omega)]
    exact j0_true 1 x y z n m

end Go.Proofs.Ytfebaciipigkmaa.Pure
