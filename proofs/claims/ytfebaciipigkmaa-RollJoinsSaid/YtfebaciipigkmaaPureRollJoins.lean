/- RollJoins as a statement about lists and numbers: the weak sum of two texts is told by theirs and the length of the second. -/
import Derived.Test.YtfebaciipigkmaaPRollJoinsx1
import Derived.Test.YtfebaciipigkmaaRollMath
namespace Go.Proofs.Ytfebaciipigkmaa.Pure
open Go.RowKit Go.Proofs.Ytfebaciipigkmaa.PRollJoins Go.Proofs.YtfebaciipigkmaaW.PrintWords Go.Proofs.YtfebaciipigkmaaW.PrintLast Go.Proofs.Ytfebaciipigkmaa.RollMath

namespace RollJoinsW
def bs (s : ByteArray) : Nat → Int := fun i => bt s (i : Int)
theorem bs_bd (s : ByteArray) : ∀ i, 0 ≤ bs s i ∧ bs s i ≤ 255 := fun i => bt_range s (i : Int)
theorem w64 {x : Int} (h : -9223372036854775808 ≤ x) (h' : x ≤ 9223372036854775807) : wrap64 x = x := by unfold wrap64; omega
theorem w64e {x y : Int} (e : x = y) (h : -9223372036854775808 ≤ y) (h' : y ≤ 9223372036854775807) : wrap64 x = y := by subst e; exact w64 h h'
theorem tm {x : Int} (h : 0 ≤ x) : Int.tmod x 65536 = x % 65536 := Int.tmod_eq_emod_of_nonneg h
theorem td {x : Int} (h : 0 ≤ x) : Int.tdiv x 65536 = x / 65536 := Int.tdiv_eq_ediv_of_nonneg h

theorem roll_sum_l (s : ByteArray) (hn : s.size ≤ 1048576) (d : Nat) : ∀ (k i : Nat), i ≤ s.size → s.size - i = d → d < k →
    roll_Sum.l0 k s (sA (bs s) i) (sB (bs s) i) (s.size : Int) (i : Int) = some (weak (bs s) s.size) := by
  induction d with
  | zero =>
    intro k i h1 hd hk
    obtain ⟨k, rfl⟩ : ∃ m, k = m + 1 := ⟨k - 1, by omega⟩
    obtain rfl : i = s.size := by omega
    have a1 := sA_bd (bs_bd s) s.size
    have a2 := sB_bd (bs_bd s) s.size hn
    have e1 : wrap64 (sB (bs s) s.size % 65536 * 65536) = sB (bs s) s.size % 65536 * 65536 := w64 (by omega) (by omega)
    have e2 : wrap64 (sA (bs s) s.size % 65536 + sB (bs s) s.size % 65536 * 65536) = weak (bs s) s.size := w64e rfl (by unfold weak; omega) (by unfold weak; omega)
    simp only [roll_Sum.l0]; rw [if_neg (by omega), tm a1.1, tm a2.1, e1, e2]
  | succ d ih =>
    intro k i h1 hd hk
    obtain ⟨k, rfl⟩ : ∃ m, k = m + 1 := ⟨k - 1, by omega⟩
    have a1 := sA_bd (bs_bd s) (i + 1)
    have a2 := sB_bd (bs_bd s) (i + 1) (by omega)
    have a3 := bs_bd s i
    have s1 : sA (bs s) i + bs s i = sA (bs s) (i + 1) := rfl
    have s2 : sB (bs s) i + sA (bs s) (i + 1) = sB (bs s) (i + 1) := rfl
    have c1 : (i : Int) < (s.size : Int) := by omega
    have c2 : 0 ≤ (i : Int) := by omega
    have c3 : (i : Int) + 1 = ((i + 1 : Nat) : Int) := by omega
    have i1 : -9223372036854775808 ≤ bs s i ∧ bs s i ≤ 9223372036854775807 := by omega
    have i2 : -9223372036854775808 ≤ sA (bs s) (i + 1) ∧ sA (bs s) (i + 1) ≤ 9223372036854775807 := by omega
    have i3 : -9223372036854775808 ≤ sB (bs s) (i + 1) ∧ sB (bs s) (i + 1) ≤ 9223372036854775807 := by omega
    have i4 : -9223372036854775808 ≤ ((i + 1 : Nat) : Int) ∧ ((i + 1 : Nat) : Int) ≤ 9223372036854775807 := by omega
    have H := ih k (i + 1) (by omega) (by omega) (by omega)
    have e1 : wrap64 (bt s (i : Int)) = bs s i := w64e rfl i1.1 i1.2
    simp only [roll_Sum.l0]
    rw [if_pos c1, if_pos c2, if_pos c1, e1, w64e s1 i2.1 i2.2, w64e s2 i3.1 i3.2, w64e c3 i4.1 i4.2]
    exact H

theorem roll_sum (s : ByteArray) (hn : s.size ≤ 1048576) (k : Nat) (hk : s.size < k) : roll_Sum.f k s = some (weak (bs s) s.size) :=
  roll_sum_l s hn s.size k 0 (by omega) (by omega) hk

theorem awake_true (k : Nat) (hk : 2 < k) : barquelaw04_awake.f k = some true := by
  unfold barquelaw04_awake.f
  have h : roll_Sum.f 3 ⟨#[97, 98]⟩ = some 19136707 := by kernel_rfl
  have h2 : roll_Sum.f k ⟨#[97, 98]⟩ = some 19136707 := at_rounds (roll_Sum.mono _) (show 3 ≤ k from hk) h
  rw [h2]; rfl

theorem ref_sum_l (s : ByteArray) (hn : s.size ≤ 1048576) (d : Nat) : ∀ (k i : Nat), i ≤ s.size → s.size - i = d → d < k →
    barqueref04_Sum.l0 k s (sA (bs s) i % 65536) (sC (bs s) (s.size : Int) i % 65536) (i : Int) = some (weak (bs s) s.size) := by
  induction d with
  | zero =>
    intro k i h1 hd hk
    obtain ⟨k, rfl⟩ : ∃ m, k = m + 1 := ⟨k - 1, by omega⟩
    obtain rfl : i = s.size := by omega
    have e : wrap64 (65536 * (sB (bs s) s.size % 65536)) = sB (bs s) s.size % 65536 * 65536 := w64e (by omega) (by omega) (by omega)
    have e2 : wrap64 (sA (bs s) s.size % 65536 + sB (bs s) s.size % 65536 * 65536) = weak (bs s) s.size := w64e rfl (by unfold weak; omega) (by unfold weak; omega)
    simp only [barqueref04_Sum.l0]; rw [if_neg (by omega), ← sB_sC, e, e2]
  | succ d ih =>
    intro k i h1 hd hk
    obtain ⟨k, rfl⟩ : ∃ m, k = m + 1 := ⟨k - 1, by omega⟩
    have a3 := bs_bd s i
    have c1 : (i : Int) < (s.size : Int) := by omega
    have c2 : 0 ≤ (i : Int) := by omega
    have c3 : (i : Int) + 1 = ((i + 1 : Nat) : Int) := by omega
    have s1 : sA (bs s) (i + 1) = sA (bs s) i + bs s i := rfl
    have s2 : sC (bs s) (s.size : Int) (i + 1) = sC (bs s) (s.size : Int) i + ((s.size : Int) - (i : Int)) * bs s i := rfl
    have p0 : 0 ≤ ((s.size : Int) - (i : Int)) % 65536 * bs s i := Int.mul_nonneg (by omega) a3.1
    have p1 : ((s.size : Int) - (i : Int)) % 65536 * bs s i ≤ 65536 * 255 := Int.mul_le_mul (by omega) a3.2 a3.1 (by omega)
    have p2 := mul_mod1 ((s.size : Int) - (i : Int)) (bs s i)
    have i1 : -9223372036854775808 ≤ bs s i ∧ bs s i ≤ 9223372036854775807 := by omega
    have i4 : -9223372036854775808 ≤ ((i + 1 : Nat) : Int) ∧ ((i + 1 : Nat) : Int) ≤ 9223372036854775807 := by omega
    have i2 : -9223372036854775808 ≤ sA (bs s) i % 65536 + bs s i ∧ sA (bs s) i % 65536 + bs s i ≤ 9223372036854775807 := by omega
    have n2 : 0 ≤ sA (bs s) i % 65536 + bs s i := by omega
    have m2 : (sA (bs s) i % 65536 + bs s i) % 65536 = sA (bs s) (i + 1) % 65536 := by omega
    have i0 : -9223372036854775808 ≤ (s.size : Int) - (i : Int) ∧ (s.size : Int) - (i : Int) ≤ 9223372036854775807 := by omega
    have n0 : 0 ≤ (s.size : Int) - (i : Int) := by omega
    have i3 : -9223372036854775808 ≤ ((s.size : Int) - (i : Int)) % 65536 * bs s i ∧ ((s.size : Int) - (i : Int)) % 65536 * bs s i ≤ 9223372036854775807 := by omega
    have i5 : -9223372036854775808 ≤ sC (bs s) (s.size : Int) i % 65536 + ((s.size : Int) - (i : Int)) % 65536 * bs s i ∧ sC (bs s) (s.size : Int) i % 65536 + ((s.size : Int) - (i : Int)) % 65536 * bs s i ≤ 9223372036854775807 := by omega
    have n5 : 0 ≤ sC (bs s) (s.size : Int) i % 65536 + ((s.size : Int) - (i : Int)) % 65536 * bs s i := by omega
    have m5 : (sC (bs s) (s.size : Int) i % 65536 + ((s.size : Int) - (i : Int)) % 65536 * bs s i) % 65536 = sC (bs s) (s.size : Int) (i + 1) % 65536 := by omega
    have H := ih k (i + 1) (by omega) (by omega) (by omega)
    have e1 : wrap64 (bt s (i : Int)) = bs s i := w64e rfl i1.1 i1.2
    simp only [barqueref04_Sum.l0]
    rw [if_pos c1, if_pos c2, e1, w64 i2.1 i2.2, tm n2, m2, w64 i0.1 i0.2, tm n0, w64 i3.1 i3.2, w64 i5.1 i5.2, tm n5, m5, w64e c3 i4.1 i4.2]
    exact H

theorem ref_sum (s : ByteArray) (hn : s.size ≤ 1048576) (k : Nat) (hk : s.size < k) : barqueref04_Sum.f k s = some (weak (bs s) s.size) :=
  ref_sum_l s hn s.size k 0 (by omega) (by omega) hk

theorem cut_tells (s : ByteArray) (n : Nat) : ∃ t, barquelaw04_cut.f s (n : Int) = some t ∧ t.size ≤ n := by
  unfold barquelaw04_cut.f
  by_cases h : (s.size : Int) > (n : Int)
  · rw [if_pos h, if_pos (by omega), if_pos (by omega)]
    exact ⟨_, rfl, by rw [ByteArray.size_extract]; omega⟩
  · rw [if_neg h]
    exact ⟨s, rfl, by omega⟩

theorem bs_app_l (s t : ByteArray) (i : Nat) (h : i < s.size) : bs (s ++ t) i = bs s i := by
  have h2 : i < (s ++ t).size := by rw [ByteArray.size_append]; omega
  unfold bs bt
  rw [dif_pos (by omega), dif_pos (by omega)]
  congr 2
  exact ByteArray.getElem_append_left _
theorem bs_app_r (s t : ByteArray) (i : Nat) (h : i < t.size) : bs (s ++ t) (s.size + i) = bs t i := by
  have h2 : s.size + i < (s ++ t).size := by rw [ByteArray.size_append]; omega
  unfold bs bt
  rw [dif_pos (by omega), dif_pos (by omega)]
  have := ByteArray.getElem_append_right (a := s) (b := t) (i := s.size + i) (hle := by omega) (h := h2)
  simp only [Int.toNat_natCast, this]; congr 2; simp
theorem join_tells (s t : ByteArray) (ht : t.size ≤ 5000) :
    roll_Join.f (weak (bs s) s.size) (weak (bs t) t.size) (t.size : Int) = some (weak (bs (s ++ t)) (s ++ t).size, 0) := by
  have b1 := weak_bd (bs s) s.size
  have b2 := weak_bd (bs t) t.size
  have j := weak_join (bs (s ++ t)) s.size t.size
  rw [weak_congr (b := bs (s ++ t)) (c := bs s) s.size (fun i hi => bs_app_l s t i hi)] at j
  rw [weak_congr (b := fun i => bs (s ++ t) (s.size + i)) (c := bs t) t.size (fun i hi => bs_app_r s t i hi)] at j
  rw [ByteArray.size_append, ← j]
  generalize weak (bs s) s.size = x at *
  generalize weak (bs t) t.size = y at *
  have p0 : 0 ≤ (t.size : Int) % 65536 * (x % 65536) := Int.mul_nonneg (by omega) (by omega)
  have p1 : (t.size : Int) % 65536 * (x % 65536) ≤ 65536 * 65536 := Int.mul_le_mul (by omega) (by omega) (by omega) (by omega)
  unfold roll_Join.f
  rw [if_neg (by omega), if_neg (by omega), if_neg (by omega), if_neg (by omega), if_neg (by omega), if_neg (by omega)]
  rw [tm b1.1, tm b2.1, td b1.1, td b2.1, tm (x := (t.size : Int)) (by omega)]
  rw [w64 (x := x / 65536) (by omega) (by omega), w64 (x := y / 65536) (by omega) (by omega), w64 (x := x % 65536 + y % 65536) (by omega) (by omega), w64 (x := x / 65536 + y / 65536) (by omega) (by omega), w64 (x := (t.size : Int) % 65536 * (x % 65536)) (by omega) (by omega)]
  rw [w64 (x := x / 65536 + y / 65536 + (t.size : Int) % 65536 * (x % 65536)) (by omega) (by omega), tm (by omega), tm (by omega)]
  rw [w64 (x := (x / 65536 + y / 65536 + (t.size : Int) % 65536 * (x % 65536)) % 65536 * 65536) (by omega) (by omega), w64 (x := (x % 65536 + y % 65536) % 65536 + (x / 65536 + y / 65536 + (t.size : Int) % 65536 * (x % 65536)) % 65536 * 65536) (by omega) (by omega)]
end RollJoinsW

open RollJoinsW in
theorem RollJoins : barquelaw04_RollJoins.Pure := by
  intro s0 t0 _ _
  obtain ⟨s, hs, hsn⟩ := cut_tells s0 5000
  obtain ⟨t, ht, htn⟩ := cut_tells t0 5000
  have hst : (s ++ t).size = s.size + t.size := ByteArray.size_append
  refine ⟨10003, ?_⟩
  unfold barquelaw04_RollJoins.f
  rw [show (5000 : Int) = ((5000 : Nat) : Int) from rfl, hs, ht]; simp only [Option.bind_some]
  rw [roll_sum s (by omega) _ (by omega), roll_sum t (by omega) _ (by omega)]; simp only [Option.bind_some]
  rw [join_tells s t htn]; simp only [Option.bind_some]
  rw [if_pos (by omega), ref_sum (s ++ t) (by omega) _ (by omega)]; simp only [Option.bind_some]
  rw [if_pos trivial, if_pos trivial, awake_true _ (by omega)]; rfl

end Go.Proofs.Ytfebaciipigkmaa.Pure
