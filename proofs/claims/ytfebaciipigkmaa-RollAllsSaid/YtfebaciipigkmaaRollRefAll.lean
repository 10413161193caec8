/- What the document's All tells: the weak sums of all windows, in order; and when two lists are one. -/
import Derived.Test.YtfebaciipigkmaaRollAll
import Derived.Test.YtfebaciipigkmaaPRollAllsx1
namespace Go.Proofs.Ytfebaciipigkmaa.RollA
open Go.RowKit Go.Proofs.Ytfebaciipigkmaa.PRollAlls Go.Proofs.YtfebaciipigkmaaW.PrintWords Go.Proofs.YtfebaciipigkmaaW.PrintLast Go.Proofs.YtfebaciipigkmaaW.PrintMore Go.Proofs.Ytfebaciipigkmaa.RollMath Go.Proofs.Ytfebaciipigkmaa.Roll

theorem ref_sum_l (s : ByteArray) (hn : s.size ≤ 1048576) (d : Nat) : ∀ (k i : Nat), i ≤ s.size → s.size - i = d → d < k →
    barqueref04_Sum.l0 k s (sA (bs s) i % 65536) (sC (bs s) (s.size : Int) i % 65536) (i : Int) = some (weak (bs s) s.size) := by
  induction d with
  | zero =>
    intro k i h1 hd hk
    obtain ⟨k, rfl⟩ : ∃ m, k = m + 1 := ⟨k - 1, by omega⟩
    obtain rfl : i = s.size := by omega
    have e : wrap64 (65536 * (sB (bs s) s.size % 65536)) = sB (bs s) s.size % 65536 * 65536 := w64e (by omega) (by omega) (by omega)
    have e2 : wrap64 (sA (bs s) s.size % 65536 + sB (bs s) s.size % 65536 * 65536) = weak (bs s) s.size := w64e rfl (by unfold weak; omega) (by unfold weak; omega)
    simp only [barqueref04_Sum.l0]; rw [if_neg (by omega), ← sB_sC, e, e2]
  | succ d ih =>
    intro k i h1 hd hk
    obtain ⟨k, rfl⟩ : ∃ m, k = m + 1 := ⟨k - 1, by omega⟩
    have a3 := bs_bd s i
    have c1 : (i : Int) < (s.size : Int) := by omega
    have c2 : 0 ≤ (i : Int) := by omega
    have c3 : (i : Int) + 1 = ((i + 1 : Nat) : Int) := by omega
    have s1 : sA (bs s) (i + 1) = sA (bs s) i + bs s i := rfl
    have s2 : sC (bs s) (s.size : Int) (i + 1) = sC (bs s) (s.size : Int) i + ((s.size : Int) - (i : Int)) * bs s i := rfl
    have p0 : 0 ≤ ((s.size : Int) - (i : Int)) % 65536 * bs s i := Int.mul_nonneg (by omega) a3.1
    have p1 : ((s.size : Int) - (i : Int)) % 65536 * bs s i ≤ 65536 * 255 := Int.mul_le_mul (by omega) a3.2 a3.1 (by omega)
    have p2 := mul_mod1 ((s.size : Int) - (i : Int)) (bs s i)
    have i1 : -9223372036854775808 ≤ bs s i ∧ bs s i ≤ 9223372036854775807 := by omega
    have i4 : -9223372036854775808 ≤ ((i + 1 : Nat) : Int) ∧ ((i + 1 : Nat) : Int) ≤ 9223372036854775807 := by omega
    have i2 : -9223372036854775808 ≤ sA (bs s) i % 65536 + bs s i ∧ sA (bs s) i % 65536 + bs s i ≤ 9223372036854775807 := by omega
    have n2 : 0 ≤ sA (bs s) i % 65536 + bs s i := by omega
    have m2 : (sA (bs s) i % 65536 + bs s i) % 65536 = sA (bs s) (i + 1) % 65536 := by omega
    have i0 : -9223372036854775808 ≤ (s.size : Int) - (i : Int) ∧ (s.size : Int) - (i : Int) ≤ 9223372036854775807 := by omega
    have n0 : 0 ≤ (s.size : Int) - (i : Int) := by omega
    have i3 : -9223372036854775808 ≤ ((s.size : Int) - (i : Int)) % 65536 * bs s i ∧ ((s.size : Int) - (i : Int)) % 65536 * bs s i ≤ 9223372036854775807 := by omega
    have i5 : -9223372036854775808 ≤ sC (bs s) (s.size : Int) i % 65536 + ((s.size : Int) - (i : Int)) % 65536 * bs s i ∧ sC (bs s) (s.size : Int) i % 65536 + ((s.size : Int) - (i : Int)) % 65536 * bs s i ≤ 9223372036854775807 := by omega
    have n5 : 0 ≤ sC (bs s) (s.size : Int) i % 65536 + ((s.size : Int) - (i : Int)) % 65536 * bs s i := by omega
    have m5 : (sC (bs s) (s.size : Int) i % 65536 + ((s.size : Int) - (i : Int)) % 65536 * bs s i) % 65536 = sC (bs s) (s.size : Int) (i + 1) % 65536 := by omega
    have H := ih k (i + 1) (by omega) (by omega) (by omega)
    have e1 : wrap64 (bt s (i : Int)) = bs s i := w64e rfl i1.1 i1.2
    simp only [barqueref04_Sum.l0]
    rw [if_pos c1, if_pos c2, e1, w64 i2.1 i2.2, tm n2, m2, w64 i0.1 i0.2, tm n0, w64 i3.1 i3.2, w64 i5.1 i5.2, tm n5, m5, w64e c3 i4.1 i4.2]
    exact H

theorem ref_sum (s : ByteArray) (hn : s.size ≤ 1048576) (k : Nat) (hk : s.size < k) : barqueref04_Sum.f k s = some (wk s s.size 0) :=
  (ref_sum_l s hn s.size k 0 (by omega) (by omega) hk).trans (by unfold wk; rw [Wi_zero])

theorem ref_all_l (t : ByteArray) (n : Nat) (h1 : 1 ≤ n) (hn : n ≤ 1024) (ht : t.size ≤ 2000) (d : Nat) : ∀ (k i : Nat), i + n ≤ t.size + 1 → t.size + 1 - n - i = d → d + 2001 < k →
    barqueref04_All.l0 k t n (sums t n i) i = some (sums t n (t.size + 1 - n)) := by
  induction d with
  | zero =>
    intro k i hi hd hk
    obtain ⟨k, rfl⟩ : ∃ m, k = m + 1 := ⟨k - 1, by omega⟩
    obtain rfl : i = t.size + 1 - n := by omega
    have e : ((t.size + 1 - n : Nat) : Int) + (n : Int) = (t.size : Int) + 1 := by omega
    simp only [barqueref04_All.l0]
    rw [w64e e (by omega) (by omega), if_neg (by omega)]
  | succ d ih =>
    intro k i hi hd hk
    obtain ⟨k, rfl⟩ : ∃ m, k = m + 1 := ⟨k - 1, by omega⟩
    have H := ih k (i + 1) (by omega) (by omega) (by omega)
    have e1 : (i : Int) + (n : Int) = ((i + n : Nat) : Int) := by omega
    have e2 : (i : Int) + 1 = ((i + 1 : Nat) : Int) := by omega
    have c1 : ((i + n : Nat) : Int) ≤ (t.size : Int) := by omega
    have c2 : 0 ≤ (i : Int) := by omega
    have c3 : (i : Int) ≤ ((i + n : Nat) : Int) := by omega
    have b1 : -9223372036854775808 ≤ ((i + n : Nat) : Int) := by omega
    have b2 : ((i + n : Nat) : Int) ≤ 9223372036854775807 := by omega
    have b3 : -9223372036854775808 ≤ ((i + 1 : Nat) : Int) := by omega
    have b4 : ((i + 1 : Nat) : Int) ≤ 9223372036854775807 := by omega
    have hs := ref_sum (t.extract i (i + n)) (by rw [ByteArray.size_extract]; omega) k (by rw [ByteArray.size_extract]; omega)
    rw [wk_extract t i n (by omega)] at hs
    have hl : (sums t n i).length < 17592186044416 := by rw [sums_len]; omega
    simp only [barqueref04_All.l0]
    rw [w64e e1 b1 b2, w64e e2 b3 b4, if_pos c1, if_pos c2, if_pos c3, Int.toNat_natCast, Int.toNat_natCast, hs]
    simp only [Option.bind_some]
    rw [if_pos hl, ← sums_succ]
    exact H

theorem ref_all (t : ByteArray) (n : Nat) (h1 : 1 ≤ n) (hn : n ≤ 1024) (ht : t.size ≤ 2000) (hle : n ≤ t.size + 1) (k : Nat) (hk : 4010 ≤ k) : barqueref04_All.f k t n = some (sums t n (t.size + 1 - n)) :=
  ref_all_l t n h1 hn ht (t.size + 1 - n) k 0 (by omega) (by omega) (by omega)
theorem ref_all_short (t : ByteArray) (n : Nat) (hn : n ≤ 1024) (hlt : t.size < n) (k : Nat) (hk : 1 ≤ k) : barqueref04_All.f k t n = some [] := by
  obtain ⟨k, rfl⟩ : ∃ m, k = m + 1 := ⟨k - 1, by omega⟩
  have e1 : (0 : Int) + (n : Int) = (n : Int) := by omega
  unfold barqueref04_All.f
  simp only [barqueref04_All.l0]
  rw [w64e e1 (by omega) (by omega), if_neg (by omega)]

theorem ints_l (l : List Int) (hl : l.length ≤ 4000) (d : Nat) : ∀ (k i : Nat), i ≤ l.length → l.length - i = d → d < k → barquelaw04_ints.l0 k l l i = some true := by
  induction d with
  | zero =>
    intro k i hi hd hk
    obtain ⟨k, rfl⟩ : ∃ m, k = m + 1 := ⟨k - 1, by omega⟩
    obtain rfl : i = l.length := by omega
    simp only [barquelaw04_ints.l0]
    rw [if_neg (by omega)]
  | succ d ih =>
    intro k i hi hd hk
    obtain ⟨k, rfl⟩ : ∃ m, k = m + 1 := ⟨k - 1, by omega⟩
    have H := ih k (i + 1) (by omega) (by omega) (by omega)
    have e2 : (i : Int) + 1 = ((i + 1 : Nat) : Int) := by omega
    have c1 : (i : Int) < (l.length : Int) := by omega
    have c2 : 0 ≤ (i : Int) := by omega
    have b3 : -9223372036854775808 ≤ ((i + 1 : Nat) : Int) := by omega
    have b4 : ((i + 1 : Nat) : Int) ≤ 9223372036854775807 := by omega
    simp only [barquelaw04_ints.l0]
    rw [w64e e2 b3 b4, H]
    simp [c1, c2]
theorem ints_same (l : List Int) (hl : l.length ≤ 4000) : barquelaw04_ints.f 4001 l l = some true := by
  unfold barquelaw04_ints.f
  have := ints_l l hl l.length 4001 0 (by omega) (by omega) (by omega)
  rw [if_pos rfl]; exact this
end Go.Proofs.Ytfebaciipigkmaa.RollA
