/- The mathematics of a rolling weak sum: two running sums of a sequence of numbers, how they shift and join. No program here. -/
namespace Go.Proofs.Ytfebaciipigkmaa.RollMath

def sA (b : Nat → Int) : Nat → Int
  | 0 => 0
  | n + 1 => sA b n + b n
def sB (b : Nat → Int) : Nat → Int
  | 0 => 0
  | n + 1 => sB b n + sA b (n + 1)
def sC (b : Nat → Int) (M : Int) : Nat → Int
  | 0 => 0
  | n + 1 => sC b M n + (M - n) * b n

theorem sC_succ (b : Nat → Int) (M : Int) : ∀ n, sC b (M + 1) n = sC b M n + sA b n
  | 0 => by simp [sC, sA]
  | n + 1 => by
    have h := sC_succ b M n
    simp only [sC, sA]
    rw [h, show M + 1 - (n : Int) = (M - n) + 1 from by omega, Int.add_mul]
    omega
theorem sB_sC (b : Nat → Int) : ∀ n : Nat, sB b n = sC b (n : Int) n
  | 0 => by simp [sB, sC]
  | n + 1 => by
    have h := sB_sC b n
    simp only [sB, sC, sA]
    rw [h, show ((n + 1 : Nat) : Int) = (n : Int) + 1 from by omega, sC_succ, show (n : Int) + 1 - n = 1 from by omega]
    omega
theorem sA_bd {b : Nat → Int} (hb : ∀ i, 0 ≤ b i ∧ b i ≤ 255) : ∀ n : Nat, 0 ≤ sA b n ∧ sA b n ≤ 255 * n
  | 0 => by simp [sA]
  | n + 1 => by
    have h := sA_bd hb n
    have h2 := hb n
    simp only [sA]; omega
theorem sB_bd {b : Nat → Int} (hb : ∀ i, 0 ≤ b i ∧ b i ≤ 255) : ∀ n : Nat, n ≤ 1048576 → 0 ≤ sB b n ∧ sB b n ≤ 267386880 * n
  | 0, _ => by simp [sB]
  | n + 1, hn => by
    have h := sB_bd hb n (by omega)
    have h2 := sA_bd hb (n + 1)
    simp only [sB]; omega
theorem sA_congr {b c : Nat → Int} : ∀ n, (∀ i, i < n → b i = c i) → sA b n = sA c n
  | 0, _ => rfl
  | n + 1, h => by simp only [sA]; rw [sA_congr n (fun i hi => h i (by omega)), h n (by omega)]
theorem sB_congr {b c : Nat → Int} : ∀ n, (∀ i, i < n → b i = c i) → sB b n = sB c n
  | 0, _ => rfl
  | n + 1, h => by simp only [sB]; rw [sB_congr n (fun i hi => h i (by omega)), sA_congr (n + 1) h]
/-- a text behind another -/
theorem sA_join (b : Nat → Int) (n : Nat) : ∀ m, sA b (n + m) = sA b n + sA (fun i => b (n + i)) m
  | 0 => by simp [sA]
  | m + 1 => by
    have h := sA_join b n m
    show sA b (n + m) + b (n + m) = _
    simp only [sA]; rw [h]; omega
theorem sB_join (b : Nat → Int) (n : Nat) : ∀ m : Nat, sB b (n + m) = sB b n + sB (fun i => b (n + i)) m + m * sA b n
  | 0 => by simp [sB]
  | m + 1 => by
    have h := sB_join b n m
    have h2 : sA b (n + m + 1) = sA b n + sA (fun i => b (n + i)) (m + 1) := sA_join b n (m + 1)
    show sB b (n + m) + sA b (n + m + 1) = _
    simp only [sB]; rw [h, h2, show ((m + 1 : Nat) : Int) = (m : Int) + 1 from by omega, Int.add_mul]; omega
/-- a window one on -/
theorem sA_shift (b : Nat → Int) : ∀ n, sA (fun i => b (i + 1)) n = sA b n - b 0 + b n
  | 0 => by simp only [sA]; omega
  | n + 1 => by
    have h := sA_shift b n
    simp only [sA]; rw [h]; omega
theorem sB_shift (b : Nat → Int) : ∀ n : Nat, sB (fun i => b (i + 1)) n = sB b n - n * b 0 + sA (fun i => b (i + 1)) n
  | 0 => by simp [sB, sA]
  | n + 1 => by
    have h := sB_shift b n
    have h2 := sA_shift b (n + 1)
    have h3 := sA_shift b n
    simp only [sB] at h ⊢; rw [h, h2, h3, show ((n + 1 : Nat) : Int) = (n : Int) + 1 from by omega, Int.add_mul]
    simp only [sA]; omega
/-- the weak sum of the first n -/
def weak (b : Nat → Int) (n : Nat) : Int := sA b n % 65536 + sB b n % 65536 * 65536
theorem weak_congr {b c : Nat → Int} (n : Nat) (h : ∀ i, i < n → b i = c i) : weak b n = weak c n := by
  unfold weak; rw [sA_congr n h, sB_congr n h]
theorem weak_bd (b : Nat → Int) (n : Nat) : 0 ≤ weak b n ∧ weak b n < 4294967296 := by unfold weak; omega
theorem weak_mod (b : Nat → Int) (n : Nat) : weak b n % 65536 = sA b n % 65536 := by unfold weak; omega
theorem weak_div (b : Nat → Int) (n : Nat) : weak b n / 65536 = sB b n % 65536 := by unfold weak; omega
theorem mul_mod1 (x y : Int) : (x % 65536 * y) % 65536 = (x * y) % 65536 := by
  rw [Int.mul_emod, Int.emod_emod, ← Int.mul_emod]
theorem mul_mod2 (x y : Int) : (x * (y % 65536)) % 65536 = (x * y) % 65536 := by
  rw [Int.mul_emod, Int.emod_emod, ← Int.mul_emod]
/-- what a join tells -/
theorem weak_join (b : Nat → Int) (n m : Nat) :
    (weak b n % 65536 + weak (fun i => b (n + i)) m % 65536) % 65536 + (weak b n / 65536 + weak (fun i => b (n + i)) m / 65536 + (m : Int) % 65536 * (weak b n % 65536)) % 65536 * 65536 = weak b (n + m) := by
  have e1 := sA_join b n m
  have e2 := sB_join b n m
  rw [weak_mod, weak_mod, weak_div, weak_div]
  have e3 : (((m : Int) % 65536) * (sA b n % 65536)) % 65536 = ((m : Int) * sA b n) % 65536 := by rw [mul_mod1, mul_mod2]
  unfold weak; rw [e1, e2]; omega
/-- what a window that goes one on tells -/
theorem weak_next (b : Nat → Int) (n : Nat) (A B : Int) (hA : A = sA b n % 65536) (hB : B = sB b n % 65536) :
    (A - b 0 + b n + 65536) % 65536 = sA (fun i => b (i + 1)) n % 65536 ∧
    (B - (n * b 0) % 65536 + (A - b 0 + b n + 65536) % 65536 + 65536) % 65536 = sB (fun i => b (i + 1)) n % 65536 := by
  have e1 := sA_shift b n
  have e2 := sB_shift b n
  subst hA hB
  constructor
  · rw [e1]; omega
  · rw [e2, e1]; omega

end Go.Proofs.Ytfebaciipigkmaa.RollMath
