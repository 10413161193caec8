/- A number's bytes: how many there are at most. -/
import Derived.Test.YtcbecbalhnomcaaGreatDoorBuild
import Derived.Laws.OwnMore
namespace Go.Proofs.YtcbecbalhnomcaaGreatDoor.Build
open Go.RowKit Go.Proofs.YtcbecbalhnomcaaGreatDoorW.PrintWords

/-- a row of bytes of one's own -/
def Bys (w : World) (base : Nat) (v : Value) (n : Nat) : Prop := ∃ cs : List Int, w.ownsRow base 5 1 v n (nums .u8 cs) ∧ cs.length = n
theorem num_bad (n : Int) (w : World) (h : n < 0 ∨ n > 4611686018427387903) : Calls Tryz.prog 98 #[.int .i64 n] w fun e w' => e = .returned (.tuple #[.string ⟨#[]⟩, .int .i64 2]) ∧ w = w' := by
  by_cases h1 : n < 0
  · go_enter Tryz.func98, Tryz.ntmps98
    go_wp2
    go_ret2
    exact ⟨rfl, rfl⟩
  · have h2 : n > 4611686018427387903 := by omega
    go_enter Tryz.func98, Tryz.ntmps98
    go_wp2
    go_ret2
    exact ⟨rfl, rfl⟩
set_option maxHeartbeats 2000000 in
set_option maxRecDepth 100000 in
theorem num_calls (n : Nat) (w : World) (h : n ≤ 4611686018427387903) : Calls Tryz.prog 98 #[.int .i64 n] w fun e w' => ∃ s, e = .returned (.tuple #[.string s, .int .i64 0]) ∧ Hid (s.size ≤ 10 ∧ Below w.heap.size w w') := by
  have h1 : ¬ (n : Int) < 0 := by omega
  have h2 : ¬ (n : Int) > 4611686018427387903 := by omega
  have B0 : Hid (Below w.heap.size w w) := Below.refl _ _
  have R0 : Hid (Bys w w.heap.size (.slice none 0 0) 0) := ⟨[], own_nil _ _ _ _, rfl⟩
  go_enter Tryz.func98, Tryz.ntmps98
  go_upto_region 4 with (fail)
  go_loopw [0, 4] (fun x v wr => ∃ (m k : Nat) (vv : Value), vv = v ∧ m * 128 ^ k ≤ 4611686018427387903 ∧ k ≤ 9 ∧ x = .int .i64 m ∧ Hid (Bys wr w.heap.size vv k) ∧ Hid (Below w.heap.size w wr)) (fun x _ _ => (intOf x).toNat)
  case atStart => exact ⟨n, 0, _, rfl, by omega, by omega, rfl, R0, B0⟩
  case round =>
    obtain ⟨m, k, v, rfl, hm, hk, rfl, row, bel⟩ := hrel
    clear R0 B0
    obtain ⟨cs, row, hcs⟩ := row.out
    by_cases hlt : (m : Int) > 127
    · have hk8 : k ≤ 8 := by
        rcases Nat.lt_or_ge k 9 with h | h
        · omega
        · obtain rfl : k = 9 := by omega
          have : 128 * 128 ^ 9 ≤ m * 128 ^ 9 := Nat.mul_le_mul_right _ (by omega)
          have e : (128 * 128 ^ 9 : Nat) = 1180591620717411303424 := by decide
          omega
      have hm' : Hid (m / 128 * 128 ^ (k + 1) ≤ 4611686018427387903) := by
        show _ ≤ _
        refine Nat.le_trans ?_ hm
        rw [Nat.pow_succ, Nat.mul_comm (128 ^ k) 128, ← Nat.mul_assoc]
        exact Nat.mul_le_mul_right _ (Nat.div_mul_le_self m 128)
      have ROW : Hid (wr.ownsRow w.heap.size 5 1 v cs.length (nums .u8 cs)) := by rw [hcs]; exact row
      have HC : Hid (cs.length = k) := hcs
      have hml : m ≤ 4611686018427387903 := Nat.le_trans (Nat.le_mul_of_pos_right m (Nat.pow_pos (by decide))) hm
      clear row hcs hm
      obtain ⟨A, c, rfl⟩ := own_slice ROW.out
      go_upto_region 6 with (
        (with_reducible refine gate_builtin (b := .append) (xs := #[.tmp 13, .tmp 18]) rfl ?_); at_builtin
        refine print_append_num (w0 := w) w.heap.size rfl (.tmp 13) (.tmp 18) 152 5 .u8 1 rfl Tryz.underlying152 (by kernel_rfl) (by decide) _ cs _ rfl rfl ROW.out bel.out bel.out.size (by have := HC.out; omega) ?_
        intro v1 w1 ho hb hg hat
        have R1 : Hid (Bys w1 w.heap.size v1 (k + 1)) := by (rw [← HC.out]; exact ⟨_, by simpa using ho, by simp⟩)
        have B1 : Hid (Below w.heap.size w w1) := hb
        clear ho hb hg hat)
      go_wp2
      go_roundw
      case rel => exact ⟨m / 128, k + 1, v1, rfl, hm'.out, by omega, by simp, R1, B1⟩
      case measure => simp [intOf]; omega
    · have ROW : Hid (wr.ownsRow w.heap.size 5 1 v cs.length (nums .u8 cs)) := by rw [hcs]; exact row
      have HC : Hid (cs.length = k) := hcs
      have HK : Hid (k ≤ 9) := hk
      clear row hcs hm hk
      obtain ⟨A, c, rfl⟩ := own_slice ROW.out
      go_wp2_with (
        (with_reducible refine gate_builtin (b := .append) (xs := #[.tmp 22, .tmp 25]) rfl ?_); at_builtin
        refine print_append_num (w0 := w) w.heap.size rfl (.tmp 22) (.tmp 25) 152 5 .u8 1 rfl Tryz.underlying152 (by kernel_rfl) (by decide) _ cs _ rfl rfl ROW.out bel.out bel.out.size (by have := HC.out; have := HK.out; omega) ?_
        intro v1 w1 ho hb hg hat
        have hcv := own_string (P := Tryz.prog) Tryz.underlying152 Tryz.underlying5 Tryz.underlying9 ho
        have B1 : Hid (Below w.heap.size w w1) := hb
        clear ho hb hg hat)
      go_ret2
      refine ⟨_, rfl, ?_, B1.out⟩
      have := HC.out
      have := HK.out
      rw [strOfNums_size]
      simp
      omega
end Go.Proofs.YtcbecbalhnomcaaGreatDoor.Build
