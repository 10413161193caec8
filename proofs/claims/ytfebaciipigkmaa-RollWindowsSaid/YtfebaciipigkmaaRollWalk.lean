/- What the five methods of a rolling window do: the nil window, the window nobody gave, a window that stands at a place of a text. -/
import Derived.Test.YtfebaciipigkmaaRollBase
import Derived.StillTailTactics
namespace Go.Proofs.Ytfebaciipigkmaa.Roll
open Go.RowKit Go.Proofs.Ytfebaciipigkmaa.PRollEnds Go.Proofs.YtfebaciipigkmaaW.PrintWords Go.Proofs.YtfebaciipigkmaaW.PrintLast Go.Proofs.YtfebaciipigkmaaW.PrintMore Go.Proofs.Ytfebaciipigkmaa.RollMath

/-! the nil window -/
theorem at_nil (w : World) : Calls Try.prog 18 #[.pointer none] w fun e w' => e = .returned (.int .i64 (-1)) ∧ w = w' := by
  go_enter Try.func18, Try.ntmps18
  go_wp2
  go_ret
  exact ⟨rfl, rfl⟩
theorem sum_nil (w : World) : Calls Try.prog 19 #[.pointer none] w fun e w' => e = .returned (.int .i64 0) ∧ w = w' := by
  go_enter Try.func19, Try.ntmps19
  go_wp2
  go_ret
  exact ⟨rfl, rfl⟩
theorem next_nil (w : World) : Calls Try.prog 17 #[.pointer none] w fun e w' => e = .returned (.bool false) ∧ Drawn0 w w' := by
  go_enter Try.func17, Try.ntmps17
  go_wp2
  go_quiet (fail)
  go_wp2
  go_ret
  exact ⟨rfl, _, rfl⟩
theorem skip_nil (n : Int) (w : World) : Calls Try.prog 20 #[.pointer none, .int .i64 n] w fun e w' => e = .returned (.bool false) ∧ Drawn0 w w' := by
  go_enter Try.func20, Try.ntmps20
  go_wp2
  go_quiet (fail)
  go_wp2
  go_ret
  exact ⟨rfl, _, rfl⟩

/-! the window that nobody gave -/
def Zero (w : World) (b : Nat) : Prop := Blk w b #[.string ByteArray.empty, .int .i64 0, .int .i64 0, .int .i64 0, .int .i64 0] 37
theorem at_zero (b : Nat) (w : World) (st : Zero w b) : Calls Try.prog 18 #[.pointer (some ⟨b, 0, none⟩)] w fun e w' => e = .returned (.int .i64 (-1)) ∧ w = w' := by
  have h1 : w.cell? ⟨b, 1, none⟩ = some (.int .i64 0) := Blk.cell st 1
  go_enter Try.func18, Try.ntmps18
  go_wp2
  go_ret
  exact ⟨rfl, rfl⟩
theorem sum_zero (b : Nat) (w : World) (st : Zero w b) : Calls Try.prog 19 #[.pointer (some ⟨b, 0, none⟩)] w fun e w' => e = .returned (.int .i64 0) ∧ Drawn0 w w' := by
  have h3 : w.cell? ⟨b, 3, none⟩ = some (.int .i64 0) := Blk.cell st 3
  have h4 : w.cell? ⟨b, 4, none⟩ = some (.int .i64 0) := Blk.cell st 4
  go_enter Try.func19, Try.ntmps19
  go_wp2
  go_quiet (fail)
  go_wp2
  go_ret
  exact ⟨rfl, _, rfl⟩
theorem next_zero (b : Nat) (w : World) (st : Zero w b) : Calls Try.prog 17 #[.pointer (some ⟨b, 0, none⟩)] w fun e w' => e = .returned (.bool false) ∧ Drawn0 w w' := by
  have h1 : w.cell? ⟨b, 1, none⟩ = some (.int .i64 0) := Blk.cell st 1
  go_enter Try.func17, Try.ntmps17
  go_wp2
  go_quiet (fail)
  go_wp2
  go_ret
  exact ⟨rfl, _, rfl⟩
theorem skip_zero (n : Int) (b : Nat) (w : World) (st : Zero w b) : Calls Try.prog 20 #[.pointer (some ⟨b, 0, none⟩), .int .i64 n] w fun e w' => e = .returned (.bool false) ∧ Drawn0 w w' := by
  have h1 : w.cell? ⟨b, 1, none⟩ = some (.int .i64 0) := Blk.cell st 1
  go_enter Try.func20, Try.ntmps20
  go_wp2
  go_quiet (fail)
  go_wp2
  go_ret
  exact ⟨rfl, _, rfl⟩

/-! a window of n bytes that stands at k in the text s -/
def St (w : World) (b : Nat) (s : ByteArray) (n k : Nat) : Prop := Blk w b #[.string s, .int .i64 n, .int .i64 k, .int .i64 (wA s n k), .int .i64 (wB s n k)] 37
/-- such a window may stand there -/
structure Ok (s : ByteArray) (n k : Nat) : Prop where
  n1 : 1 ≤ n
  n2 : n ≤ 1024
  k2 : k + n ≤ s.size
  s2 : s.size ≤ 1048576

theorem at_st (b : Nat) (s : ByteArray) (n k : Nat) (w : World) (st : St w b s n k) (ok : Ok s n k) : Calls Try.prog 18 #[.pointer (some ⟨b, 0, none⟩)] w fun e w' => e = .returned (.int .i64 k) ∧ w = w' := by
  obtain ⟨n1, n2, k2, s2⟩ := ok
  have h1 : w.cell? ⟨b, 1, none⟩ = some (.int .i64 n) := Blk.cell st 1
  have h2 : w.cell? ⟨b, 2, none⟩ = some (.int .i64 k) := Blk.cell st 2
  go_enter Try.func18, Try.ntmps18
  go_wp2
  go_ret
  exact ⟨rfl, rfl⟩
theorem sum_st (b : Nat) (s : ByteArray) (n k : Nat) (w : World) (st : St w b s n k) : Calls Try.prog 19 #[.pointer (some ⟨b, 0, none⟩)] w fun e w' => e = .returned (.int .i64 (wk s n k)) ∧ Drawn0 w w' := by
  have h3 : w.cell? ⟨b, 3, none⟩ = some (.int .i64 (wA s n k)) := Blk.cell st 3
  have h4 : w.cell? ⟨b, 4, none⟩ = some (.int .i64 (wB s n k)) := Blk.cell st 4
  have z := wk_eq s n k
  obtain ⟨b1, b2⟩ := wA_bd s n k
  obtain ⟨b3, b4⟩ := wB_bd s n k
  rw [z]
  clear z
  generalize wA s n k = x at *
  generalize wB s n k = y at *
  go_enter Try.func19, Try.ntmps19
  go_wp2
  go_quiet (fail)
  go_wp2
  go_ret
  exact ⟨rfl, _, rfl⟩
theorem next_end (b : Nat) (s : ByteArray) (n k : Nat) (w : World) (st : St w b s n k) (ok : Ok s n k) (he : k + n = s.size) :
    Calls Try.prog 17 #[.pointer (some ⟨b, 0, none⟩)] w fun e w' => e = .returned (.bool false) ∧ Drawn0 w w' := by
  obtain ⟨n1, n2, k2, s2⟩ := ok
  have h0 : w.cell? ⟨b, 0, none⟩ = some (.string s) := Blk.cell st 0
  have h1 : w.cell? ⟨b, 1, none⟩ = some (.int .i64 n) := Blk.cell st 1
  have h2 : w.cell? ⟨b, 2, none⟩ = some (.int .i64 k) := Blk.cell st 2
  have g1 : ((n : Int) == 0) = false := beq_eq_false_iff_ne.2 (by omega)
  have g2 : ((k : Int) + n == (s.size : Int)) = true := beq_iff_eq.2 (by omega)
  have e1 : s.size ≤ k + n := by omega
  clear he
  go_enter Try.func17, Try.ntmps17
  go_wp2
  go_quiet (fail)
  go_wp2
  go_ret
  exact ⟨rfl, _, rfl⟩
set_option maxRecDepth 100000 in
theorem next_st (b : Nat) (s : ByteArray) (n k : Nat) (w : World) (st : St w b s n k) (ok : Ok s n k) (he : k + n < s.size) :
    Calls Try.prog 17 #[.pointer (some ⟨b, 0, none⟩)] w fun e w' => e = .returned (.bool true) ∧ St w' b s n (k + 1) ∧ Only b w w' := by
  obtain ⟨n1, n2, k2, s2⟩ := ok
  have h0 : w.cell? ⟨b, 0, none⟩ = some (.string s) := Blk.cell st 0
  have h1 : w.cell? ⟨b, 1, none⟩ = some (.int .i64 n) := Blk.cell st 1
  have h2 : w.cell? ⟨b, 2, none⟩ = some (.int .i64 k) := Blk.cell st 2
  have h3 : w.cell? ⟨b, 3, none⟩ = some (.int .i64 (wA s n k)) := Blk.cell st 3
  have h4 : w.cell? ⟨b, 4, none⟩ = some (.int .i64 (wB s n k)) := Blk.cell st 4
  have f3 : w.frozen? ⟨b, 3, none⟩ = false := Blk.free st 3
  obtain ⟨x1, x2⟩ := wA_bd s n k
  obtain ⟨y1, y2⟩ := wB_bd s n k
  have hA := (win_next s n k).1
  have hB := (win_next s n k).2
  have g1 : ((n : Int) == 0) = false := beq_eq_false_iff_ne.2 (by omega)
  have g2 : ((k : Int) + n == (s.size : Int)) = false := beq_eq_false_iff_ne.2 (by omega)
  have hin : k + n < s.size := he
  have hout : k < s.size := by omega
  obtain ⟨o, ho⟩ : ∃ o, bs s k = o := ⟨_, rfl⟩
  obtain ⟨i, hi⟩ : ∃ i, bs s (k + n) = i := ⟨_, rfl⟩
  have r1 := bs_bd s k
  have r2 := bs_bd s (k + n)
  have q1 : ∀ h : k < s.size, ((s[k]'h).toNat : Int) = o := fun h => (bt_at s (k : Int) h).trans ho
  have q2 : ∀ h : ((k : Int) + n).toNat < s.size, ((s[((k : Int) + n).toNat]'h).toNat : Int) = i := fun h => (bt_at s ((k : Int) + n) h).trans hi
  rw [ho] at r1 hA hB
  rw [hi] at r2 hA
  have p0 : 0 ≤ (n : Int) * o := Int.mul_nonneg (by omega) r1.1
  have p1 : (n : Int) * o ≤ 1024 * 255 := Int.mul_le_mul (by omega) r1.2 r1.1 (by omega)
  clear ho hi
  obtain ⟨r10, r11⟩ := r1
  obtain ⟨r20, r21⟩ := r2
  have st0 : Blk w b #[.string s, .int .i64 n, .int .i64 k, .int .i64 (wA s n k), .int .i64 (wB s n k)] 37 := st
  have HST : Hid (∀ w', Blk w' b #[.string s, .int .i64 n, .int .i64 ((k + 1 : Nat) : Int), .int .i64 (wA s n (k + 1)), .int .i64 (wB s n (k + 1))] 37 → St w' b s n (k + 1)) := fun w' h => h
  generalize wA s n k = x at *
  generalize wB s n k = y at *
  generalize wA s n (k + 1) = x' at *
  generalize wB s n (k + 1) = y' at *
  have z1 : Hid ((x - o + i) % 65536 = x') := by show _ = _; omega
  have z2 : Hid ((y - (n : Int) * o % 65536 + x') % 65536 = y') := by show _ = _; omega
  have x3 : 0 ≤ x' := by omega
  have x4 : x' < 65536 := by omega
  clear hA hB st
  go_enter Try.func17, Try.ntmps17
  go_wp2
  go_quiet (fail)
  go_wp2
  go_quiet (fail)
  go_wp2
  rw [z1.out]
  generalize hwq : World.setCell (World.drewN w _) _ _ = wq
  have st2 : Blk wq b #[.string s, .int .i64 n, .int .i64 k, .int .i64 x', .int .i64 y] 37 := by rw [← hwq]; exact (Blk.drewN st0 _).set 3 _
  have on2 : Only b w wq := by rw [← hwq]; exact ((Only.refl b w).drewN _).set 3 _
  clear h0 h1 h2 h3 h4 f3 q1 q2 hwq
  have h1 : wq.cell? ⟨b, 1, none⟩ = some (.int .i64 n) := Blk.cell st2 1
  have h2 : wq.cell? ⟨b, 2, none⟩ = some (.int .i64 k) := Blk.cell st2 2
  have h3 : wq.cell? ⟨b, 3, none⟩ = some (.int .i64 x') := Blk.cell st2 3
  have h4 : wq.cell? ⟨b, 4, none⟩ = some (.int .i64 y) := Blk.cell st2 4
  go_still_tail 22, (by kernel_rfl)
  change wpList _ _ _ _ _ wq.drew
  have f4 : wq.frozen? ⟨b, 4, none⟩ = false := Blk.free st2 4
  have f2 : wq.frozen? ⟨b, 2, none⟩ = false := Blk.free st2 2
  go_wp2
  go_ret
  refine ⟨rfl, HST.out _ ?_, (((on2.set 4 _).set 2 _).drew)⟩
  have st3 := ((st2.set 4 (.int .i64 y')).set 2 (.int .i64 ((k + 1 : Nat) : Int))).drew
  rw [z2.out]
  exact st3

end Go.Proofs.Ytfebaciipigkmaa.Roll
