/- What New and Skip of a rolling window do. -/
import Derived.Test.YtfebaciipigkmaaRollWalk
import Derived.WalkSpells
namespace Go.Proofs.Ytfebaciipigkmaa.Roll
open Go.RowKit Go.Proofs.Ytfebaciipigkmaa.PRollEnds Go.Proofs.YtfebaciipigkmaaW.PrintWords Go.Proofs.YtfebaciipigkmaaW.PrintLast Go.Proofs.YtfebaciipigkmaaW.PrintMore Go.Proofs.Ytfebaciipigkmaa.RollMath

theorem below_drewN {B : Nat} {a w : World} (h : Below B a w) (n : Nat) : Below B a (w.drewN n) := ⟨h.os, h.tape, h.output, h.size, h.block⟩

theorem quiet0 {P : Program} {f : FuncId} {args : Array Value} {w : World} {n : Nat} {v : Value} (h : Calls P f args (w.drewN n) fun e w' => e = .returned v ∧ Drawn0 (w.drewN n) w') :
    Calls P f args (w.drewN n) fun e w'' => e = .returned v ∧ ∃ m, w'' = w.drewN m :=
  Calls.quiet_of (h.mono fun _ _ ⟨he, m, hm⟩ => ⟨he, m, hm⟩)

theorem new_arg (s : ByteArray) (n : Int) (w : World) (h : n < 1 ∨ 1024 < n) : Calls Try.prog 16 #[.string s, .int .i64 n] w fun e w' => e = .returned (.tuple #[.pointer none, .int .i64 1]) ∧ w = w' := by
  by_cases h1 : n < 1
  · go_enter Try.func16, Try.ntmps16
    go_wp2
    go_ret2
    exact ⟨rfl, rfl⟩
  · have h2 : 1024 < n := by omega
    go_enter Try.func16, Try.ntmps16
    go_wp2
    go_ret2
    exact ⟨rfl, rfl⟩
theorem new_short (s : ByteArray) (n : Int) (w : World) (h1 : 1 ≤ n) (h2 : n ≤ 1024) (h3 : (s.size : Int) < n) : Calls Try.prog 16 #[.string s, .int .i64 n] w fun e w' => e = .returned (.tuple #[.pointer none, .int .i64 3]) ∧ w = w' := by
  go_enter Try.func16, Try.ntmps16
  go_wp2
  go_ret2
  exact ⟨rfl, rfl⟩
theorem new_st (s : ByteArray) (n : Nat) (w : World) (ok : Ok s n 0) : Calls Try.prog 16 #[.string s, .int .i64 n] w fun e w' =>
    e = .returned (.tuple #[.pointer (some ⟨w.heap.size, 0, none⟩), .int .i64 0]) ∧ St w' w.heap.size s n 0 ∧ Below w.heap.size w w' ∧ w'.heap.size = w.heap.size + 1 := by
  obtain ⟨n1, n2, k2, s2⟩ := ok
  have hx := wk_extract s 0 n k2
  rw [Nat.zero_add] at hx
  have hsz : (s.extract 0 n).size ≤ 1048576 := by rw [ByteArray.size_extract]; omega
  have hA := wA_wk s n 0
  have hB := wB_wk s n 0
  have hb := wk_bd s n 0
  have HST : Hid (∀ w', Blk w' w.heap.size #[.string s, .int .i64 n, .int .i64 0, .int .i64 (wk s n 0 % 65536), .int .i64 (wk s n 0 / 65536)] 37 → St w' w.heap.size s n 0) := by
    intro w' h
    rw [hA, hB] at h
    exact h
  have hc := fun w => (sum_calls (s.extract 0 n) hsz w)
  rw [hx] at hc
  obtain ⟨b1, b2⟩ := hb
  clear hA hB hx
  generalize wk s n 0 = x at *
  have k3 : n ≤ s.size := by omega
  go_enter Try.func16, Try.ntmps16
  go_wp2_with (go_at_call 12; refine (hc _).mono ?_; rintro e w' ⟨rfl, ⟨nd, rfl⟩⟩)
  go_ret2
  refine ⟨rfl, HST.out _ (Blk.new w _ _), ?_, ?_⟩
  · exact below_drewN ((Below.refl _ _).alloc (Nat.le_refl _) _) _
  · simp

theorem skip_neg (b : Nat) (s : ByteArray) (n k : Nat) (m : Int) (w : World) (st : St w b s n k) (ok : Ok s n k) (h : m < 0) :
    Calls Try.prog 20 #[.pointer (some ⟨b, 0, none⟩), .int .i64 m] w fun e w' => e = .returned (.bool false) ∧ Drawn0 w w' := by
  obtain ⟨n1, n2, k2, s2⟩ := ok
  have h1 : w.cell? ⟨b, 1, none⟩ = some (.int .i64 n) := Blk.cell st 1
  have g1 : ((n : Int) == 0) = false := beq_eq_false_iff_ne.2 (by omega)
  have g2 : decide (m < 0) = true := decide_eq_true h
  go_enter Try.func20, Try.ntmps20
  go_wp2
  go_quiet (fail)
  go_wp2
  go_ret
  exact ⟨rfl, _, rfl⟩
theorem skip_far (b : Nat) (s : ByteArray) (n k : Nat) (m : Int) (w : World) (st : St w b s n k) (ok : Ok s n k) (h : 0 ≤ m) (h' : (s.size : Int) - n - k < m) :
    Calls Try.prog 20 #[.pointer (some ⟨b, 0, none⟩), .int .i64 m] w fun e w' => e = .returned (.bool false) ∧ Drawn0 w w' := by
  obtain ⟨n1, n2, k2, s2⟩ := ok
  have h0 : w.cell? ⟨b, 0, none⟩ = some (.string s) := Blk.cell st 0
  have h1 : w.cell? ⟨b, 1, none⟩ = some (.int .i64 n) := Blk.cell st 1
  have h2 : w.cell? ⟨b, 2, none⟩ = some (.int .i64 k) := Blk.cell st 2
  have g1 : ((n : Int) == 0) = false := beq_eq_false_iff_ne.2 (by omega)
  have g2 : decide (m < 0) = false := decide_eq_false (by omega)
  go_enter Try.func20, Try.ntmps20
  go_wp2
  go_quiet (fail)
  go_wp2
  go_ret
  exact ⟨rfl, _, rfl⟩
set_option maxRecDepth 100000 in
theorem skip_near (b : Nat) (s : ByteArray) (n k m : Nat) (w : World) (st : St w b s n k) (ok : Ok s n (k + m)) (h : m < n) :
    Calls Try.prog 20 #[.pointer (some ⟨b, 0, none⟩), .int .i64 m] w fun e w' => e = .returned (.bool true) ∧ St w' b s n (k + m) ∧ Only b w w' := by
  obtain ⟨n1, n2, k2, s2⟩ := ok
  have h0 : w.cell? ⟨b, 0, none⟩ = some (.string s) := Blk.cell st 0
  have h1 : w.cell? ⟨b, 1, none⟩ = some (.int .i64 n) := Blk.cell st 1
  have h2 : w.cell? ⟨b, 2, none⟩ = some (.int .i64 k) := Blk.cell st 2
  have g1 : ((n : Int) == 0) = false := beq_eq_false_iff_ne.2 (by omega)
  have g2 : decide ((m : Int) < 0) = false := decide_eq_false (by omega)
  have hst : Hid (St w b s n k) := st
  clear st
  go_enter Try.func20, Try.ntmps20
  go_wp2
  go_quiet (fail)
  go_wp2
  go_loopw [45] (fun i wr => ∃ j : Nat, j ≤ m ∧ i = .int .i64 j ∧ Hid (St wr b s n (k + j)) ∧ Only b w wr) (fun i _ => m - (intOf i).toNat)
  case atStart => exact ⟨0, Nat.zero_le _, rfl, hst, (Only.refl b w).drewN _⟩
  case round =>
    obtain ⟨j, hj, rfl, hst1, on⟩ := hrel
    clear hst
    by_cases hlt : j < m
    · have ok1 : Ok s n (k + j) := ⟨n1, n2, by omega, s2⟩
      have he1 : k + j + n < s.size := by omega
      go_wp2_with (go_at_call 17; refine (next_st b s n (k + j) _ hst1.out ok1 he1).mono ?_; rintro e w' ⟨rfl, st2, on2⟩)
      go_roundw
      case rel => exact ⟨j + 1, by omega, by go_num, st2, on.trans on2⟩
      case measure => simp [intOf]; omega
    · obtain rfl : j = m := by omega
      go_wp2
      go_ret
      exact ⟨rfl, hst1.out, on⟩

set_option maxRecDepth 100000 in
theorem skip_long (b : Nat) (s : ByteArray) (n k m p : Nat) (hp : k + m = p) (w : World) (st : St w b s n k) (ok : Ok s n p) (h : n ≤ m) :
    Calls Try.prog 20 #[.pointer (some ⟨b, 0, none⟩), .int .i64 m] w fun e w' => e = .returned (.bool true) ∧ St w' b s n p ∧ Only b w w' := by
  obtain ⟨n1, n2, k2, s2⟩ := ok
  have h0 : w.cell? ⟨b, 0, none⟩ = some (.string s) := Blk.cell st 0
  have h1 : w.cell? ⟨b, 1, none⟩ = some (.int .i64 n) := Blk.cell st 1
  have h2 : w.cell? ⟨b, 2, none⟩ = some (.int .i64 k) := Blk.cell st 2
  have f2 : w.frozen? ⟨b, 2, none⟩ = false := Blk.free st 2
  have g1 : ((n : Int) == 0) = false := beq_eq_false_iff_ne.2 (by omega)
  have g2 : decide ((m : Int) < 0) = false := decide_eq_false (by omega)
  have hx := wk_extract s p n k2
  have hsz : (s.extract p (p + n)).size ≤ 1048576 := by rw [ByteArray.size_extract]; omega
  have hA := wA_wk s n p
  have hB := wB_wk s n p
  obtain ⟨b1, b2⟩ := wk_bd s n p
  have HST : Hid (∀ w', Blk w' b #[.string s, .int .i64 n, .int .i64 (p : Int), .int .i64 (wk s n p % 65536), .int .i64 (wk s n p / 65536)] 37 → St w' b s n p) := by
    intro w' h
    rw [hA, hB] at h
    exact h
  have hc := fun w => (sum_calls (s.extract p (p + n)) hsz w)
  rw [hx] at hc
  clear hA hB hx
  generalize wk s n p = x at *
  have st0 : Blk w b #[.string s, .int .i64 n, .int .i64 k, .int .i64 (wA s n k), .int .i64 (wB s n k)] 37 := st
  clear st
  have hk : (k : Int) + m ≤ 1048576 := by omega
  have hkk : k ≤ 1048576 := by omega
  have HP : Hid (k + m = p) := hp
  have g3 : decide ((s.size : Int) - n - k < m) = false := decide_eq_false (by omega)
  clear hp
  go_enter Try.func20, Try.ntmps20
  go_wp2
  go_quiet (fail)
  go_wp2_with fail
  generalize hwq : World.setCell (World.drewN w _) _ _ = wq
  have st2 : Blk wq b #[.string s, .int .i64 n, .int .i64 (p : Int), .int .i64 (wA s n k), .int .i64 (wB s n k)] 37 := by rw [← hwq, ← HP.out]; exact (Blk.drewN st0 _).set 2 _
  have on2 : Only b w wq := by rw [← hwq]; exact ((Only.refl b w).drewN _).set 2 _
  clear h0 h1 h2 f2 hwq
  have h0 : wq.cell? ⟨b, 0, none⟩ = some (.string s) := Blk.cell st2 0
  have h1 : wq.cell? ⟨b, 1, none⟩ = some (.int .i64 n) := Blk.cell st2 1
  have h2 : wq.cell? ⟨b, 2, none⟩ = some (.int .i64 (p : Int)) := Blk.cell st2 2
  have h3 : wq.cell? ⟨b, 3, none⟩ = some (.int .i64 (wA s n k)) := Blk.cell st2 3
  have h4 : wq.cell? ⟨b, 4, none⟩ = some (.int .i64 (wB s n k)) := Blk.cell st2 4
  have f3 : wq.frozen? ⟨b, 3, none⟩ = false := Blk.free st2 3
  have f4 : wq.frozen? ⟨b, 4, none⟩ = false := Blk.free st2 4
  have e2 : (p : Int) + n ≤ s.size := by omega
  have e3 : 0 ≤ (p : Int) + n := by omega
  have e4 : (p : Int) ≤ (p : Int) + n := by omega
  have e5 : ((p : Int) + n).toNat = p + n := by omega
  refine wp_region_quiet_lit (by kernel_rfl) (by kernel_rfl) ?_
  repeat (first | go_big_quiet_step ((go_at_call 12; exact quiet0 (hc _))) | quiet_step ((go_at_call 12; exact quiet0 (hc _))))
  refine wpQuiet_nil ?_
  intro _ hw'
  obtain ⟨nq, hw''⟩ := hw'
  subst hw''
  go_wp2
  go_ret
  refine ⟨rfl, HST.out _ ?_, ?_⟩
  · exact ((st2.set 3 (.int .i64 (x % 65536))).set 4 (.int .i64 (x / 65536))).drewN _
  · exact (((on2.set 3 _).set 4 _).drewN _)
end Go.Proofs.Ytfebaciipigkmaa.Roll
