/- What All of a rolling window does: the weak sums of all windows, in order. -/
import Derived.Test.YtfebaciipigkmaaRollRef
namespace Go.Proofs.Ytfebaciipigkmaa.Roll
open Go.RowKit Go.Proofs.Ytfebaciipigkmaa.PRollEnds Go.Proofs.YtfebaciipigkmaaW.PrintWords Go.Proofs.YtfebaciipigkmaaW.PrintLast Go.Proofs.YtfebaciipigkmaaW.PrintMore Go.Proofs.Ytfebaciipigkmaa.RollMath

theorem info3 : (Try.prog.info? 3).map (fun i => (i.zero, i.size, i.bytes)) = some (some (.int .i64 0), 1, 8) := by kernel_rfl

theorem Blk.grown {w w' : World} {b : Nat} {cs : Array Value} {t : TypeId} {row : Option Nat} (h : Blk w b cs t) (hg : w.grownBy w' row) (hr : some b ≠ row) : Blk w' b cs t := by
  have hl := Blk.lt h
  unfold Blk at h ⊢; rw [hg.block b hl hr]; exact h

/-- the weak sums of the first windows -/
def sums (s : ByteArray) (n m : Nat) : List Int := (List.range m).map (wk s n)
theorem sums_succ (s : ByteArray) (n m : Nat) : sums s n (m + 1) = sums s n m ++ [wk s n m] := by
  unfold sums; rw [List.range_succ, List.map_append]; rfl
theorem sums_len (s : ByteArray) (n m : Nat) : (sums s n m).length = m := by unfold sums; simp

/-- a slice of ints of the call's own, in blocks that are not b -/
def Ints (w : World) (b : Nat) (v : Value) (l : List Int) : Prop := Kd.R (Kd.int .i64) 3 w b (fun k => k ≠ b) v l
theorem Ints.only {w w' : World} {b : Nat} {v : Value} {l : List Int} (h : Ints w b v l) (o : Only b w w') : Ints w' b v l := Kd.R_step h (fun k hk _ => o.block k hk)
theorem Ints.one (w : World) (b : Nat) (x : Int) (hb : b < w.heap.size) : Ints (w.alloc (.cells #[.int .i64 x] 3)) b (.slice (some ⟨w.heap.size, 0, none⟩) 1 1) [x] := by
  refine ⟨fun k hk => ?_, [.int .i64 x], ?_, ?_⟩
  · have : w.heap.size = k := by simpa [Value.ownBlock] using hk
    omega
  · exact World.ownsRow_lit (base := b) (e := 3) (size := 1) w #[.int .i64 x] 1 (Nat.le_of_lt hb) (by simp [maxLen]) (by simp)
  · exact Kd.reps_scalar [x]

theorem all_arg (s : ByteArray) (n : Int) (w : World) (h : n < 1 ∨ 1024 < n) : Calls Try.prog 21 #[.string s, .int .i64 n] w fun e w' => e = .returned (.tuple #[.slice none 0 0, .int .i64 1]) ∧ w = w' := by
  have c := fun w => new_arg s n w h
  clear h
  go_enter Try.func21, Try.ntmps21
  go_wp2_with (go_at_call 16; (with_reducible refine (c _).mono ?_); rintro e w' ⟨rfl, rfl⟩)
  go_ret2
  exact ⟨rfl, rfl⟩
theorem all_short (s : ByteArray) (n : Int) (w : World) (h1 : 1 ≤ n) (h2 : n ≤ 1024) (h3 : (s.size : Int) < n) : Calls Try.prog 21 #[.string s, .int .i64 n] w fun e w' => e = .returned (.tuple #[.slice none 0 0, .int .i64 0]) ∧ w = w' := by
  have c := fun w => new_short s n w h1 h2 h3
  clear h1 h2 h3
  go_enter Try.func21, Try.ntmps21
  go_wp2_with (go_at_call 16; (with_reducible refine (c _).mono ?_); rintro e w' ⟨rfl, rfl⟩)
  go_ret2
  exact ⟨rfl, rfl⟩
set_option maxHeartbeats 1000000 in
theorem all_st (s : ByteArray) (n : Nat) (w : World) (ok0 : Ok s n 0) : Calls Try.prog 21 #[.string s, .int .i64 n] w fun e w' =>
    ∃ v, e = .returned (.tuple #[v, .int .i64 0]) ∧ Hid (Ints w' w.heap.size v (sums s n (s.size - n + 1))) ∧ Hid (Below w.heap.size w w') := by
  have ok : Hid (∀ k, k + n ≤ s.size → Ok s n k) := fun k hk => ⟨ok0.n1, ok0.n2, hk, ok0.s2⟩
  have s2 := ok0.s2
  have k2 := ok0.k2
  have hnew : Calls Try.prog 16 #[.string s, .int .i64 n] w fun e w' => e = .returned (.tuple #[.pointer (some ⟨w.heap.size, 0, none⟩), .int .i64 0]) ∧ Hid (St w' w.heap.size s n 0) ∧ Hid (Below w.heap.size w w') ∧ w.heap.size < w'.heap.size :=
    (new_st s n w ok0).mono fun e w' ⟨h1, h2, h3, h4⟩ => ⟨h1, h2, h3, by omega⟩
  clear ok0
  go_enter Try.func21, Try.ntmps21
  go_wp2_with (first
    | (go_at_call 16; refine hnew.mono ?_; rintro e W1 ⟨rfl, st1, bl1, lt1⟩)
    | (go_at_call 19; (with_reducible refine (sum_st w.heap.size s n 0 _ st1.out).mono ?_); rintro e W2 ⟨rfl, dr⟩))
  have hlt2 : w.heap.size < W2.heap.size := by obtain ⟨k, rfl⟩ := dr; exact lt1
  have st2 : Hid (St (W2.alloc (.cells #[.int .i64 (wk s n 0)] 3)) w.heap.size s n 0) := by
    obtain ⟨k, rfl⟩ := dr
    exact Blk.below (Blk.drewN st1.out k) ((Below.refl (W1.drewN k).heap.size _).alloc (Nat.le_refl _) _) lt1
  have on2 : Hid (Ints (W2.alloc (.cells #[.int .i64 (wk s n 0)] 3)) w.heap.size (.slice (some ⟨W2.heap.size, 0, none⟩) 1 1) (sums s n 1)) := Ints.one _ _ _ hlt2
  have bl2 : Hid (Below w.heap.size w (W2.alloc (.cells #[.int .i64 (wk s n 0)] 3))) := by
    obtain ⟨k, rfl⟩ := dr
    exact (below_drewN bl1.out k).alloc (Nat.le_of_lt lt1) _
  clear dr st1 bl1 lt1 hnew
  generalize hbn : w.heap.size = b at *
  have bn : Hid (w.heap.size = b) := hbn
  clear hbn
  go_loopg [8] (s.size - n) (fun gk v wr => ∃ k : Nat, k + n + gk = s.size ∧ Hid (St wr b s n k) ∧ Hid (Ints wr b v (sums s n (k + 1))) ∧ Hid (Below b w wr))
  case atStart => exact ⟨0, by omega, st2, on2, bl2⟩
  case round =>
    obtain ⟨k, hk, st3, on3, bl3⟩ := hrel
    clear st2 on2 bl2 hlt2
    have hk2 : k + n ≤ s.size := by omega
    have okk := ok.out k hk2
    have HK : Hid (k + n + gk = s.size) := hk
    clear hk
    have okk' : Hid (Ok s n k) := okk
    clear okk
    by_cases hlt : k + n < s.size
    · have okk1 : Hid (Ok s n (k + 1)) := ok.out (k + 1) (by omega)
      have hl : (sums s n (k + 1)).length = k + 1 := sums_len _ _ _
      have hl2 : Hid (((sums s n (k + 1)).length + 1) * 8 ≤ 140737488355328) := by rw [hl]; show (_ : Nat) ≤ _; omega
      have hs : Hid (sums s n (k + 1) ++ [wk s n (k + 1)] = sums s n (k + 1 + 1)) := (sums_succ s n (k + 1)).symm
      clear hl
      generalize h2e : sums s n (k + 1 + 1) = l2 at *
      have H2 : Hid (sums s n (k + 1 + 1) = l2) := h2e
      clear h2e
      generalize sums s n (k + 1) = l1 at *
      go_wp2_with (first
        | (go_at_call 17; (with_reducible refine (next_st b s n k _ st3.out okk'.out hlt).mono ?_); rintro e W3 ⟨rfl, st4, oo4⟩; have st5 : Hid (St W3 b s n (k + 1)) := st4; have on5 : Hid (Ints W3 b u8 l1) := on3.out.only oo4; have bl5 : Hid (Below b w W3) := bl3.out.trans (oo4.below (Nat.le_refl _)); clear st4 oo4)
        | (go_at_call 19; (with_reducible refine (sum_st b s n (k + 1) _ st5.out).mono ?_); rintro e W4 ⟨rfl, dr⟩; have dr1 := Only.drawn (b := b) dr; have st6 : Hid (St W4 b s n (k + 1)) := (by obtain ⟨q, rfl⟩ := dr; exact Blk.drewN st5.out q); have on6 : Hid (Ints W4 b u8 l1) := on5.out.only dr1; have bl6 : Hid (Below b w W4) := bl5.out.trans (dr1.below (Nat.le_refl _)); have lt6 : Hid (b < W4.heap.size) := Blk.lt st6.out; clear dr dr1)
        | ((with_reducible refine gate_builtin (b := .append) (xs := #[.tmp 25, .tmp 28]) rfl ?_); at_builtin; refine Kd.R_append (Kd.int .i64) (w0 := w) b rfl (.tmp 25) (.tmp 28) 39 3 (.int .i64 0) 8 rfl Try.underlying39 info3 rfl (by decide) (by omega) u8 l1 (wk s n (k + 1)) [.int .i64 (wk s n (k + 1))] (fun k => k ≠ b) (fun _ => False) rfl rfl ?aP (fun _ hk => hk.elim) ?aF ?aO ?aB ?aS ?aL ?_; (case aP => exact rfl); (case aB => exact bl6.out); (case aF => exact (fun q hq => by have := lt6.out; omega)); (case aO => exact on6.out); (case aS => exact (Nat.le_of_lt lt6.out)); (case aL => exact hl2.out); intro v7 W7 ho hb hg hat; have on7 : Hid (Ints W7 b v7 l2) := (by rw [← hs.out]; exact ho); have bl7 : Hid (Below b w W7) := hb; have st7 : Hid (St W7 b s n (k + 1)) := Blk.grown st6.out hg (fun e => on6.out.1 b e.symm rfl); clear ho hb hg hat))
      go_roundg (gk - 1)
      case measure => have := HK.out; omega
      case rel => exact ⟨k + 1, by have := HK.out; omega, st7, by rw [H2.out]; exact on7, bl7⟩
    · have he : Hid (k + n = s.size) := by show _ = _; omega
      go_wp2_with (first
        | (go_at_call 17; (with_reducible refine (next_end b s n k _ st3.out okk'.out he.out).mono ?_); rintro e W3 ⟨rfl, dr⟩))
      go_ret2
      refine ⟨_, rfl, ?_, ?_⟩
      · rw [show s.size - n + 1 = k + 1 from by have := he.out; omega, bn.out]
        exact on3.out.only (Only.drawn dr)
      · rw [bn.out]
        exact bl3.out.trans ((Only.drawn dr).below (Nat.le_refl _))
end Go.Proofs.Ytfebaciipigkmaa.Roll
