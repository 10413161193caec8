/- A window goes on by one byte just as often as there are windows behind it: the law's own walk. -/
import Derived.Test.YtfebaciipigkmaaRollRef
namespace Go.Proofs.Ytfebaciipigkmaa.Roll
open Go.RowKit Go.Proofs.Ytfebaciipigkmaa.PRollEnds Go.Proofs.YtfebaciipigkmaaW.PrintWords Go.Proofs.YtfebaciipigkmaaW.PrintLast Go.Proofs.YtfebaciipigkmaaW.PrintMore Go.Proofs.Ytfebaciipigkmaa.RollMath

theorem ends_no (s t : ByteArray) (n : Int) (w : World) (hcut : ∀ w : World, Calls Try.prog 11 #[.string s, .int .i64 2000] w fun e w' => e = .returned (.string t) ∧ Drawn0 w w')
    (c : Int) (hc : c = 1 ∨ c = 3) (hnew : ∀ w : World, Calls Try.prog 16 #[.string t, .int .i64 n] w fun e w' => e = .returned (.tuple #[.pointer none, .int .i64 c]) ∧ w = w') :
    Calls Try.prog 6 #[.string s, .int .i64 n] w fun e w' => e = .returned (.bool true) ∧ Below w.heap.size w w' := by
  have bl : ∀ k, Below w.heap.size w (w.drewN k) := fun k => below_drewN (Below.refl _ _) k
  have hc' : (c == 0) = false := by rcases hc with rfl | rfl <;> rfl
  clear hc
  go_enter Try.func6, Try.ntmps6
  go_wp2_with (first
    | (go_at_call 11; (with_reducible refine (hcut _).mono ?_); rintro e w' ⟨rfl, ⟨nd, rfl⟩⟩)
    | (go_at_call 16; (with_reducible refine (hnew _).mono ?_); rintro e w' ⟨rfl, rfl⟩)
    | (go_at_call 14; (with_reducible refine (awake_calls _).mono ?_); rintro e w' ⟨rfl, ⟨nd, rfl⟩⟩))
  go_ret
  exact ⟨rfl, bl _⟩

theorem ends_yes (s t : ByteArray) (m : Nat) (w : World) (ht : t.size ≤ 2000) (hcut : ∀ w : World, Calls Try.prog 11 #[.string s, .int .i64 2000] w fun e w' => e = .returned (.string t) ∧ Drawn0 w w')
    (ok : Ok t m 0) : Calls Try.prog 6 #[.string s, .int .i64 m] w fun e w' => e = .returned (.bool true) ∧ Below w.heap.size w w' := by
  obtain ⟨n1, n2, k2, s2⟩ := ok
  have ok : Hid (∀ k, k + m ≤ t.size → Ok t m k) := fun k hk => ⟨n1, n2, hk, s2⟩
  have hnew : ∀ w' : World, w'.heap.size = w.heap.size → Below w.heap.size w w' → Calls Try.prog 16 #[.string t, .int .i64 m] w' fun e w'' =>
      e = .returned (.tuple #[.pointer (some ⟨w.heap.size, 0, none⟩), .int .i64 0]) ∧ Hid (St w'' w.heap.size t m 0) ∧ Hid (Below w.heap.size w w'') := by
    intro w' hw hb
    have h := new_st t m w' (ok.out 0 k2)
    rw [hw] at h
    exact h.mono fun e w'' ⟨h1, h2, h3, _⟩ => ⟨h1, h2, hb.trans h3⟩
  have bl : Hid (∀ k, Below w.heap.size w (w.drewN k)) := fun k => below_drewN (Below.refl _ _) k
  go_enter Try.func6, Try.ntmps6
  go_wp2_with (first
    | (go_at_call 11; (with_reducible refine (hcut _).mono ?_); rintro e w' ⟨rfl, ⟨nd, rfl⟩⟩)
    | (go_at_call 16; refine (hnew _ (by exact rfl) (bl.out _)).mono ?_; rintro e W1 ⟨rfl, st1, bl1⟩))
  generalize hbn : w.heap.size = b at *
  have bn : Hid (w.heap.size = b) := hbn
  clear hbn
  go_loopw [7] (fun i wr => ∃ k : Nat, k + m ≤ t.size ∧ i = .int .i64 k ∧ Hid (St wr b t m k) ∧ Hid (Below b w wr)) (fun i _ => t.size - m - (intOf i).toNat)
  case atStart => exact ⟨0, by omega, rfl, st1, bl1⟩
  case round =>
    obtain ⟨k, hk, rfl, hst, hbl⟩ := hrel
    clear st1 bl1 hnew hcut bl
    by_cases hlt : k + m < t.size
    · go_wp2_with (go_at_call 17; (with_reducible refine (next_st b t m k _ hst.out (ok.out k (by omega)) hlt).mono ?_); rintro e w' ⟨rfl, st2, on2⟩)
      go_roundw
      case rel => exact ⟨k + 1, by omega, by go_num, st2, hbl.out.trans (on2.below (Nat.le_refl _))⟩
      case measure => simp [intOf]; omega
    · have he : Hid (k + m = t.size) := by show _ = _; omega
      go_wp2_with (go_at_call 17; (with_reducible refine (next_end b t m k _ hst.out (ok.out k hk) he.out).mono ?_); rintro e w' ⟨rfl, ⟨nd, rfl⟩⟩)
      generalize hwq : wr.drewN nd = wq
      have stq : St wq b t m k := by rw [← hwq]; exact Blk.drewN hst.out nd
      have blq : Hid (Below b w wq) := by rw [← hwq]; exact below_drewN hbl.out nd
      clear hwq hst hbl
      have okk := ok.out k hk
      have c18 : ∀ n, Calls Try.prog 18 #[.pointer (some ⟨b, 0, none⟩)] (wq.drewN n) fun e w' => e = .returned (.int .i64 k) ∧ w' = wq.drewN n := fun n => (at_st b t m k _ (Blk.drewN stq n) okk).mono fun e w' ⟨h1, h2⟩ => ⟨h1, h2.symm⟩
      have c17 := fun n => next_end b t m k (wq.drewN n) (Blk.drewN stq n) okk he.out
      have c19 := fun n => sum_st b t m k (wq.drewN n) (Blk.drewN stq n)
      have c13 := fun n => ref_calls (t.extract k (k + m)) (by rw [ByteArray.size_extract]; omega) (wq.drewN n)
      rw [wk_extract t k m hk, he.out] at c13
      have g1 : ((k : Int) == (t.size : Int) - (m : Int)) = true := beq_iff_eq.2 (by have := he.out; omega)
      have g2 : (k : Int) ≤ t.size := by omega
      generalize wk t m k = x at *
      refine wp_region_quiet_lit (by kernel_rfl) (by kernel_rfl) ?_
      repeat (first | go_big_quiet_step ((first | (go_at_call 18; exact Calls.quiet_of_same (c18 _)) | (go_at_call 17; exact quiet0 (c17 _)) | (go_at_call 19; exact quiet0 (c19 _)) | (go_at_call 13; exact quiet0 (c13 _)) | (go_at_call 14; exact quiet0 (awake_calls _)))) | quiet_step ((first | (go_at_call 18; exact Calls.quiet_of_same (c18 _)) | (go_at_call 17; exact quiet0 (c17 _)) | (go_at_call 19; exact quiet0 (c19 _)) | (go_at_call 13; exact quiet0 (c13 _)) | (go_at_call 14; exact quiet0 (awake_calls _)))))
      refine wpQuiet_nil ?_
      intro _ hw'
      obtain ⟨nq, hw''⟩ := hw'
      subst hw''
      go_wp2
      go_ret
      exact ⟨rfl, by rw [bn.out]; exact below_drewN blq.out _⟩

theorem ends_law (s : ByteArray) (n : Int) (w : World) (_ : s.size ≤ 140737488351232) (_ : (Lit.int .i64 n).wf = true) :
    Calls Try.prog 6 #[.string s, .int .i64 n] w fun e w' => e = .returned (.bool true) ∧ Below w.heap.size w w' := by
  obtain ⟨t, ht, hcut⟩ := cut_calls s 2000
  by_cases h1 : n < 1 ∨ 1024 < n
  · exact ends_no s t n w hcut 1 (Or.inl rfl) (fun w => new_arg t n w h1)
  · by_cases h2 : (t.size : Int) < n
    · exact ends_no s t n w hcut 3 (Or.inr rfl) (fun w => new_short t n w (by omega) (by omega) h2)
    · obtain ⟨m, rfl⟩ := Int.eq_ofNat_of_zero_le (show 0 ≤ n by omega)
      exact ends_yes s t m w ht hcut ⟨by omega, by omega, by omega, by omega⟩
end Go.Proofs.Ytfebaciipigkmaa.Roll
