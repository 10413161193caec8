/- A window that goes on and skips: the law's own walk. -/
import Derived.Test.YtfebaciipigkmaaRollRef
namespace Go.Proofs.Ytfebaciipigkmaa.Roll
open Go.RowKit Go.Proofs.Ytfebaciipigkmaa.PRollEnds Go.Proofs.YtfebaciipigkmaaW.PrintWords Go.Proofs.YtfebaciipigkmaaW.PrintLast Go.Proofs.YtfebaciipigkmaaW.PrintMore Go.Proofs.Ytfebaciipigkmaa.RollMath

theorem wfb {n : Int} (h : (Lit.int .i64 n).wf = true) : -9223372036854775808 ≤ n ∧ n ≤ 9223372036854775807 := by
  simp [Lit.wf, IntKind.min, IntKind.max, IntKind.signed, IntKind.bits] at h
  omega

theorem skip_st (b : Nat) (s : ByteArray) (n k m p : Nat) (hp : k + m = p) (w : World) (st : St w b s n k) (ok : Ok s n p) :
    Calls Try.prog 20 #[.pointer (some ⟨b, 0, none⟩), .int .i64 m] w fun e w' => e = .returned (.bool true) ∧ St w' b s n p ∧ Only b w w' := by
  by_cases h : m < n
  · subst hp
    exact skip_near b s n k m w st ok h
  · exact skip_long b s n k m p hp w st ok (by omega)

theorem windows_arg (s t : ByteArray) (n : Int) (v : Value) (w : World) (hcut : ∀ w : World, Calls Try.prog 11 #[.string s, .int .i64 2000] w fun e w' => e = .returned (.string t) ∧ Drawn0 w w')
    (h : n < 1 ∨ 1024 < n) : Calls Try.prog 9 #[.string s, .int .i64 n, v] w fun e w' => e = .returned (.bool true) ∧ Below w.heap.size w w' := by
  have hnew := fun w => new_arg t n w h
  have bl : ∀ k, Below w.heap.size w (w.drewN k) := fun k => below_drewN (Below.refl _ _) k
  by_cases h1 : n < 1
  · clear h
    go_enter Try.func9, Try.ntmps9
    go_wp2_with (first
      | (go_at_call 11; (with_reducible refine (hcut _).mono ?_); rintro e w' ⟨rfl, ⟨nd, rfl⟩⟩)
      | (go_at_call 16; (with_reducible refine (hnew _).mono ?_); rintro e w' ⟨rfl, rfl⟩)
      | (go_at_call 14; (with_reducible refine (awake_calls _).mono ?_); rintro e w' ⟨rfl, ⟨nd, rfl⟩⟩))
    go_ret
    exact ⟨rfl, bl _⟩
  · have h2 : 1024 < n := by omega
    clear h
    go_enter Try.func9, Try.ntmps9
    go_wp2_with (first
      | (go_at_call 11; (with_reducible refine (hcut _).mono ?_); rintro e w' ⟨rfl, ⟨nd, rfl⟩⟩)
      | (go_at_call 16; (with_reducible refine (hnew _).mono ?_); rintro e w' ⟨rfl, rfl⟩)
      | (go_at_call 14; (with_reducible refine (awake_calls _).mono ?_); rintro e w' ⟨rfl, ⟨nd, rfl⟩⟩))
    go_ret
    exact ⟨rfl, bl _⟩
theorem windows_short (s t : ByteArray) (n : Int) (v : Value) (w : World) (hcut : ∀ w : World, Calls Try.prog 11 #[.string s, .int .i64 2000] w fun e w' => e = .returned (.string t) ∧ Drawn0 w w')
    (h1 : 1 ≤ n) (h2 : n ≤ 1024) (h3 : (t.size : Int) < n) : Calls Try.prog 9 #[.string s, .int .i64 n, v] w fun e w' => e = .returned (.bool true) ∧ Below w.heap.size w w' := by
  have hnew := fun w => new_short t n w h1 h2 h3
  have bl : ∀ k, Below w.heap.size w (w.drewN k) := fun k => below_drewN (Below.refl _ _) k
  go_enter Try.func9, Try.ntmps9
  go_wp2_with (first
    | (go_at_call 11; (with_reducible refine (hcut _).mono ?_); rintro e w' ⟨rfl, ⟨nd, rfl⟩⟩)
    | (go_at_call 16; (with_reducible refine (hnew _).mono ?_); rintro e w' ⟨rfl, rfl⟩)
    | (go_at_call 14; (with_reducible refine (awake_calls _).mono ?_); rintro e w' ⟨rfl, ⟨nd, rfl⟩⟩))
  go_ret
  exact ⟨rfl, bl _⟩

set_option maxRecDepth 100000 in
set_option maxHeartbeats 2000000 in
theorem windows_yes (s t : ByteArray) (m : Nat) (A : Option Addr) (cap : Nat) (l : List Int) (w : World) (ht : t.size ≤ 2000) (hcut : ∀ w : World, Calls Try.prog 11 #[.string s, .int .i64 2000] w fun e w' => e = .returned (.string t) ∧ Drawn0 w w')
    (ok0 : Ok t m 0) (hr : ReadsInt w .i64 A l.length l) (hl : l.length ≤ maxLen) (hw : ∀ x ∈ l, (Lit.int .i64 x).wf = true) :
    Calls Try.prog 9 #[.string s, .int .i64 m, .slice A l.length cap] w fun e w' => e = .returned (.bool true) ∧ Below w.heap.size w w' := by
  unfold maxLen at hl
  have ok : Hid (∀ k, k + m ≤ t.size → Ok t m k) := fun k hk => ⟨ok0.n1, ok0.n2, hk, ok0.s2⟩
  have n1 := ok0.n1
  have n2 := ok0.n2
  have k2 := ok0.k2
  have hnew : ∀ w' : World, w'.heap.size = w.heap.size → Below w.heap.size w w' → Calls Try.prog 16 #[.string t, .int .i64 m] w' fun e w'' =>
      e = .returned (.tuple #[.pointer (some ⟨w.heap.size, 0, none⟩), .int .i64 0]) ∧ Hid (St w'' w.heap.size t m 0) ∧ Hid (Below w.heap.size w w'') := by
    intro w' hw hb
    have h := new_st t m w' ok0
    rw [hw] at h
    exact h.mono fun e w'' ⟨h1, h2, h3, _⟩ => ⟨h1, h2, hb.trans h3⟩
  have bl : Hid (∀ k, Below w.heap.size w (w.drewN k)) := fun k => below_drewN (Below.refl _ _) k
  have dd : decide (t.size < m) = false := decide_eq_false (by omega)
  have RD : Hid (ReadsInt w .i64 A l.length l) := hr
  have WF : Hid (∀ x ∈ l, (Lit.int .i64 x).wf = true) := hw
  clear ok0 hr hw
  go_enter Try.func9, Try.ntmps9
  go_wp2_with (first
    | (go_at_call 11; (with_reducible refine (hcut _).mono ?_); rintro e w' ⟨rfl, ⟨nd, rfl⟩⟩)
    | (go_at_call 16; refine (hnew _ (by exact rfl) (bl.out _)).mono ?_; rintro e W1 ⟨rfl, st1, bl1⟩))
  have RDW : Hid (∀ w', Below w.heap.size w w' → ReadsInt w' .i64 A l.length l) := fun w' h => RD.out.below h
  clear hnew hcut bl RD
  generalize hbn : w.heap.size = b at *
  have bn : Hid (w.heap.size = b) := hbn
  clear hbn
  go_loopw [9, 10] (fun u i wr => ∃ (k j : Nat), u = .int .i64 k ∧ i = .int .i64 j ∧ k + m ≤ t.size ∧ j ≤ l.length ∧ j ≤ 60 ∧ Hid (St wr b t m k) ∧ Hid (Below b w wr)) (fun _ i _ => 60 - (intOf i).toNat)
  case atStart => exact ⟨0, 0, rfl, rfl, k2, by omega, by omega, st1, bl1⟩
  case round =>
    obtain ⟨k, j, rfl, rfl, hk, hj, hj2, st3, bl3⟩ := hrel
    clear st1 bl1
    have okk : Hid (Ok t m k) := ok.out k hk
    by_cases hlt : j < l.length
    · by_cases hlt2 : j < 60
      · have hmem : l.getD j 0 ∈ l := by rw [List.getD_eq_getElem?_getD, List.getElem?_eq_getElem hlt]; exact List.getElem_mem hlt
        obtain ⟨ad, rfl, hc⟩ := (RDW.out wr bl3.out).at_ j (by omega) (by omega)
        have hwf := WF.out _ hmem
        rw [show rd l j = l.getD j 0 from rfl, Int.toNat_natCast] at hc
        have hb := wfb hwf
        clear hmem hwf
        obtain ⟨hx1, hx2⟩ := hb
        generalize l.getD j 0 = x at *
        by_cases hneg : x < 0
        · have d0 : decide (x < 0) = true := decide_eq_true hneg
          by_cases hn : k + m < t.size
          · have d1 : decide ((1 : Int) ≤ (t.size : Int) - (m : Int) - (k : Int)) = true := decide_eq_true (by omega)
            
            have hk1 : (k + 1) + m ≤ t.size := by omega
            have okn : Hid (Ok t m (k + 1)) := ok.out _ hk1
            have i1 : ((k : Int) + 1) + (m : Int) ≤ (t.size : Int) := by omega
            have i2 : 0 ≤ ((k : Int) + 1) + (m : Int) := by omega
            have i3 : ((k : Int) + 1) ≤ ((k : Int) + 1) + (m : Int) := by omega
            have i4 : (((k : Int) + 1) + (m : Int)).toNat = (k + 1) + m := by omega
            have i5 : 0 ≤ ((k : Int) + 1) := by omega
            have i6 : (((k : Int) + 1)).toNat = (k + 1) := by omega
            go_wp2_with (go_at_call 17; (with_reducible refine (next_st b t m k _ st3.out okk.out hn).mono ?_); rintro e w4 ⟨rfl, st, oo⟩; have st4 : Hid (St w4 b t m (k + 1)) := st; have bl4 : Hid (Below b w w4) := bl3.out.trans (Only.below oo (Nat.le_refl _)); clear st oo)
            have stq : St w4 b t m (k + 1) := st4.out
            have c18 : ∀ n, Calls Try.prog 18 #[.pointer (some ⟨b, 0, none⟩)] (w4.drewN n) fun e w' => e = .returned (.int .i64 (((k : Int) + 1))) ∧ w' = w4.drewN n := fun n => by
              have h := at_st b t m (k + 1) _ (Blk.drewN stq n) okn.out
              rw [show (((k + 1) : Nat) : Int) = ((k : Int) + 1) from by omega] at h
              exact h.mono fun e w' ⟨h1, h2⟩ => ⟨h1, h2.symm⟩
            have c19 := fun n => sum_st b t m (k + 1) (w4.drewN n) (Blk.drewN stq n)
            have c13 := fun n => ref_calls (t.extract (k + 1) ((k + 1) + m)) (by rw [ByteArray.size_extract]; omega) (w4.drewN n)
            rw [wk_extract t (k + 1) m hk1] at c13
            generalize wk t m (k + 1) = z at *
            refine wp_region_quiet_lit (by kernel_rfl) (by kernel_rfl) ?_
            repeat (first | go_big_quiet_step ((first | (go_at_call 18; exact Calls.quiet_of_same (c18 _)) | (go_at_call 19; exact quiet0 (c19 _)) | (go_at_call 13; exact quiet0 (c13 _)))) | quiet_step ((first | (go_at_call 18; exact Calls.quiet_of_same (c18 _)) | (go_at_call 19; exact quiet0 (c19 _)) | (go_at_call 13; exact quiet0 (c13 _)))))
            refine wpQuiet_nil ?_
            intro _ hw'
            obtain ⟨nq, hw''⟩ := hw'
            subst hw''
            go_wp2
            go_roundw
            case rel => exact ⟨(k + 1), j + 1, by go_num, by go_num, hk1, by omega, by omega, Blk.drewN stq nq, below_drewN bl4.out nq⟩
            case measure => simp [intOf]; omega
          · have d1 : decide ((1 : Int) ≤ (t.size : Int) - (m : Int) - (k : Int)) = false := decide_eq_false (by omega)
            have he : Hid (k + m = t.size) := by show _ = _; omega
            
            have hk1 : k + m ≤ t.size := by omega
            have okn : Hid (Ok t m k) := ok.out _ hk1
            have i1 : (k : Int) + (m : Int) ≤ (t.size : Int) := by omega
            have i2 : 0 ≤ (k : Int) + (m : Int) := by omega
            have i3 : (k : Int) ≤ (k : Int) + (m : Int) := by omega
            have i4 : ((k : Int) + (m : Int)).toNat = k + m := by omega
            have i5 : 0 ≤ (k : Int) := by omega
            have i6 : ((k : Int)).toNat = k := by omega
            go_wp2_with (go_at_call 17; (with_reducible refine (next_end b t m k _ st3.out okk.out he.out).mono ?_); rintro e w4 ⟨rfl, dr⟩; have oo := Only.drawn (b := b) dr; have st4 : Hid (St w4 b t m k) := (by obtain ⟨q, rfl⟩ := dr; exact Blk.drewN st3.out q); have bl4 : Hid (Below b w w4) := bl3.out.trans (Only.below oo (Nat.le_refl _)); clear dr oo)
            have stq : St w4 b t m k := st4.out
            have c18 : ∀ n, Calls Try.prog 18 #[.pointer (some ⟨b, 0, none⟩)] (w4.drewN n) fun e w' => e = .returned (.int .i64 ((k : Int))) ∧ w' = w4.drewN n := fun n => by
              have h := at_st b t m k _ (Blk.drewN stq n) okn.out
              rw [show ((k : Nat) : Int) = (k : Int) from by omega] at h
              exact h.mono fun e w' ⟨h1, h2⟩ => ⟨h1, h2.symm⟩
            have c19 := fun n => sum_st b t m k (w4.drewN n) (Blk.drewN stq n)
            have c13 := fun n => ref_calls (t.extract k (k + m)) (by rw [ByteArray.size_extract]; omega) (w4.drewN n)
            rw [wk_extract t k m hk1] at c13
            generalize wk t m k = z at *
            refine wp_region_quiet_lit (by kernel_rfl) (by kernel_rfl) ?_
            repeat (first | go_big_quiet_step ((first | (go_at_call 18; exact Calls.quiet_of_same (c18 _)) | (go_at_call 19; exact quiet0 (c19 _)) | (go_at_call 13; exact quiet0 (c13 _)))) | quiet_step ((first | (go_at_call 18; exact Calls.quiet_of_same (c18 _)) | (go_at_call 19; exact quiet0 (c19 _)) | (go_at_call 13; exact quiet0 (c13 _)))))
            refine wpQuiet_nil ?_
            intro _ hw'
            obtain ⟨nq, hw''⟩ := hw'
            subst hw''
            go_wp2
            go_roundw
            case rel => exact ⟨k, j + 1, by go_num, by go_num, hk1, by omega, by omega, Blk.drewN stq nq, below_drewN bl4.out nq⟩
            case measure => simp [intOf]; omega
        · obtain ⟨y, rfl⟩ := Int.eq_ofNat_of_zero_le (show 0 ≤ x by omega)
          have d0 : decide ((y : Int) < 0) = false := decide_eq_false hneg
          by_cases hn : k + y + m ≤ t.size
          · have d1 : decide ((y : Int) ≤ (t.size : Int) - (m : Int) - (k : Int)) = true := decide_eq_true (by omega)
            have okn0 : Hid (Ok t m (k + y)) := ok.out _ hn
            
            have hk1 : (k + y) + m ≤ t.size := by omega
            have okn : Hid (Ok t m (k + y)) := ok.out _ hk1
            have i1 : ((k : Int) + (y : Int)) + (m : Int) ≤ (t.size : Int) := by omega
            have i2 : 0 ≤ ((k : Int) + (y : Int)) + (m : Int) := by omega
            have i3 : ((k : Int) + (y : Int)) ≤ ((k : Int) + (y : Int)) + (m : Int) := by omega
            have i4 : (((k : Int) + (y : Int)) + (m : Int)).toNat = (k + y) + m := by omega
            have i5 : 0 ≤ ((k : Int) + (y : Int)) := by omega
            have i6 : (((k : Int) + (y : Int))).toNat = (k + y) := by omega
            go_wp2_with (go_at_call 20; (with_reducible refine (skip_st b t m k y (k + y) rfl _ st3.out okn0.out).mono ?_); rintro e w4 ⟨rfl, st, oo⟩; have st4 : Hid (St w4 b t m (k + y)) := st; have bl4 : Hid (Below b w w4) := bl3.out.trans (Only.below oo (Nat.le_refl _)); clear st oo)
            have stq : St w4 b t m (k + y) := st4.out
            have c18 : ∀ n, Calls Try.prog 18 #[.pointer (some ⟨b, 0, none⟩)] (w4.drewN n) fun e w' => e = .returned (.int .i64 (((k : Int) + (y : Int)))) ∧ w' = w4.drewN n := fun n => by
              have h := at_st b t m (k + y) _ (Blk.drewN stq n) okn.out
              rw [show (((k + y) : Nat) : Int) = ((k : Int) + (y : Int)) from by omega] at h
              exact h.mono fun e w' ⟨h1, h2⟩ => ⟨h1, h2.symm⟩
            have c19 := fun n => sum_st b t m (k + y) (w4.drewN n) (Blk.drewN stq n)
            have c13 := fun n => ref_calls (t.extract (k + y) ((k + y) + m)) (by rw [ByteArray.size_extract]; omega) (w4.drewN n)
            rw [wk_extract t (k + y) m hk1] at c13
            generalize wk t m (k + y) = z at *
            refine wp_region_quiet_lit (by kernel_rfl) (by kernel_rfl) ?_
            repeat (first | go_big_quiet_step ((first | (go_at_call 18; exact Calls.quiet_of_same (c18 _)) | (go_at_call 19; exact quiet0 (c19 _)) | (go_at_call 13; exact quiet0 (c13 _)))) | quiet_step ((first | (go_at_call 18; exact Calls.quiet_of_same (c18 _)) | (go_at_call 19; exact quiet0 (c19 _)) | (go_at_call 13; exact quiet0 (c13 _)))))
            refine wpQuiet_nil ?_
            intro _ hw'
            obtain ⟨nq, hw''⟩ := hw'
            subst hw''
            go_wp2
            go_roundw
            case rel => exact ⟨(k + y), j + 1, by go_num, by go_num, hk1, by omega, by omega, Blk.drewN stq nq, below_drewN bl4.out nq⟩
            case measure => simp [intOf]; omega
          · have d1 : decide ((y : Int) ≤ (t.size : Int) - (m : Int) - (k : Int)) = false := decide_eq_false (by omega)
            have hf1 : 0 ≤ (y : Int) := by omega
            have hf2 : (t.size : Int) - (m : Int) - (k : Int) < (y : Int) := by omega
            
            have hk1 : k + m ≤ t.size := by omega
            have okn : Hid (Ok t m k) := ok.out _ hk1
            have i1 : (k : Int) + (m : Int) ≤ (t.size : Int) := by omega
            have i2 : 0 ≤ (k : Int) + (m : Int) := by omega
            have i3 : (k : Int) ≤ (k : Int) + (m : Int) := by omega
            have i4 : ((k : Int) + (m : Int)).toNat = k + m := by omega
            have i5 : 0 ≤ (k : Int) := by omega
            have i6 : ((k : Int)).toNat = k := by omega
            go_wp2_with (go_at_call 20; (with_reducible refine (skip_far b t m k y _ st3.out okk.out hf1 hf2).mono ?_); rintro e w4 ⟨rfl, dr⟩; have oo := Only.drawn (b := b) dr; have st4 : Hid (St w4 b t m k) := (by obtain ⟨q, rfl⟩ := dr; exact Blk.drewN st3.out q); have bl4 : Hid (Below b w w4) := bl3.out.trans (Only.below oo (Nat.le_refl _)); clear dr oo)
            have stq : St w4 b t m k := st4.out
            have c18 : ∀ n, Calls Try.prog 18 #[.pointer (some ⟨b, 0, none⟩)] (w4.drewN n) fun e w' => e = .returned (.int .i64 ((k : Int))) ∧ w' = w4.drewN n := fun n => by
              have h := at_st b t m k _ (Blk.drewN stq n) okn.out
              rw [show ((k : Nat) : Int) = (k : Int) from by omega] at h
              exact h.mono fun e w' ⟨h1, h2⟩ => ⟨h1, h2.symm⟩
            have c19 := fun n => sum_st b t m k (w4.drewN n) (Blk.drewN stq n)
            have c13 := fun n => ref_calls (t.extract k (k + m)) (by rw [ByteArray.size_extract]; omega) (w4.drewN n)
            rw [wk_extract t k m hk1] at c13
            generalize wk t m k = z at *
            refine wp_region_quiet_lit (by kernel_rfl) (by kernel_rfl) ?_
            repeat (first | go_big_quiet_step ((first | (go_at_call 18; exact Calls.quiet_of_same (c18 _)) | (go_at_call 19; exact quiet0 (c19 _)) | (go_at_call 13; exact quiet0 (c13 _)))) | quiet_step ((first | (go_at_call 18; exact Calls.quiet_of_same (c18 _)) | (go_at_call 19; exact quiet0 (c19 _)) | (go_at_call 13; exact quiet0 (c13 _)))))
            refine wpQuiet_nil ?_
            intro _ hw'
            obtain ⟨nq, hw''⟩ := hw'
            subst hw''
            go_wp2
            go_roundw
            case rel => exact ⟨k, j + 1, by go_num, by go_num, hk1, by omega, by omega, Blk.drewN stq nq, below_drewN bl4.out nq⟩
            case measure => simp [intOf]; omega
      · obtain rfl : j = 60 := by omega
        go_wp2_with (first | (go_at_call 20; (with_reducible refine (skip_neg b t m k (-1) _ st3.out okk.out (by decide)).mono ?_); rintro e w4 ⟨rfl, dr⟩; have oo := Only.drawn (b := b) dr; have st4 : Hid (St w4 b t m k) := (by obtain ⟨q, rfl⟩ := dr; exact Blk.drewN st3.out q); have bl4 : Hid (Below b w w4) := bl3.out.trans (Only.below oo (Nat.le_refl _)); clear dr oo) | (go_at_call 18; (with_reducible refine (at_st b t m k _ st4.out okk.out).mono ?_); rintro e w' ⟨rfl, rfl⟩) | (go_at_call 14; (with_reducible refine (awake_calls _).mono ?_); rintro e w5 ⟨rfl, d5⟩))
        go_ret
        refine ⟨rfl, ?_⟩
        rw [bn.out]
        exact bl4.out.trans ((Only.drawn (b := b) d5).below (Nat.le_refl _))
    · have hjl : l.length ≤ j := by omega
      go_wp2_with (first | (go_at_call 20; (with_reducible refine (skip_neg b t m k (-1) _ st3.out okk.out (by decide)).mono ?_); rintro e w4 ⟨rfl, dr⟩; have oo := Only.drawn (b := b) dr; have st4 : Hid (St w4 b t m k) := (by obtain ⟨q, rfl⟩ := dr; exact Blk.drewN st3.out q); have bl4 : Hid (Below b w w4) := bl3.out.trans (Only.below oo (Nat.le_refl _)); clear dr oo) | (go_at_call 18; (with_reducible refine (at_st b t m k _ st4.out okk.out).mono ?_); rintro e w' ⟨rfl, rfl⟩) | (go_at_call 14; (with_reducible refine (awake_calls _).mono ?_); rintro e w5 ⟨rfl, d5⟩))
      go_ret
      refine ⟨rfl, ?_⟩
      rw [bn.out]
      exact bl4.out.trans ((Only.drawn (b := b) d5).below (Nat.le_refl _))

theorem windows_law (s : ByteArray) (n : Int) (A : Option Addr) (len cap : Nat) (z : List Int) (w : World) (_ : s.size ≤ 140737488351232) (_ : (Lit.int .i64 n).wf = true)
    (hz : (A = none ∧ len = 0 ∧ cap = 0 ∧ z = []) ∨ ∃ x, A = some x ∧ len ≤ cap ∧ cap ≤ maxLen ∧ z.length = cap ∧ (∀ i, i < z.length → w.cell? (x.add i) = some (.int .i64 (z.getD i 0))) ∧ ∀ n ∈ z, (Lit.int .i64 n).wf = true) (_ : len * 8 ≤ 140737488351232) :
    Calls Try.prog 9 #[.string s, .int .i64 n, .slice A len cap] w fun e w' => e = .returned (.bool true) ∧ Below w.heap.size w w' := by
  obtain ⟨t, ht, hcut⟩ := cut_calls s 2000
  obtain ⟨l, rfl, hr, hm, hw, _⟩ := ReadsInt.ofRowC hz
  by_cases h1 : n < 1 ∨ 1024 < n
  · exact windows_arg s t n _ w hcut h1
  · by_cases h2 : (t.size : Int) < n
    · exact windows_short s t n _ w hcut (by omega) (by omega) h2
    · obtain ⟨m, rfl⟩ := Int.eq_ofNat_of_zero_le (show 0 ≤ n by omega)
      exact windows_yes s t m A cap l w ht hcut ⟨by omega, by omega, by omega, by omega⟩ hr hm hw
end Go.Proofs.Ytfebaciipigkmaa.Roll
