/- What Find of a rolling window does: the places at which a text stands in another one, in order. -/
import Derived.Test.YtfebaciipigkmaaRollAll
namespace Go.Proofs.Ytfebaciipigkmaa.Roll
open Go.RowKit Go.Proofs.Ytfebaciipigkmaa.PRollEnds Go.Proofs.YtfebaciipigkmaaW.PrintWords Go.Proofs.YtfebaciipigkmaaW.PrintLast Go.Proofs.YtfebaciipigkmaaW.PrintMore Go.Proofs.Ytfebaciipigkmaa.RollMath

/-- does a text stand at a place? -/
def hit (s q : ByteArray) (i : Nat) : Bool := decide ((s.extract i (i + q.size)).toList = q.toList)
/-- the places among the first m -/
def finds (s q : ByteArray) : Nat → List Int
  | 0 => []
  | m + 1 => if hit s q m = true then finds s q m ++ [(m : Int)] else finds s q m
theorem finds_yes (s q : ByteArray) (m : Nat) (h : hit s q m = true) : finds s q (m + 1) = finds s q m ++ [(m : Int)] := by simp only [finds]; rw [if_pos h]
theorem finds_no (s q : ByteArray) (m : Nat) (h : hit s q m = false) : finds s q (m + 1) = finds s q m := by simp only [finds]; rw [if_neg (by rw [h]; decide)]
theorem finds_len (s q : ByteArray) : ∀ m, (finds s q m).length ≤ m
  | 0 => by simp [finds]
  | m + 1 => by
    have := finds_len s q m
    cases h : hit s q m
    · rw [finds_no s q m h]; omega
    · rw [finds_yes s q m h, List.length_append, List.length_singleton]; omega
theorem hit_yes {s q : ByteArray} {i : Nat} (h : hit s q i = true) (hi : i + q.size ≤ s.size) : ((s.extract i (i + q.size)).toList == q.toList) = true ∧ wk s q.size i = wk q q.size 0 := by
  have h1 : (s.extract i (i + q.size)).toList = q.toList := of_decide_eq_true h
  refine ⟨beq_iff_eq.2 h1, ?_⟩
  rw [ByteArray.toList_eq, ByteArray.toList_eq] at h1
  have h2 : s.extract i (i + q.size) = q := ByteArray.ext (Array.toList_inj.1 h1)
  rw [← wk_extract s i q.size hi, h2]
theorem hit_no {s q : ByteArray} {i : Nat} (h : hit s q i = false) : ((s.extract i (i + q.size)).toList == q.toList) = false := by
  have h1 : ¬ (s.extract i (i + q.size)).toList = q.toList := of_decide_eq_false h
  exact beq_eq_false_iff_ne.2 h1

theorem notnil (q : ByteArray) (h : 1 ≤ q.size) : q.toList.isEmpty = false ∧ ¬ q.toList = [] := by
  have e : ¬ q.toList = [] := by
    rw [ByteArray.toList_eq]
    intro e
    have h0 : q.size = 0 := by show q.data.size = 0; rw [← Array.length_toList, e]; rfl
    omega
  exact ⟨by rw [List.isEmpty_eq_false_iff]; exact e, e⟩

theorem find_none (s q : ByteArray) (w : World) (h : q.size = 0) : Calls Try.prog 24 #[.string s, .string q] w fun e w' => e = .returned (.tuple #[.slice none 0 0, .int .i64 1]) ∧ w = w' := by
  obtain rfl : q = ⟨#[]⟩ := ByteArray.ext (Array.size_eq_zero_iff.1 h)
  clear h
  go_enter Try.func24, Try.ntmps24
  go_wp2
  go_ret2
  exact ⟨rfl, rfl⟩
theorem find_long (s q : ByteArray) (w : World) (h : 1024 < q.size) : Calls Try.prog 24 #[.string s, .string q] w fun e w' => e = .returned (.tuple #[.slice none 0 0, .int .i64 1]) ∧ w = w' := by
  obtain ⟨hq, hq2⟩ := notnil q (by omega)
  go_enter Try.func24, Try.ntmps24
  go_wp2
  go_ret2
  exact ⟨rfl, rfl⟩
theorem find_short (s q : ByteArray) (w : World) (h1 : 1 ≤ q.size) (h2 : q.size ≤ 1024) (h3 : s.size < q.size) : Calls Try.prog 24 #[.string s, .string q] w fun e w' => e = .returned (.tuple #[.slice none 0 0, .int .i64 0]) ∧ w = w' := by
  obtain ⟨hq, hq2⟩ := notnil q (by omega)
  have c := fun w => new_short s q.size w (by omega) (by omega) (by omega)
  go_enter Try.func24, Try.ntmps24
  go_wp2_with (go_at_call 16; (with_reducible refine (c _).mono ?_); rintro e w' ⟨rfl, rfl⟩)
  go_ret2
  exact ⟨rfl, rfl⟩

set_option maxHeartbeats 2000000 in
theorem find_st (s q : ByteArray) (w : World) (ok0 : Ok s q.size 0) (hs0 : s.size ≤ 3000) : Calls Try.prog 24 #[.string s, .string q] w fun e w' =>
    ∃ v, e = .returned (.tuple #[v, .int .i64 0]) ∧ Hid (Ints w' w.heap.size v (finds s q (s.size - q.size + 1))) ∧ Hid (Below w.heap.size w w') := by
  have ok : Hid (∀ k, k + q.size ≤ s.size → Ok s q.size k) := fun k hk => ⟨ok0.n1, ok0.n2, hk, ok0.s2⟩
  have n1 := ok0.n1
  have n2 := ok0.n2
  have k2 := ok0.k2
  have hnew : Calls Try.prog 16 #[.string s, .int .i64 q.size] w fun e w' => e = .returned (.tuple #[.pointer (some ⟨w.heap.size, 0, none⟩), .int .i64 0]) ∧ Hid (St w' w.heap.size s q.size 0) ∧ Hid (Below w.heap.size w w') ∧ w.heap.size < w'.heap.size :=
    (new_st s q.size w ok0).mono fun e w' ⟨h1, h2, h3, h4⟩ => ⟨h1, h2, h3, by omega⟩
  clear ok0
  obtain ⟨hq, hq2⟩ := notnil q (by omega)
  have hsum := fun w => sum_calls q (by omega) w
  obtain ⟨wv, hwv⟩ : ∃ wv, wk q q.size 0 = wv := ⟨_, rfl⟩
  rw [hwv] at hsum
  have HW : Hid (wk q q.size 0 = wv) := hwv
  clear hwv
  go_enter Try.func24, Try.ntmps24
  go_wp2_with (first
    | (go_at_call 16; refine hnew.mono ?_; rintro e W1 ⟨rfl, st1, bl1, lt1⟩)
    | (go_at_call 12; (with_reducible refine (hsum _).mono ?_); rintro e W2 ⟨rfl, dr⟩))
  have st2 : Hid (St W2 w.heap.size s q.size 0) := by
    obtain ⟨k, rfl⟩ := dr
    exact Blk.drewN st1.out k
  have bl2 : Hid (Below w.heap.size w W2) := by
    obtain ⟨k, rfl⟩ := dr
    exact below_drewN bl1.out k
  have on2 : Hid (Ints W2 w.heap.size (.slice none 0 0) (finds s q 0)) := Kd.R_nil _ _ _ _ _
  clear dr st1 bl1 lt1 hnew hsum
  generalize hbn : w.heap.size = b at *
  have bn : Hid (w.heap.size = b) := hbn
  clear hbn
  go_loopg [9] (s.size - q.size) (fun gk v wr => ∃ k : Nat, k + q.size + gk = s.size ∧ Hid (St wr b s q.size k) ∧ Hid (Ints wr b v (finds s q k)) ∧ Hid (Below b w wr))
  case atStart => exact ⟨0, by omega, st2, on2, bl2⟩
  case round =>
    obtain ⟨k, hk, st3, on3, bl3⟩ := hrel
    clear st2 on2 bl2
    have hk2 : k + q.size ≤ s.size := by omega
    have okk : Hid (Ok s q.size k) := ok.out k hk2
    have HK : Hid (k + q.size + gk = s.size) := hk
    clear hk
    have i1 : (k : Int) + (q.size : Int) ≤ (s.size : Int) := by omega
    have i2 : 0 ≤ (k : Int) + (q.size : Int) := by omega
    have i3 : (k : Int) ≤ (k : Int) + (q.size : Int) := by omega
    have i4 : ((k : Int) + (q.size : Int)).toNat = k + q.size := by omega
    have lt3 : Hid (b < wr.heap.size) := Blk.lt st3.out
    cases hh : hit s q k with
    | true =>
      obtain ⟨g2, hw⟩ := hit_yes hh hk2
      rw [HW.out] at hw
      have g1 : (wk s q.size k == wv) = true := beq_iff_eq.2 hw
      clear hw
      have hl0 := finds_len s q k
      have hl2 : Hid (((finds s q k).length + 1) * 8 ≤ 140737488355328) := by show (_ : Nat) ≤ _; omega
      have hs : Hid (finds s q k ++ [(k : Int)] = finds s q (k + 1)) := (finds_yes s q k hh).symm
      clear hh hl0
      generalize h2e : finds s q (k + 1) = l2 at *
      have H2 : Hid (finds s q (k + 1) = l2) := h2e
      clear h2e
      generalize finds s q k = l1 at *
      by_cases hlt : k + q.size < s.size
      · have okk1 : Hid (Ok s q.size (k + 1)) := ok.out (k + 1) (by omega)
        go_wp2_with (first
          | (go_at_call 18; (with_reducible refine (at_st b s q.size k _ st3.out okk.out).mono ?_); rintro e w' ⟨rfl, rfl⟩)
          | (go_at_call 19; (with_reducible refine (sum_st b s q.size k _ st3.out).mono ?_); rintro e W4 ⟨rfl, dr⟩; have dr1 := Only.drawn (b := b) dr; have st6 : Hid (St W4 b s q.size k) := (by obtain ⟨q, rfl⟩ := dr; exact Blk.drewN st3.out q); have on6 : Hid (Ints W4 b u9 l1) := on3.out.only dr1; have bl6 : Hid (Below b w W4) := bl3.out.trans (dr1.below (Nat.le_refl _)); have lt6 : Hid (b < W4.heap.size) := Blk.lt st6.out; clear dr dr1)
          | ((with_reducible refine gate_builtin (b := .append) (xs := #[.tmp 46, .tmp 48]) rfl ?_); at_builtin; refine Kd.R_append (Kd.int .i64) (w0 := w) b rfl (.tmp 46) (.tmp 48) 39 3 (.int .i64 0) 8 rfl Try.underlying39 info3 rfl (by decide) (by omega) u9 l1 (k : Int) [.int .i64 (k : Int)] (fun k => k ≠ b) (fun _ => False) rfl rfl ?aP (fun _ hk => hk.elim) ?aF ?aO ?aB ?aS ?aL ?_; (case aP => exact rfl); (case aB => exact bl6.out); (case aF => exact (fun q hq => by have := lt6.out; omega)); (case aO => exact on6.out); (case aS => exact (Nat.le_of_lt lt6.out)); (case aL => exact hl2.out); intro v7 W7 ho hb hg hat; have on7 : Hid (Ints W7 b v7 l2) := (by rw [← hs.out]; exact ho); have bl7 : Hid (Below b w W7) := hb; have st7 : Hid (St W7 b s q.size k) := Blk.grown st6.out hg (fun e => on6.out.1 b e.symm rfl); clear ho hb hg hat)
          | (go_at_call 17; (with_reducible refine (next_st b s q.size k _ st7.out okk.out hlt).mono ?_); rintro e W8 ⟨rfl, st8, oo8⟩; have st9 : Hid (St W8 b s q.size (k + 1)) := st8; have on9 : Hid (Ints W8 b v7 l2) := (Ints.only on7.out oo8); have bl9 : Hid (Below b w W8) := bl7.out.trans (oo8.below (Nat.le_refl _)); clear st8 oo8))
        go_roundg (gk - 1)
        case measure => have := HK.out; omega
        case rel => exact ⟨k + 1, by have := HK.out; omega, st9, by rw [H2.out]; exact on9, bl9⟩
      · have he : Hid (k + q.size = s.size) := by show _ = _; omega
        go_wp2_with (first
          | (go_at_call 18; (with_reducible refine (at_st b s q.size k _ st3.out okk.out).mono ?_); rintro e w' ⟨rfl, rfl⟩)
          | (go_at_call 19; (with_reducible refine (sum_st b s q.size k _ st3.out).mono ?_); rintro e W4 ⟨rfl, dr⟩; have dr1 := Only.drawn (b := b) dr; have st6 : Hid (St W4 b s q.size k) := (by obtain ⟨q, rfl⟩ := dr; exact Blk.drewN st3.out q); have on6 : Hid (Ints W4 b u9 l1) := on3.out.only dr1; have bl6 : Hid (Below b w W4) := bl3.out.trans (dr1.below (Nat.le_refl _)); have lt6 : Hid (b < W4.heap.size) := Blk.lt st6.out; clear dr dr1)
          | ((with_reducible refine gate_builtin (b := .append) (xs := #[.tmp 46, .tmp 48]) rfl ?_); at_builtin; refine Kd.R_append (Kd.int .i64) (w0 := w) b rfl (.tmp 46) (.tmp 48) 39 3 (.int .i64 0) 8 rfl Try.underlying39 info3 rfl (by decide) (by omega) u9 l1 (k : Int) [.int .i64 (k : Int)] (fun k => k ≠ b) (fun _ => False) rfl rfl ?aP (fun _ hk => hk.elim) ?aF ?aO ?aB ?aS ?aL ?_; (case aP => exact rfl); (case aB => exact bl6.out); (case aF => exact (fun q hq => by have := lt6.out; omega)); (case aO => exact on6.out); (case aS => exact (Nat.le_of_lt lt6.out)); (case aL => exact hl2.out); intro v7 W7 ho hb hg hat; have on7 : Hid (Ints W7 b v7 l2) := (by rw [← hs.out]; exact ho); have bl7 : Hid (Below b w W7) := hb; have st7 : Hid (St W7 b s q.size k) := Blk.grown st6.out hg (fun e => on6.out.1 b e.symm rfl); clear ho hb hg hat)
          | (go_at_call 17; (with_reducible refine (next_end b s q.size k _ st7.out okk.out he.out).mono ?_); rintro e W8 ⟨rfl, d8⟩; have oo8 := Only.drawn (b := b) d8; have on9 : Hid (Ints W8 b v7 l2) := (Ints.only on7.out oo8); have bl9 : Hid (Below b w W8) := bl7.out.trans (oo8.below (Nat.le_refl _)); clear d8 oo8))
        go_ret2
        refine ⟨_, rfl, ?_, ?_⟩
        · rw [show s.size - q.size + 1 = k + 1 from by have := he.out; omega, bn.out, H2.out]
          exact on9
        · rw [bn.out]
          exact bl9
    | false =>
      have g2 := hit_no hh
      rw [show finds s q k = finds s q (k + 1) from (finds_no s q k hh).symm] at on3
      clear hh
      by_cases hw : wk s q.size k = wv
      · have g1 : (wk s q.size k == wv) = true := beq_iff_eq.2 hw
        clear hw
        generalize h2e : finds s q (k + 1) = l2 at *
        have H2 : Hid (finds s q (k + 1) = l2) := h2e
        clear h2e
        have l2e : Hid True := trivial
        by_cases hlt : k + q.size < s.size
        · have okk1 : Hid (Ok s q.size (k + 1)) := ok.out (k + 1) (by omega)
          go_wp2_with (first
            | (go_at_call 18; (with_reducible refine (at_st b s q.size k _ st3.out okk.out).mono ?_); rintro e w' ⟨rfl, rfl⟩)
            | (go_at_call 19; (with_reducible refine (sum_st b s q.size k _ st3.out).mono ?_); rintro e W4 ⟨rfl, dr⟩; have dr1 := Only.drawn (b := b) dr; have st6 : Hid (St W4 b s q.size k) := (by obtain ⟨q, rfl⟩ := dr; exact Blk.drewN st3.out q); have on6 : Hid (Ints W4 b u9 l2) := on3.out.only dr1; have bl6 : Hid (Below b w W4) := bl3.out.trans (dr1.below (Nat.le_refl _)); have lt6 : Hid (b < W4.heap.size) := Blk.lt st6.out; clear dr dr1)
            | (go_at_call 17; (with_reducible refine (next_st b s q.size k _ st6.out okk.out hlt).mono ?_); rintro e W8 ⟨rfl, st8, oo8⟩; have st9 : Hid (St W8 b s q.size (k + 1)) := st8; have on9 : Hid (Ints W8 b u9 l2) := (Ints.only on6.out oo8); have bl9 : Hid (Below b w W8) := bl6.out.trans (oo8.below (Nat.le_refl _)); clear st8 oo8))
          go_roundg (gk - 1)
          case measure => have := HK.out; omega
          case rel => exact ⟨k + 1, by have := HK.out; omega, st9, by rw [H2.out]; exact on9, bl9⟩
        · have he : Hid (k + q.size = s.size) := by show _ = _; omega
          go_wp2_with (first
            | (go_at_call 18; (with_reducible refine (at_st b s q.size k _ st3.out okk.out).mono ?_); rintro e w' ⟨rfl, rfl⟩)
            | (go_at_call 19; (with_reducible refine (sum_st b s q.size k _ st3.out).mono ?_); rintro e W4 ⟨rfl, dr⟩; have dr1 := Only.drawn (b := b) dr; have st6 : Hid (St W4 b s q.size k) := (by obtain ⟨q, rfl⟩ := dr; exact Blk.drewN st3.out q); have on6 : Hid (Ints W4 b u9 l2) := on3.out.only dr1; have bl6 : Hid (Below b w W4) := bl3.out.trans (dr1.below (Nat.le_refl _)); have lt6 : Hid (b < W4.heap.size) := Blk.lt st6.out; clear dr dr1)
            | (go_at_call 17; (with_reducible refine (next_end b s q.size k _ st6.out okk.out he.out).mono ?_); rintro e W8 ⟨rfl, d8⟩; have oo8 := Only.drawn (b := b) d8; have on9 : Hid (Ints W8 b u9 l2) := (Ints.only on6.out oo8); have bl9 : Hid (Below b w W8) := bl6.out.trans (oo8.below (Nat.le_refl _)); clear d8 oo8))
          go_ret2
          refine ⟨_, rfl, ?_, ?_⟩
          · rw [show s.size - q.size + 1 = k + 1 from by have := he.out; omega, bn.out, H2.out]
            exact on9
          · rw [bn.out]
            exact bl9
      · have g1 : (wk s q.size k == wv) = false := beq_eq_false_iff_ne.2 hw
        clear hw
        generalize h2e : finds s q (k + 1) = l2 at *
        have H2 : Hid (finds s q (k + 1) = l2) := h2e
        clear h2e
        have l2e : Hid True := trivial
        by_cases hlt : k + q.size < s.size
        · have okk1 : Hid (Ok s q.size (k + 1)) := ok.out (k + 1) (by omega)
          go_wp2_with (first
            | (go_at_call 18; (with_reducible refine (at_st b s q.size k _ st3.out okk.out).mono ?_); rintro e w' ⟨rfl, rfl⟩)
            | (go_at_call 19; (with_reducible refine (sum_st b s q.size k _ st3.out).mono ?_); rintro e W4 ⟨rfl, dr⟩; have dr1 := Only.drawn (b := b) dr; have st6 : Hid (St W4 b s q.size k) := (by obtain ⟨q, rfl⟩ := dr; exact Blk.drewN st3.out q); have on6 : Hid (Ints W4 b u9 l2) := on3.out.only dr1; have bl6 : Hid (Below b w W4) := bl3.out.trans (dr1.below (Nat.le_refl _)); have lt6 : Hid (b < W4.heap.size) := Blk.lt st6.out; clear dr dr1)
            | (go_at_call 17; (with_reducible refine (next_st b s q.size k _ st6.out okk.out hlt).mono ?_); rintro e W8 ⟨rfl, st8, oo8⟩; have st9 : Hid (St W8 b s q.size (k + 1)) := st8; have on9 : Hid (Ints W8 b u9 l2) := (Ints.only on6.out oo8); have bl9 : Hid (Below b w W8) := bl6.out.trans (oo8.below (Nat.le_refl _)); clear st8 oo8))
          go_roundg (gk - 1)
          case measure => have := HK.out; omega
          case rel => exact ⟨k + 1, by have := HK.out; omega, st9, by rw [H2.out]; exact on9, bl9⟩
        · have he : Hid (k + q.size = s.size) := by show _ = _; omega
          go_wp2_with (first
            | (go_at_call 18; (with_reducible refine (at_st b s q.size k _ st3.out okk.out).mono ?_); rintro e w' ⟨rfl, rfl⟩)
            | (go_at_call 19; (with_reducible refine (sum_st b s q.size k _ st3.out).mono ?_); rintro e W4 ⟨rfl, dr⟩; have dr1 := Only.drawn (b := b) dr; have st6 : Hid (St W4 b s q.size k) := (by obtain ⟨q, rfl⟩ := dr; exact Blk.drewN st3.out q); have on6 : Hid (Ints W4 b u9 l2) := on3.out.only dr1; have bl6 : Hid (Below b w W4) := bl3.out.trans (dr1.below (Nat.le_refl _)); have lt6 : Hid (b < W4.heap.size) := Blk.lt st6.out; clear dr dr1)
            | (go_at_call 17; (with_reducible refine (next_end b s q.size k _ st6.out okk.out he.out).mono ?_); rintro e W8 ⟨rfl, d8⟩; have oo8 := Only.drawn (b := b) d8; have on9 : Hid (Ints W8 b u9 l2) := (Ints.only on6.out oo8); have bl9 : Hid (Below b w W8) := bl6.out.trans (oo8.below (Nat.le_refl _)); clear d8 oo8))
          go_ret2
          refine ⟨_, rfl, ?_, ?_⟩
          · rw [show s.size - q.size + 1 = k + 1 from by have := he.out; omega, bn.out, H2.out]
            exact on9
          · rw [bn.out]
            exact bl9
end Go.Proofs.Ytfebaciipigkmaa.Roll
