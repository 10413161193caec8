/- The law of the number that a majority of numbers has reached: its walk. -/
import Derived.Test.YtpmbklagjaibgaaReachPure
namespace Go.Proofs.Ytpmbklagjaibgaa.Plan
open Go.RowKit Go.Proofs.YtpmbklagjaibgaaW.PrintWords

theorem Ints.plain {w : World} {a : Option Addr} {len cap : Nat} {zs : List Int} (h : Ints w a len cap zs) (h0 : 0 < len) : ∃ b off, a = some ⟨b, off, none⟩ ∧ Row w b off zs := by
  rcases h with ⟨_, rfl, _, rfl⟩ | ⟨⟨b, off, spot⟩, e, h1, h2, h3, h4, _⟩
  · omega
  · have hsp := World.cell?_spot (h4 0 (by omega))
    have : spot = none := by simpa [Addr.add] using hsp
    subst this
    refine ⟨b, off, e, fun j hj => ?_⟩
    have := h4 j hj
    unfold Addr.add at this
    split at this
    · rename_i h; subst h; exact this
    · exact this
/-- what Reached of the first n of a list that came in tells -/
theorem reached_of (A : Option Addr) (n m c : Nat) (zs : List Int) (w w1 : World) (r : Ints w A n c zs) (hm : m ≤ n) (h0 : 0 < m) (hbig : m * 8 ≤ 140737488355328) (bel : Below w.heap.size w w1) (c1 : Nat) :
    Calls Try.prog 14 #[.slice A m c1] w1 fun e w' => e = .returned (.int .i64 (reach (zs.take m))) ∧ Hid (Below w1.heap.size w1 w') := by
  obtain ⟨b, off, rfl, hrow⟩ := r.plain (by omega)
  have hz := r.len_le.2
  refine reached_calls b off m c1 zs w1 h0 (by omega) hbig ?_
  intro j hj
  exact pw_cell_below bel (hrow j hj)
/-- the copy that the law keeps -/
theorem own_reads {w : World} {B : Nat} {v : Value} {ys : List Int} (h : w.ownsRow B 3 1 v ys.length (nums .i64 ys)) (h0 : 0 < ys.length) :
    ∃ g cap, v = .slice (some ⟨g, 0, none⟩) ys.length cap ∧ B ≤ g ∧ ∀ j, j < ys.length → w.cell? ⟨g, j, none⟩ = some (.int .i64 (ys.getD j 0)) := by
  rcases h.2 with ⟨_, e0⟩ | ⟨g, cap, cur, rfl, hg, hb, _⟩
  · omega
  · refine ⟨g, cap, rfl, hg, fun j hj => ?_⟩
    have := (own_at h j (by omega) (by omega)).1
    rw [Int.toNat_natCast] at this
    rw [this]
    unfold rd
    rw [Int.toNat_natCast]

set_option maxRecDepth 100000 in
set_option maxHeartbeats 2000000 in
theorem reaches_few (A : Option Addr) (n c : Nat) (zs : List Int) (w : World) (r : Ints w A n c zs) (hn : n ≤ 9223372036854775807) (h0 : n ≤ 60) (hpos : 0 < n) :
    Calls Try.prog 4 #[.slice A n c] w fun e w' => e = .returned (.bool true) ∧ Below w.heap.size w w' := by
  have hz := r.len_le.2
  have R1 : Hid (∀ w', Below w.heap.size w w' → ∀ i, i < n → ∃ x, A = some x ∧ w'.cell? (x.add i) = some (.int .i64 (zs.getD i 0))) := fun w' h i hi => r.at_ h i hi
  have hlen : (zs.take n).length = n := by simp; omega
  have law := reach_law (zs.take n) (by omega)
  rw [hlen] at law
  obtain ⟨l1, l2, l3⟩ := law
  have hreach : ∀ w1, Hid (Below w.heap.size w w1) → Calls Try.prog 14 #[.slice A n c] w1 fun e w' => e = .returned (.int .i64 (reach (zs.take n))) ∧ Hid (Below w1.heap.size w1 w') := fun w1 h => reached_of A n n c zs w w1 r (by omega) (by omega) (by omega) h.out c
  have HR0 : Hid (∀ w', Below w.heap.size w w' → ReadsInt w' .i64 A n (zs.take n)) := by
    intro w' hb
    refine ⟨hlen, by omega, fun _ => ?_⟩
    obtain ⟨ad, e, _⟩ := R1.out w' hb 0 (by omega)
    refine ⟨ad, e, fun j hj => ?_⟩
    obtain ⟨ad', e', h⟩ := R1.out w' hb j (by omega)
    obtain rfl : ad = ad' := by rw [e] at e'; simpa using e'
    rw [h, List.getD_eq_getElem?_getD, List.getD_eq_getElem?_getD, List.getElem?_take_of_lt (by omega)]
  have hget : ∀ j, j < n → zs.getD j 0 = (zs.take n).getD j 0 := by
    intro j hj
    rw [List.getD_eq_getElem?_getD, List.getD_eq_getElem?_getD, List.getElem?_take_of_lt (by omega)]
  have R2 : Hid (∀ w', Below w.heap.size w w' → ∀ i, i < n → ∃ x, A = some x ∧ w'.cell? (x.add i) = some (.int .i64 ((zs.take n).getD i 0))) := by
    intro w' hb i hi
    rw [← hget i hi]
    exact R1.out w' hb i (by omega)
  clear hget R1 r
  generalize zs.take n = ys at *
  have hown := own_lit w w.heap.size 3 .i64 [] (Nat.le_refl _) (by simp)
  have hbel0 : Below w.heap.size w (w.alloc (.cells #[] 3)) := (Below.refl _ w).alloc (Nat.le_refl _) _
  have hsz0 : w.heap.size ≤ (w.alloc (.cells #[] 3)).heap.size := by simp
  have g0 : ¬ (n : Int) > 60 := by omega
  have g3 : ((n : Int) == 0) = false := by simp; omega
  go_enter Try.func4, Try.ntmps4
  go_wp2_with (first
    | ((with_reducible refine gate_builtin (b := .append) (xs := #[.tmp 14, .tmp 15]) rfl ?_); at_builtin
       refine print_append_row (w0 := w) w.heap.size rfl (.tmp 14) (.tmp 15) 25 3 .i64 8 rfl Try.underlying25 (by kernel_rfl) (by decide) _ [] ys A n c rfl rfl hown (HR0.out _ hbel0) hbel0 hsz0 (by simp; omega) ?_
       intro v1 w1 ho1 hb1 _ _
       rw [List.nil_append] at ho1
       obtain ⟨g, cap, rfl, hg, hcells⟩ := own_reads ho1 (by omega)
       have HW : Hid (Below w.heap.size w w1) := hb1
       have HC : Hid (g < w1.heap.size ∧ ∀ j, j < ys.length → w1.cell? ⟨g, j, none⟩ = some (.int .i64 (ys.getD j 0))) := ⟨World.block_lt_of_cell? w1 _ (hcells 0 (by omega)), hcells⟩
       clear ho1 hb1 hcells)
    | (go_at_call 14; (with_reducible refine (hreach _ HW).mono ?_); rintro e w2 ⟨rfl, hh2⟩))
  clear hown hbel0 hsz0 hreach HR0
  generalize reach ys = rr at *
  have HC2 : Hid (∀ j, j < ys.length → w2.cell? ⟨g, j, none⟩ = some (.int .i64 (ys.getD j 0))) := fun j hj => pw_cell_below hh2.out (HC.out.2 j hj)
  have HW2 : Hid (Below w.heap.size w w2) := HW.out.trans (hh2.out.mono HW.out.size)
  clear HC HW hh2
  have e0 : ys.getD 0 0 = ys.getD 0 0 := rfl
  go_loopw [5, 6, 7, 8] (fun a b s i wr => ∃ j : Nat, j ≤ n ∧ a = .int .i64 (geC rr ys j) ∧ b = .int .i64 (gtC rr ys j) ∧ s = .bool (isC rr ys j) ∧ i = .int .i64 j ∧ Hid (Below w2.heap.size w2 wr)) (fun _ _ _ i _ => n - (intOf i).toNat)
  case atStart => exact ⟨0, by omega, rfl, rfl, rfl, rfl, Below.refl _ _⟩
  case round =>
    obtain ⟨j, hj, rfl, rfl, rfl, rfl, bel⟩ := hrel
    by_cases h : j < n
    · obtain ⟨ad, ead, hc⟩ := R2.out _ (HW2.out.trans (bel.out.mono HW2.out.size)) j h
      cases ead
      have hw := pw_cell_below bel.out (HC2.out j (by omega))
      have h' : (j : Int) < (n : Int) := by omega
      have h'' : (0 : Int) ≤ (j : Int) := by omega
      have hge : Hid (geC rr ys (j + 1) = geC rr ys j + (if ys.getD j 0 ≥ rr then 1 else 0)) := geC_succ rr ys j (by omega)
      have hgt : Hid (gtC rr ys (j + 1) = gtC rr ys j + (if ys.getD j 0 > rr then 1 else 0)) := gtC_succ rr ys j (by omega)
      have his : Hid (isC rr ys (j + 1) = (isC rr ys j || (ys.getD j 0 == rr))) := isC_succ rr ys j (by omega)
      have b1 := geC_le rr ys j
      have b2 := gtC_le rr ys j
      generalize ys.getD j 0 = y at *
      generalize geC rr ys j = x1 at *
      generalize gtC rr ys j = x2 at *
      generalize isC rr ys j = x3 at *
      have hne : (y != y) = false := by simp
      by_cases c1 : y ≥ rr
      all_goals by_cases c2 : y > rr
      all_goals cases x3
      all_goals
        try (exfalso; omega)
      all_goals
        simp only [c1, c2, if_true, if_false, Bool.true_or, Bool.false_or] at hge hgt his
        go_wp2
        go_quiet (fail)
        go_wp2
        go_roundw
        case rel => exact ⟨j + 1, by omega, by rw [hge.out]; go_num, by rw [hgt.out]; go_num, by rw [his.out], by go_num, bel.out.trans ⟨rfl, rfl, rfl, Nat.le_refl _, fun _ _ => rfl⟩⟩
        case measure => simp [intOf]; omega
    · obtain rfl : j = n := by omega
      have h' : ¬ (j : Int) < (j : Int) := by omega
      have b1 := geC_le rr ys j
      have b2 := gtC_le rr ys j
      generalize geC rr ys j = x1 at *
      generalize gtC rr ys j = x2 at *
      generalize isC rr ys j = x3 at *
      subst l1
      have i1 : wrap64 (2 * (x1 : Int)) = 2 * (x1 : Int) := w64e rfl (by omega) (by omega)
      have i2 : wrap64 (2 * (x2 : Int)) = 2 * (x2 : Int) := w64e rfl (by omega) (by omega)
      have i3 : 2 * (x1 : Int) > (j : Int) := by omega
      have i4 : 2 * (x2 : Int) ≤ (j : Int) := by omega
      go_wp2_with (go_at_call 12; (with_reducible refine (awake_calls _).mono ?_); rintro e w6 ⟨rfl, hh⟩)
      go_ret
      exact ⟨rfl, (HW2.out.trans (bel.out.mono HW2.out.size)).trans (hh.out.mono (HW2.out.trans (bel.out.mono HW2.out.size)).size)⟩

set_option maxRecDepth 100000 in
set_option maxHeartbeats 2000000 in
theorem reaches_many (ad0 : Addr) (n c : Nat) (zs : List Int) (w : World) (r : Ints w (some ad0) n c zs) (hn : n ≤ 9223372036854775807) (h0 : 60 < n) (hnc : n ≤ c) (m : Nat) (hm : m = 60) (hpos : 0 < n) :
    Calls Try.prog 4 #[.slice (some ad0) n c] w fun e w' => e = .returned (.bool true) ∧ Below w.heap.size w w' := by
  have hz := r.len_le.2
  have R1 : Hid (∀ w', Below w.heap.size w w' → ∀ i, i < n → ∃ x, (some ad0 : Option Addr) = some x ∧ w'.cell? (x.add i) = some (.int .i64 (zs.getD i 0))) := fun w' h i hi => r.at_ h i hi
  have hlen : (zs.take m).length = m := by simp; omega
  have law := reach_law (zs.take m) (by omega)
  rw [hlen] at law
  obtain ⟨l1, l2, l3⟩ := law
  have hreach : ∀ w1, Hid (Below w.heap.size w w1) → Calls Try.prog 14 #[.slice (some ad0) m c] w1 fun e w' => e = .returned (.int .i64 (reach (zs.take m))) ∧ Hid (Below w1.heap.size w1 w') := fun w1 h => reached_of (some ad0) n m c zs w w1 r (by omega) (by omega) (by omega) h.out c
  have HR0 : Hid (∀ w', Below w.heap.size w w' → ReadsInt w' .i64 (some ad0) m (zs.take m)) := by
    intro w' hb
    refine ⟨hlen, by omega, fun _ => ?_⟩
    obtain ⟨ad, e, _⟩ := R1.out w' hb 0 (by omega)
    refine ⟨ad, e, fun j hj => ?_⟩
    obtain ⟨ad', e', h⟩ := R1.out w' hb j (by omega)
    obtain rfl : ad = ad' := by rw [e] at e'; simpa using e'
    rw [h, List.getD_eq_getElem?_getD, List.getD_eq_getElem?_getD, List.getElem?_take_of_lt (by omega)]
  have hget : ∀ j, j < m → zs.getD j 0 = (zs.take m).getD j 0 := by
    intro j hj
    rw [List.getD_eq_getElem?_getD, List.getD_eq_getElem?_getD, List.getElem?_take_of_lt (by omega)]
  have R2 : Hid (∀ w', Below w.heap.size w w' → ∀ i, i < m → ∃ x, (some ad0 : Option Addr) = some x ∧ w'.cell? (x.add i) = some (.int .i64 ((zs.take m).getD i 0))) := by
    intro w' hb i hi
    rw [← hget i hi]
    exact R1.out w' hb i (by omega)
  clear hget R1 r
  generalize zs.take m = ys at *
  have hown := own_lit w w.heap.size 3 .i64 [] (Nat.le_refl _) (by simp)
  have hbel0 : Below w.heap.size w (w.alloc (.cells #[] 3)) := (Below.refl _ w).alloc (Nat.le_refl _) _
  have hsz0 : w.heap.size ≤ (w.alloc (.cells #[] 3)).heap.size := by simp
  have g0 : (n : Int) > 60 := by omega
  have g1 : (60 : Int) ≤ (n : Int) := by omega
  have g2 : (60 : Int) ≤ (c : Int) := by omega
  have g3 : ((m : Int) == 0) = false := by simp; omega
  go_enter Try.func4, Try.ntmps4
  go_upto_region 3 with (fail)
  rw [← hm]
  have hm1 : 0 < m := by omega
  have hm2 : m ≤ 60 := by omega
  clear hm g1 g2
  go_wp2_with (first
    | ((with_reducible refine gate_builtin (b := .append) (xs := #[.tmp 14, .tmp 15]) rfl ?_); at_builtin
       refine print_append_row (w0 := w) w.heap.size rfl (.tmp 14) (.tmp 15) 25 3 .i64 8 rfl Try.underlying25 (by kernel_rfl) (by decide) _ [] ys (some ad0) m c rfl rfl hown (HR0.out _ hbel0) hbel0 hsz0 (by simp; omega) ?_
       intro v1 w1 ho1 hb1 _ _
       rw [List.nil_append] at ho1
       obtain ⟨g, cap, rfl, hg, hcells⟩ := own_reads ho1 (by omega)
       have HW : Hid (Below w.heap.size w w1) := hb1
       have HC : Hid (g < w1.heap.size ∧ ∀ j, j < ys.length → w1.cell? ⟨g, j, none⟩ = some (.int .i64 (ys.getD j 0))) := ⟨World.block_lt_of_cell? w1 _ (hcells 0 (by omega)), hcells⟩
       clear ho1 hb1 hcells)
    | (go_at_call 14; (with_reducible refine (hreach _ HW).mono ?_); rintro e w2 ⟨rfl, hh2⟩))
  clear hown hbel0 hsz0 hreach HR0
  generalize reach ys = rr at *
  have HC2 : Hid (∀ j, j < ys.length → w2.cell? ⟨g, j, none⟩ = some (.int .i64 (ys.getD j 0))) := fun j hj => pw_cell_below hh2.out (HC.out.2 j hj)
  have HW2 : Hid (Below w.heap.size w w2) := HW.out.trans (hh2.out.mono HW.out.size)
  clear HC HW hh2
  have e0 : ys.getD 0 0 = ys.getD 0 0 := rfl
  go_loopw [5, 6, 7, 8] (fun a b s i wr => ∃ j : Nat, j ≤ m ∧ a = .int .i64 (geC rr ys j) ∧ b = .int .i64 (gtC rr ys j) ∧ s = .bool (isC rr ys j) ∧ i = .int .i64 j ∧ Hid (Below w2.heap.size w2 wr)) (fun _ _ _ i _ => m - (intOf i).toNat)
  case atStart => exact ⟨0, by omega, rfl, rfl, rfl, rfl, Below.refl _ _⟩
  case round =>
    obtain ⟨j, hj, rfl, rfl, rfl, rfl, bel⟩ := hrel
    by_cases h : j < m
    · obtain ⟨ad, ead, hc⟩ := R2.out _ (HW2.out.trans (bel.out.mono HW2.out.size)) j h
      cases ead
      have hw := pw_cell_below bel.out (HC2.out j (by omega))
      have h' : (j : Int) < (m : Int) := by omega
      have h'' : (0 : Int) ≤ (j : Int) := by omega
      have hge : Hid (geC rr ys (j + 1) = geC rr ys j + (if ys.getD j 0 ≥ rr then 1 else 0)) := geC_succ rr ys j (by omega)
      have hgt : Hid (gtC rr ys (j + 1) = gtC rr ys j + (if ys.getD j 0 > rr then 1 else 0)) := gtC_succ rr ys j (by omega)
      have his : Hid (isC rr ys (j + 1) = (isC rr ys j || (ys.getD j 0 == rr))) := isC_succ rr ys j (by omega)
      have b1 := geC_le rr ys j
      have b2 := gtC_le rr ys j
      generalize ys.getD j 0 = y at *
      generalize geC rr ys j = x1 at *
      generalize gtC rr ys j = x2 at *
      generalize isC rr ys j = x3 at *
      have hne : (y != y) = false := by simp
      by_cases c1 : y ≥ rr
      all_goals by_cases c2 : y > rr
      all_goals cases x3
      all_goals
        try (exfalso; omega)
      all_goals
        simp only [c1, c2, if_true, if_false, Bool.true_or, Bool.false_or] at hge hgt his
        go_wp2
        go_quiet (fail)
        go_wp2
        go_roundw
        case rel => exact ⟨j + 1, by omega, by rw [hge.out]; go_num, by rw [hgt.out]; go_num, by rw [his.out], by go_num, bel.out.trans ⟨rfl, rfl, rfl, Nat.le_refl _, fun _ _ => rfl⟩⟩
        case measure => simp [intOf]; omega
    · obtain rfl : j = m := by omega
      have h' : ¬ (j : Int) < (j : Int) := by omega
      have b1 := geC_le rr ys j
      have b2 := gtC_le rr ys j
      generalize geC rr ys j = x1 at *
      generalize gtC rr ys j = x2 at *
      generalize isC rr ys j = x3 at *
      subst l1
      have i1 : wrap64 (2 * (x1 : Int)) = 2 * (x1 : Int) := w64e rfl (by omega) (by omega)
      have i2 : wrap64 (2 * (x2 : Int)) = 2 * (x2 : Int) := w64e rfl (by omega) (by omega)
      have i3 : 2 * (x1 : Int) > (j : Int) := by omega
      have i4 : 2 * (x2 : Int) ≤ (j : Int) := by omega
      go_wp2_with (go_at_call 12; (with_reducible refine (awake_calls _).mono ?_); rintro e w6 ⟨rfl, hh⟩)
      go_ret
      exact ⟨rfl, (HW2.out.trans (bel.out.mono HW2.out.size)).trans (hh.out.mono (HW2.out.trans (bel.out.mono HW2.out.size)).size)⟩

theorem reaches_none (A : Option Addr) (c : Nat) (w : World) : Calls Try.prog 4 #[.slice A 0 c] w fun e w' => e = .returned (.bool true) ∧ Below w.heap.size w w' := by
  have hown := own_lit w w.heap.size 3 .i64 [] (Nat.le_refl _) (by simp)
  have hbel0 : Below w.heap.size w (w.alloc (.cells #[] 3)) := (Below.refl _ w).alloc (Nat.le_refl _) _
  have hsz0 : w.heap.size ≤ (w.alloc (.cells #[] 3)).heap.size := by simp
  go_enter Try.func4, Try.ntmps4
  go_wp2_with (first
    | ((with_reducible refine gate_builtin (b := .append) (xs := #[.tmp 14, .tmp 15]) rfl ?_); at_builtin
       refine print_append_row (w0 := w) w.heap.size rfl (.tmp 14) (.tmp 15) 25 3 .i64 8 rfl Try.underlying25 (by kernel_rfl) (by decide) _ [] [] A 0 c rfl rfl hown ⟨rfl, by omega, fun h => absurd h (by omega)⟩ hbel0 hsz0 (by simp) ?_
       intro v1 w1 ho1 hb1 _ _
       have HW : Hid (Below w.heap.size w w1) := hb1
       clear ho1 hb1)
    | (go_at_call 14; (with_reducible refine (reached_zero _ _ _).mono ?_); rintro e w2 ⟨rfl, rfl⟩)
    | (go_at_call 12; (with_reducible refine (awake_calls _).mono ?_); rintro e w6 ⟨rfl, hh⟩))
  go_ret
  exact ⟨rfl, HW.out.trans (hh.out.mono HW.out.size)⟩

theorem reaches_law (A : Option Addr) (n c : Nat) (zs : List Int) (w : World) (r : Ints w A n c zs) (_ : n * 8 ≤ 140737488351232) :
    Calls Try.prog 4 #[.slice A n c] w fun e w' => e = .returned (.bool true) ∧ Below w.heap.size w w' := by
  have b1 := r.len_le.1
  rcases Nat.eq_zero_or_pos n with h0 | h0
  · subst h0; exact reaches_none A c w
  · by_cases h : n ≤ 60
    · exact reaches_few A n c zs w r b1 h h0
    · obtain ⟨b, off, rfl, _⟩ := r.plain h0
      refine reaches_many _ n c zs w r b1 (by omega) ?_ 60 rfl h0
      rcases r with ⟨_, h1, _, _⟩ | ⟨x, _, h1, _⟩
      · omega
      · exact h1

end Go.Proofs.Ytpmbklagjaibgaa.Plan
