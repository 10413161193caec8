/- The law of a tally: whom it has, how many, and whether it is won. -/
import Derived.Test.YtpmbklagjaibgaaMeets
namespace Go.Proofs.Ytpmbklagjaibgaa.Plan
open Go.RowKit Go.Proofs.YtpmbklagjaibgaaW.PrintWords

def bools (S : Nat → Bool) : Array Value := #[.bool (S 0), .bool (S 1), .bool (S 2), .bool (S 3), .bool (S 4), .bool (S 5), .bool (S 6), .bool (S 7), .bool (S 8)]
theorem bools_at (S : Nat → Bool) (i : Nat) (hi : i < 9) : (bools S)[i]? = some (.bool (S i)) := by
  match i, hi with
  | 0, _ | 1, _ | 2, _ | 3, _ | 4, _ | 5, _ | 6, _ | 7, _ | 8, _ => rfl
theorem bools_set (S : Nat → Bool) (i : Nat) (hi : i < 9) : (bools S).setIfInBounds i (.bool true) = bools (fun k => S k || k == i) := by
  match i, hi with
  | 0, _ | 1, _ | 2, _ | 3, _ | 4, _ | 5, _ | 6, _ | 7, _ | 8, _ => simp [bools, Array.setIfInBounds]

/-- the tally, and the law's own list of whom it has -/
structure Hav (w wr : World) (g m : Nat) (S T : Nat → Bool) : Prop where
  tal : Tal wr w.heap.size m S
  row : Blk wr g (bools T) 4
  bel : Below w.heap.size w wr
  hg : w.heap.size < g
theorem Hav.drewN {w wr : World} {g m : Nat} {S T : Nat → Bool} (h : Hav w wr g m S T) (q : Nat) : Hav w (wr.drewN q) g m S T := ⟨h.tal.same rfl, h.row.same rfl, h.bel.trans ⟨rfl, rfl, rfl, Nat.le_refl _, fun _ _ => rfl⟩, h.hg⟩
theorem hav_add (g m : Nat) (S T : Nat → Bool) (i : Int) (w wr : World) (h : Hav w wr g m S T) :
    Calls Try.prog 17 #[.pointer (some ⟨w.heap.size, 0, none⟩), .int .i64 i] wr fun e w' => e = .returned (.bool (decide (0 ≤ i ∧ i < m))) ∧ Hid (Hav w w' g m (put m S i) T) := by
  refine (add_any _ m S i wr h.tal).mono ?_
  rintro e w' ⟨he, h1, h2, h3, h4, h5, h6⟩
  exact ⟨he, h1, h.row.same (h6 _ (by have := h.hg; omega)), h.bel.trans ⟨h3, h4, h5, by omega, fun k hk => h6 k (by omega)⟩, h.hg⟩
theorem Hav.store {w wr : World} {g m : Nat} {S T : Nat → Bool} (h : Hav w wr g m S T) (k : Nat) (hk : k < 9) : Hav w (wr.setCell ⟨g, k, none⟩ (.bool true)) g m S (fun j => T j || j == k) := by
  have hg := h.hg
  refine ⟨h.tal.same (Below.heap_setCell _ _ _ _ (by show _ ≠ g; omega)), ?_, h.bel.setCell (by show _ ≤ g; omega) _, hg⟩
  rw [← bools_set T k hk]
  exact h.row.set k _
theorem put_in (m : Nat) (S : Nat → Bool) (k : Nat) (hk : k < m) : put m S (k : Int) = fun j => S j || j == k := by
  funext j
  show (S j || (decide (0 ≤ (k : Int) ∧ (k : Int) < m) && (j : Int) == (k : Int))) = _
  rw [decide_eq_true (by omega), Bool.true_and]
  congr 1
  rw [Bool.eq_iff_iff]
  simp
  omega
theorem put_had (S : Nat → Bool) (k : Nat) (h : S k = true) : (fun j => S j || j == k) = S := by
  funext j
  by_cases e : j = k
  · subst e; simp [h]
  · simp [e]
theorem cnt_new (m : Nat) (S : Nat → Bool) (k : Nat) (hk : k < m) (h : S k = false) : ∀ n, cnt m (fun j => S j || j == k) n = cnt m S n + (if k < n then 1 else 0) := by
  intro n
  induction n with
  | zero => simp [cnt]
  | succ n ih =>
    simp only [cnt, ih]
    by_cases e : n = k
    · subst e
      simp [hk, h]
    · have e1 : (n == k) = false := by simpa using e
      simp only [e1, Bool.or_false]
      by_cases e2 : k < n
      · rw [if_pos e2, if_pos (by omega : k < n + 1)]; omega
      · rw [if_neg e2, if_neg (by omega : ¬ k < n + 1)]; omega

theorem cnt_none (m n : Nat) : cnt m (fun _ => false) n = 0 := by
  induction n with
  | zero => rfl
  | succ n ih => simp [cnt, ih]
/-- Won, told by the count -/
theorem hav_won (g m : Nat) (S T : Nat → Bool) (v : Bool) (w wr : World) (h : Hav w wr g m S T) (hv : v = (decide (0 < m) && decide (m < 2 * cnt m S 9))) :
    Calls Try.prog 20 #[.pointer (some ⟨w.heap.size, 0, none⟩)] wr fun e w' => e = .returned (.bool v) ∧ Hid (Hav w w' g m S T) := by
  refine (won_at _ m S wr h.tal).mono ?_
  rintro e w' ⟨he, q, rfl⟩
  refine ⟨?_, h.drewN q⟩
  rw [he, hv]
  congr 3
  rw [decide_eq_decide]
  omega
theorem hav_count (g m : Nat) (S T : Nat → Bool) (w wr : World) (h : Hav w wr g m S T) :
    Calls Try.prog 19 #[.pointer (some ⟨w.heap.size, 0, none⟩)] wr fun e w' => e = .returned (.int .i64 (cnt m S 9)) ∧ wr = w' := count_at _ m S wr h.tal
theorem hav_new (n : Int) (w w1 : World) (h : Tal w1 w.heap.size (some_ n) (fun _ => false) ∧ Below w.heap.size w w1 ∧ w1.heap.size = w.heap.size + 1) :
    Hav w (w1.alloc (.cells (bools fun _ => false) 4)) w1.heap.size (some_ n) (fun _ => false) (fun _ => false) := by
  obtain ⟨h1, h2, h3⟩ := h
  exact ⟨h1.same (Below.heap_alloc _ _ _ (by omega)), Blk.new _ _ _, h2.alloc (by omega) _, by omega⟩

set_option maxRecDepth 100000 in
set_option maxHeartbeats 2000000 in
theorem tallies_law (n : Int) (A : Option Addr) (len cap : Nat) (zs : List Int) (w : World) (hn : (Lit.int .i64 n).wf = true) (r1 : Ints w A len cap zs) (_ : len * 8 ≤ 140737488351232) :
    Calls Try.prog 8 #[.int .i64 n, .slice A len cap] w fun e w' => e = .returned (.bool true) ∧ Below w.heap.size w w' := by
  have b1 := r1.len_le.1
  have R1 : Hid (∀ w', Below w.heap.size w w' → ∀ i, i < len → ∃ x, A = some x ∧ w'.cell? (x.add i) = some (.int .i64 (zs.getD i 0))) := fun w' h i hi => r1.at_ h i hi
  have hnew := new_s n w hn
  have hm : Hid ((n < 0 → some_ n = 0) ∧ (n > 9 → some_ n = 9) ∧ (¬ n < 0 → ¬ n > 9 → (some_ n : Int) = n) ∧ some_ n ≤ 9) := by
    unfold some_
    refine ⟨fun h => by omega, fun h => by omega, fun h h' => by omega, by omega⟩
  clear r1
  have hmk : ∀ W : World, (Instr.makeSlice 37 (.int .i64 9) (.int .i64 9)).run Try.prog W = .ok (.slice (some ⟨W.heap.size, 0, none⟩) 9 9) (W.alloc (.cells (bools fun _ => false) 4)) := fun W => by
    have h := run_make_row' (P := Try.prog) 37 4 (.bool false) 1 Try.underlying37 (by kernel_rfl) rfl .i64 .i64 9 (by decide) (by decide) W
    have e : madeCells #[Value.bool false] 9 = bools (fun _ => false) := by kernel_rfl
    rw [e] at h
    exact h
  have hmade := fun w1 h => hav_new n w w1 h
  generalize some_ n = m at *
  by_cases n0 : n < 0
  · have hm0 : m = 0 := hm.out.1 n0
    have hm9 : m ≤ 9 := by omega
    go_enter Try.func8, Try.ntmps8
    go_upto_region 7 with (first
      | (go_at_call 21; (with_reducible refine hnew.mono ?_); rintro e w1 ⟨rfl, n1⟩))
    have st0 : Hid (Hav w _ w1.heap.size m (fun _ => false) (fun _ => false)) := hmade w1 n1.out
    rw [show (Value.int .i64 0) = Value.int .i64 (m : Int) from by rw [hm0]; rfl]
    clear hnew hmade n1 hm hm0
    go_wp2
    clear hmk
    generalize hg : w1.heap.size = g at *
    clear hg
    go_loopw [8, 9, 10] (fun c i s wr => ∃ (j : Nat) (S : Nat → Bool), j ≤ len ∧ j ≤ 60 ∧ c = .int .i64 (cnt m S 9) ∧ i = .int .i64 j ∧ Hid (Hav w wr g m S S) ∧ Hid (∀ k, m ≤ k → S k = false)) (fun _ i _ _ => 60 - (intOf i).toNat)
    case atStart => exact ⟨0, _, by omega, by omega, by rw [cnt_none]; rfl, rfl, st0, fun _ _ => rfl⟩
    case round =>
      obtain ⟨j, S, hj, hj2, rfl, rfl, st, hS⟩ := hrel
      clear st0
      by_cases hlt : j < len ∧ j < 60
      · obtain ⟨h1, h2⟩ := hlt
        obtain ⟨ad, rfl, hc⟩ := R1.out wr st.out.bel j h1
        have hread : Hid (∀ wr, Below w.heap.size w wr → wr.cell? (ad.add j) = some (.int .i64 (zs.getD j 0))) := by
          intro wr' hb
          obtain ⟨ad', e, hc'⟩ := R1.out wr' hb j h1
          cases e
          exact hc'
        generalize zs.getD j 0 = z at *
        have x9 := cnt_le m S 9
        generalize hx : cnt m S 9 = x at *
        have HX : Hid (cnt m S 9 = x) := hx
        clear hx
        by_cases hz : 0 ≤ z ∧ z < m
        · obtain ⟨k, rfl⟩ := Int.eq_ofNat_of_zero_le hz.1
          have hk : k < m := by omega
          have z0 : (k : Int) ≥ 0 := hz.1
          have z1 : (k : Int) < (m : Int) := hz.2
          have z2 : (k : Int) < 9 := by omega
          have z3 : 0 ≤ (k : Int) := by omega
          have hadd := hav_add g m S S k w wr st.out
          rw [decide_eq_true hz, put_in m S k hk] at hadd
          have hhas := fun wr (h : Hid (Hav w wr g m (fun j => S j || j == k) S)) => has_any _ m (fun j => S j || j == k) k wr h.out.tal
          have hrow := fun wr (h : Hid (Hav w wr g m (fun j => S j || j == k) S)) => (h.out.row.cell k).trans (bools_at S k (by omega))
          have hfree := fun wr (h : Hid (Hav w wr g m (fun j => S j || j == k) S)) => h.out.row.free k
          rw [show (decide (k < m) && (S k || k == k)) = true from by simp [hk]] at hhas
          have hS' : Hid (∀ i, m ≤ i → (fun j => S j || j == k) i = false) := fun i hi => by
            show (S i || i == k) = false
            rw [hS.out i hi]
            simp
            omega
          by_cases hSk : S k = true
          · rw [hSk] at hrow
            have hp := put_had S k hSk
            rw [hp] at hadd hhas hrow hfree
            have hS2 := hS
            clear hp hS'
            go_upto_region 18 with (first
              | (go_at_call 17; (with_reducible refine hadd.mono ?_); rintro e w2 ⟨rfl, st4⟩; have hrow2 := hrow _ st4; have hr2 := hread.out _ st4.out.bel)
              | (go_at_call 18; (with_reducible refine (hhas _ st4).mono ?_); rintro e w3 ⟨rfl, rfl⟩))
            clear hadd hhas hrow hfree hrow2 hr2 hread hc
            have EQN := HX
            have hcount : ∀ wr, Hid (Hav w wr g m S S) → Calls Try.prog 19 #[.pointer (some ⟨w.heap.size, 0, none⟩)] wr fun e w' => e = .returned (.int .i64 (x : Int)) ∧ wr = w' := fun wr h => by
              have := hav_count g m S S w wr h.out
              rw [EQN.out] at this
              exact this
            have hwon : ∀ v wr, v = (decide (0 < m) && decide (m < 2 * x)) → Hid (Hav w wr g m S S) → Calls Try.prog 20 #[.pointer (some ⟨w.heap.size, 0, none⟩)] wr fun e w' => e = .returned (.bool v) ∧ Hid (Hav w w' g m S S) := fun v wr hv h => hav_won g m S S v w wr h.out (by rw [EQN.out]; exact hv)
            have i1 : wrap64 (2 * (x : Int)) = 2 * (x : Int) := w64e rfl (by omega) (by omega)
            by_cases p0 : 0 < m
            · have q0 : (m : Int) > 0 := by omega
              by_cases p1 : m < 2 * x
              · have q1 : 2 * (x : Int) > (m : Int) := by omega
                have hw := fun wr h => hwon true wr (by simp [p0, p1]) h
                go_wp2_with (first
                  | (go_at_call 19; (with_reducible refine (hcount _ st4).mono ?_); rintro e w5 ⟨rfl, rfl⟩)
                  | (go_at_call 20; (with_reducible refine (hw _ st4).mono ?_); rintro e w6 ⟨rfl, st6⟩))
                go_roundw
                case rel => exact ⟨j + 1, S, by omega, by omega, by rw [EQN.out]; try go_num, by go_num, st6, hS2⟩
                case measure => simp [intOf]; omega
              · have q1 : ¬ 2 * (x : Int) > (m : Int) := by omega
                have hw := fun wr h => hwon false wr (by simp [p1]) h
                go_wp2_with (first
                  | (go_at_call 19; (with_reducible refine (hcount _ st4).mono ?_); rintro e w5 ⟨rfl, rfl⟩)
                  | (go_at_call 20; (with_reducible refine (hw _ st4).mono ?_); rintro e w6 ⟨rfl, st6⟩))
                go_roundw
                case rel => exact ⟨j + 1, S, by omega, by omega, by rw [EQN.out]; try go_num, by go_num, st6, hS2⟩
                case measure => simp [intOf]; omega
            · have q0 : ¬ (m : Int) > 0 := by omega
              have hw := fun wr h => hwon false wr (by simp [p0]) h
              go_wp2_with (first
                | (go_at_call 19; (with_reducible refine (hcount _ st4).mono ?_); rintro e w5 ⟨rfl, rfl⟩)
                | (go_at_call 20; (with_reducible refine (hw _ st4).mono ?_); rintro e w6 ⟨rfl, st6⟩))
              go_roundw
              case rel => exact ⟨j + 1, S, by omega, by omega, by rw [EQN.out]; try go_num, by go_num, st6, hS2⟩
              case measure => simp [intOf]; omega
          · have hSk' : S k = false := by simpa using hSk
            rw [hSk'] at hrow
            have hcnt : cnt m (fun j => S j || j == k) 9 = x + 1 := by rw [cnt_new m S k hk hSk' 9, if_pos (by omega), HX.out]
            have hstore := fun wr (h : Hid (Hav w wr g m (fun j => S j || j == k) S)) => h.out.store k (by omega)
            go_upto_region 18 with (first
              | (go_at_call 17; (with_reducible refine hadd.mono ?_); rintro e w2 ⟨rfl, st2⟩; have hrow2 := hrow _ st2; have hfree2 := hfree _ st2; have hr2 := hread.out _ st2.out.bel; have st4 : Hid (Hav w _ g m (fun j => S j || j == k) (fun j => S j || j == k)) := hstore _ st2)
              | (go_at_call 18; (with_reducible refine (hhas _ st2).mono ?_); rintro e w3 ⟨rfl, rfl⟩))
            have hS2 := hS'
            clear hadd hhas hrow hfree hrow2 hr2 hread hc hfree2 hstore
            have EQN : Hid (cnt m (fun j => S j || j == k) 9 = x + 1) := hcnt
            clear hcnt
            have hcount : ∀ wr, Hid (Hav w wr g m (fun j => S j || j == k) (fun j => S j || j == k)) → Calls Try.prog 19 #[.pointer (some ⟨w.heap.size, 0, none⟩)] wr fun e w' => e = .returned (.int .i64 ((x : Int) + 1)) ∧ wr = w' := fun wr h => by
              have := hav_count g m (fun j => S j || j == k) (fun j => S j || j == k) w wr h.out
              rw [EQN.out] at this
              exact this
            have hwon : ∀ v wr, v = (decide (0 < m) && decide (m < 2 * (x + 1))) → Hid (Hav w wr g m (fun j => S j || j == k) (fun j => S j || j == k)) → Calls Try.prog 20 #[.pointer (some ⟨w.heap.size, 0, none⟩)] wr fun e w' => e = .returned (.bool v) ∧ Hid (Hav w w' g m (fun j => S j || j == k) (fun j => S j || j == k)) := fun v wr hv h => hav_won g m (fun j => S j || j == k) (fun j => S j || j == k) v w wr h.out (by rw [EQN.out]; exact hv)
            have i1 : wrap64 (2 * ((x : Int) + 1)) = 2 * ((x : Int) + 1) := w64e rfl (by omega) (by omega)
            by_cases p0 : 0 < m
            · have q0 : (m : Int) > 0 := by omega
              by_cases p1 : m < 2 * (x + 1)
              · have q1 : 2 * ((x : Int) + 1) > (m : Int) := by omega
                have hw := fun wr h => hwon true wr (by simp [p0, p1]) h
                go_wp2_with (first
                  | (go_at_call 19; (with_reducible refine (hcount _ st4).mono ?_); rintro e w5 ⟨rfl, rfl⟩)
                  | (go_at_call 20; (with_reducible refine (hw _ st4).mono ?_); rintro e w6 ⟨rfl, st6⟩))
                go_roundw
                case rel => exact ⟨j + 1, (fun j => S j || j == k), by omega, by omega, by rw [EQN.out]; try go_num, by go_num, st6, hS2⟩
                case measure => simp [intOf]; omega
              · have q1 : ¬ 2 * ((x : Int) + 1) > (m : Int) := by omega
                have hw := fun wr h => hwon false wr (by simp [p1]) h
                go_wp2_with (first
                  | (go_at_call 19; (with_reducible refine (hcount _ st4).mono ?_); rintro e w5 ⟨rfl, rfl⟩)
                  | (go_at_call 20; (with_reducible refine (hw _ st4).mono ?_); rintro e w6 ⟨rfl, st6⟩))
                go_roundw
                case rel => exact ⟨j + 1, (fun j => S j || j == k), by omega, by omega, by rw [EQN.out]; try go_num, by go_num, st6, hS2⟩
                case measure => simp [intOf]; omega
            · have q0 : ¬ (m : Int) > 0 := by omega
              have hw := fun wr h => hwon false wr (by simp [p0]) h
              go_wp2_with (first
                | (go_at_call 19; (with_reducible refine (hcount _ st4).mono ?_); rintro e w5 ⟨rfl, rfl⟩)
                | (go_at_call 20; (with_reducible refine (hw _ st4).mono ?_); rintro e w6 ⟨rfl, st6⟩))
              go_roundw
              case rel => exact ⟨j + 1, (fun j => S j || j == k), by omega, by omega, by rw [EQN.out]; try go_num, by go_num, st6, hS2⟩
              case measure => simp [intOf]; omega
        · have hadd := hav_add g m S S z w wr st.out
          rw [decide_eq_false hz, put_no hz] at hadd
          have hhas := fun wr (h : Hid (Hav w wr g m S S)) => has_no _ m S z wr h.out.tal hz
          have hS2 := hS
          by_cases z0 : z ≥ 0
          · have z1 : ¬ z < (m : Int) := by omega
            go_upto_region 18 with (first
              | (go_at_call 17; (with_reducible refine hadd.mono ?_); rintro e w2 ⟨rfl, st4⟩; have hr2 := hread.out _ st4.out.bel)
              | (go_at_call 18; (with_reducible refine (hhas _ st4).mono ?_); rintro e w3 ⟨rfl, rfl⟩))
            clear hadd hhas hr2 hread hc
            have EQN := HX
            have hcount : ∀ wr, Hid (Hav w wr g m S S) → Calls Try.prog 19 #[.pointer (some ⟨w.heap.size, 0, none⟩)] wr fun e w' => e = .returned (.int .i64 (x : Int)) ∧ wr = w' := fun wr h => by
              have := hav_count g m S S w wr h.out
              rw [EQN.out] at this
              exact this
            have hwon : ∀ v wr, v = (decide (0 < m) && decide (m < 2 * x)) → Hid (Hav w wr g m S S) → Calls Try.prog 20 #[.pointer (some ⟨w.heap.size, 0, none⟩)] wr fun e w' => e = .returned (.bool v) ∧ Hid (Hav w w' g m S S) := fun v wr hv h => hav_won g m S S v w wr h.out (by rw [EQN.out]; exact hv)
            have i1 : wrap64 (2 * (x : Int)) = 2 * (x : Int) := w64e rfl (by omega) (by omega)
            by_cases p0 : 0 < m
            · have q0 : (m : Int) > 0 := by omega
              by_cases p1 : m < 2 * x
              · have q1 : 2 * (x : Int) > (m : Int) := by omega
                have hw := fun wr h => hwon true wr (by simp [p0, p1]) h
                go_wp2_with (first
                  | (go_at_call 19; (with_reducible refine (hcount _ st4).mono ?_); rintro e w5 ⟨rfl, rfl⟩)
                  | (go_at_call 20; (with_reducible refine (hw _ st4).mono ?_); rintro e w6 ⟨rfl, st6⟩))
                go_roundw
                case rel => exact ⟨j + 1, S, by omega, by omega, by rw [EQN.out]; try go_num, by go_num, st6, hS2⟩
                case measure => simp [intOf]; omega
              · have q1 : ¬ 2 * (x : Int) > (m : Int) := by omega
                have hw := fun wr h => hwon false wr (by simp [p1]) h
                go_wp2_with (first
                  | (go_at_call 19; (with_reducible refine (hcount _ st4).mono ?_); rintro e w5 ⟨rfl, rfl⟩)
                  | (go_at_call 20; (with_reducible refine (hw _ st4).mono ?_); rintro e w6 ⟨rfl, st6⟩))
                go_roundw
                case rel => exact ⟨j + 1, S, by omega, by omega, by rw [EQN.out]; try go_num, by go_num, st6, hS2⟩
                case measure => simp [intOf]; omega
            · have q0 : ¬ (m : Int) > 0 := by omega
              have hw := fun wr h => hwon false wr (by simp [p0]) h
              go_wp2_with (first
                | (go_at_call 19; (with_reducible refine (hcount _ st4).mono ?_); rintro e w5 ⟨rfl, rfl⟩)
                | (go_at_call 20; (with_reducible refine (hw _ st4).mono ?_); rintro e w6 ⟨rfl, st6⟩))
              go_roundw
              case rel => exact ⟨j + 1, S, by omega, by omega, by rw [EQN.out]; try go_num, by go_num, st6, hS2⟩
              case measure => simp [intOf]; omega
          · go_upto_region 18 with (first
              | (go_at_call 17; (with_reducible refine hadd.mono ?_); rintro e w2 ⟨rfl, st4⟩; have hr2 := hread.out _ st4.out.bel)
              | (go_at_call 18; (with_reducible refine (hhas _ st4).mono ?_); rintro e w3 ⟨rfl, rfl⟩))
            clear hadd hhas hr2 hread hc
            have EQN := HX
            have hcount : ∀ wr, Hid (Hav w wr g m S S) → Calls Try.prog 19 #[.pointer (some ⟨w.heap.size, 0, none⟩)] wr fun e w' => e = .returned (.int .i64 (x : Int)) ∧ wr = w' := fun wr h => by
              have := hav_count g m S S w wr h.out
              rw [EQN.out] at this
              exact this
            have hwon : ∀ v wr, v = (decide (0 < m) && decide (m < 2 * x)) → Hid (Hav w wr g m S S) → Calls Try.prog 20 #[.pointer (some ⟨w.heap.size, 0, none⟩)] wr fun e w' => e = .returned (.bool v) ∧ Hid (Hav w w' g m S S) := fun v wr hv h => hav_won g m S S v w wr h.out (by rw [EQN.out]; exact hv)
            have i1 : wrap64 (2 * (x : Int)) = 2 * (x : Int) := w64e rfl (by omega) (by omega)
            by_cases p0 : 0 < m
            · have q0 : (m : Int) > 0 := by omega
              by_cases p1 : m < 2 * x
              · have q1 : 2 * (x : Int) > (m : Int) := by omega
                have hw := fun wr h => hwon true wr (by simp [p0, p1]) h
                go_wp2_with (first
                  | (go_at_call 19; (with_reducible refine (hcount _ st4).mono ?_); rintro e w5 ⟨rfl, rfl⟩)
                  | (go_at_call 20; (with_reducible refine (hw _ st4).mono ?_); rintro e w6 ⟨rfl, st6⟩))
                go_roundw
                case rel => exact ⟨j + 1, S, by omega, by omega, by rw [EQN.out]; try go_num, by go_num, st6, hS2⟩
                case measure => simp [intOf]; omega
              · have q1 : ¬ 2 * (x : Int) > (m : Int) := by omega
                have hw := fun wr h => hwon false wr (by simp [p1]) h
                go_wp2_with (first
                  | (go_at_call 19; (with_reducible refine (hcount _ st4).mono ?_); rintro e w5 ⟨rfl, rfl⟩)
                  | (go_at_call 20; (with_reducible refine (hw _ st4).mono ?_); rintro e w6 ⟨rfl, st6⟩))
                go_roundw
                case rel => exact ⟨j + 1, S, by omega, by omega, by rw [EQN.out]; try go_num, by go_num, st6, hS2⟩
                case measure => simp [intOf]; omega
            · have q0 : ¬ (m : Int) > 0 := by omega
              have hw := fun wr h => hwon false wr (by simp [p0]) h
              go_wp2_with (first
                | (go_at_call 19; (with_reducible refine (hcount _ st4).mono ?_); rintro e w5 ⟨rfl, rfl⟩)
                | (go_at_call 20; (with_reducible refine (hw _ st4).mono ?_); rintro e w6 ⟨rfl, st6⟩))
              go_roundw
              case rel => exact ⟨j + 1, S, by omega, by omega, by rw [EQN.out]; try go_num, by go_num, st6, hS2⟩
              case measure => simp [intOf]; omega
      · by_cases c1 : j < len
        all_goals
          go_wp2
          go_loopw [11] (fun i wr => ∃ q : Int, -1 ≤ q ∧ q ≤ 11 ∧ i = .int .i64 q ∧ Hid (Hav w wr g m S S)) (fun i _ => (11 - intOf i).toNat)
          case atStart => exact ⟨-1, by omega, by omega, rfl, st⟩
          case round =>
            obtain ⟨q, hq, hq2, rfl, st5⟩ := hrel
            by_cases h11 : q < 11
            · by_cases g0 : q ≥ 0
              · obtain ⟨k, rfl⟩ := Int.eq_ofNat_of_zero_le g0
                by_cases g9 : (k : Int) < 9
                · have hh := has_any _ m S k wr st5.out.tal
                  have hrow := (st5.out.row.cell k).trans (bools_at S k (by omega))
                  have hle := st5.out.tal.le
                  have ev : (decide (k < m) && S k) = S k := by
                    by_cases h : k < m
                    · simp [h]
                    · rw [hS.out k (by omega), Bool.and_false]
                  rw [ev] at hh
                  clear ev
                  generalize S k = v at *
                  have vv : (v != v) = false := by simp
                  have z3 : 0 ≤ (k : Int) := by omega
                  go_wp2_with (go_at_call 18; (with_reducible refine hh.mono ?_); rintro e w8 ⟨rfl, rfl⟩)
                  go_roundw
                  case rel => exact ⟨(k : Int) + 1, by omega, by omega, by go_num, st5⟩
                  case measure => simp [intOf]; omega
                · have hle := st5.out.tal.le
                  have hh := has_no _ m S k wr st5.out.tal (by omega)
                  go_wp2_with (go_at_call 18; (with_reducible refine hh.mono ?_); rintro e w8 ⟨rfl, rfl⟩)
                  go_roundw
                  case rel => exact ⟨(k : Int) + 1, by omega, by omega, by go_num, st5⟩
                  case measure => simp [intOf]; omega
              · have hh := has_no _ m S q wr st5.out.tal (by omega)
                go_wp2_with (go_at_call 18; (with_reducible refine hh.mono ?_); rintro e w8 ⟨rfl, rfl⟩)
                go_roundw
                case rel => exact ⟨q + 1, by omega, by omega, by go_num, st5⟩
                case measure => simp [intOf]; omega
            · go_wp2_with (go_at_call 12; (with_reducible refine (awake_calls _).mono ?_); rintro e w6 ⟨rfl, hh⟩)
              go_ret
              exact ⟨rfl, st5.out.bel.trans (hh.out.mono st5.out.bel.size)⟩

  by_cases n9 : n > 9
  · have hm0 : m = 9 := hm.out.2.1 n9
    have hm9 : m ≤ 9 := by omega
    go_enter Try.func8, Try.ntmps8
    go_upto_region 8 with (first
      | (go_at_call 21; (with_reducible refine hnew.mono ?_); rintro e w1 ⟨rfl, n1⟩))
    have st0 : Hid (Hav w _ w1.heap.size m (fun _ => false) (fun _ => false)) := hmade w1 n1.out
    rw [show (Value.int .i64 9) = Value.int .i64 (m : Int) from by rw [hm0]; rfl]
    clear hnew hmade n1 hm hm0
    go_wp2
    clear hmk
    generalize hg : w1.heap.size = g at *
    clear hg
    go_loopw [8, 9, 10] (fun c i s wr => ∃ (j : Nat) (S : Nat → Bool), j ≤ len ∧ j ≤ 60 ∧ c = .int .i64 (cnt m S 9) ∧ i = .int .i64 j ∧ Hid (Hav w wr g m S S) ∧ Hid (∀ k, m ≤ k → S k = false)) (fun _ i _ _ => 60 - (intOf i).toNat)
    case atStart => exact ⟨0, _, by omega, by omega, by rw [cnt_none]; rfl, rfl, st0, fun _ _ => rfl⟩
    case round =>
      obtain ⟨j, S, hj, hj2, rfl, rfl, st, hS⟩ := hrel
      clear st0
      by_cases hlt : j < len ∧ j < 60
      · obtain ⟨h1, h2⟩ := hlt
        obtain ⟨ad, rfl, hc⟩ := R1.out wr st.out.bel j h1
        have hread : Hid (∀ wr, Below w.heap.size w wr → wr.cell? (ad.add j) = some (.int .i64 (zs.getD j 0))) := by
          intro wr' hb
          obtain ⟨ad', e, hc'⟩ := R1.out wr' hb j h1
          cases e
          exact hc'
        generalize zs.getD j 0 = z at *
        have x9 := cnt_le m S 9
        generalize hx : cnt m S 9 = x at *
        have HX : Hid (cnt m S 9 = x) := hx
        clear hx
        by_cases hz : 0 ≤ z ∧ z < m
        · obtain ⟨k, rfl⟩ := Int.eq_ofNat_of_zero_le hz.1
          have hk : k < m := by omega
          have z0 : (k : Int) ≥ 0 := hz.1
          have z1 : (k : Int) < (m : Int) := hz.2
          have z2 : (k : Int) < 9 := by omega
          have z3 : 0 ≤ (k : Int) := by omega
          have hadd := hav_add g m S S k w wr st.out
          rw [decide_eq_true hz, put_in m S k hk] at hadd
          have hhas := fun wr (h : Hid (Hav w wr g m (fun j => S j || j == k) S)) => has_any _ m (fun j => S j || j == k) k wr h.out.tal
          have hrow := fun wr (h : Hid (Hav w wr g m (fun j => S j || j == k) S)) => (h.out.row.cell k).trans (bools_at S k (by omega))
          have hfree := fun wr (h : Hid (Hav w wr g m (fun j => S j || j == k) S)) => h.out.row.free k
          rw [show (decide (k < m) && (S k || k == k)) = true from by simp [hk]] at hhas
          have hS' : Hid (∀ i, m ≤ i → (fun j => S j || j == k) i = false) := fun i hi => by
            show (S i || i == k) = false
            rw [hS.out i hi]
            simp
            omega
          by_cases hSk : S k = true
          · rw [hSk] at hrow
            have hp := put_had S k hSk
            rw [hp] at hadd hhas hrow hfree
            have hS2 := hS
            clear hp hS'
            go_upto_region 18 with (first
              | (go_at_call 17; (with_reducible refine hadd.mono ?_); rintro e w2 ⟨rfl, st4⟩; have hrow2 := hrow _ st4; have hr2 := hread.out _ st4.out.bel)
              | (go_at_call 18; (with_reducible refine (hhas _ st4).mono ?_); rintro e w3 ⟨rfl, rfl⟩))
            clear hadd hhas hrow hfree hrow2 hr2 hread hc
            have EQN := HX
            have hcount : ∀ wr, Hid (Hav w wr g m S S) → Calls Try.prog 19 #[.pointer (some ⟨w.heap.size, 0, none⟩)] wr fun e w' => e = .returned (.int .i64 (x : Int)) ∧ wr = w' := fun wr h => by
              have := hav_count g m S S w wr h.out
              rw [EQN.out] at this
              exact this
            have hwon : ∀ v wr, v = (decide (0 < m) && decide (m < 2 * x)) → Hid (Hav w wr g m S S) → Calls Try.prog 20 #[.pointer (some ⟨w.heap.size, 0, none⟩)] wr fun e w' => e = .returned (.bool v) ∧ Hid (Hav w w' g m S S) := fun v wr hv h => hav_won g m S S v w wr h.out (by rw [EQN.out]; exact hv)
            have i1 : wrap64 (2 * (x : Int)) = 2 * (x : Int) := w64e rfl (by omega) (by omega)
            by_cases p0 : 0 < m
            · have q0 : (m : Int) > 0 := by omega
              by_cases p1 : m < 2 * x
              · have q1 : 2 * (x : Int) > (m : Int) := by omega
                have hw := fun wr h => hwon true wr (by simp [p0, p1]) h
                go_wp2_with (first
                  | (go_at_call 19; (with_reducible refine (hcount _ st4).mono ?_); rintro e w5 ⟨rfl, rfl⟩)
                  | (go_at_call 20; (with_reducible refine (hw _ st4).mono ?_); rintro e w6 ⟨rfl, st6⟩))
                go_roundw
                case rel => exact ⟨j + 1, S, by omega, by omega, by rw [EQN.out]; try go_num, by go_num, st6, hS2⟩
                case measure => simp [intOf]; omega
              · have q1 : ¬ 2 * (x : Int) > (m : Int) := by omega
                have hw := fun wr h => hwon false wr (by simp [p1]) h
                go_wp2_with (first
                  | (go_at_call 19; (with_reducible refine (hcount _ st4).mono ?_); rintro e w5 ⟨rfl, rfl⟩)
                  | (go_at_call 20; (with_reducible refine (hw _ st4).mono ?_); rintro e w6 ⟨rfl, st6⟩))
                go_roundw
                case rel => exact ⟨j + 1, S, by omega, by omega, by rw [EQN.out]; try go_num, by go_num, st6, hS2⟩
                case measure => simp [intOf]; omega
            · have q0 : ¬ (m : Int) > 0 := by omega
              have hw := fun wr h => hwon false wr (by simp [p0]) h
              go_wp2_with (first
                | (go_at_call 19; (with_reducible refine (hcount _ st4).mono ?_); rintro e w5 ⟨rfl, rfl⟩)
                | (go_at_call 20; (with_reducible refine (hw _ st4).mono ?_); rintro e w6 ⟨rfl, st6⟩))
              go_roundw
              case rel => exact ⟨j + 1, S, by omega, by omega, by rw [EQN.out]; try go_num, by go_num, st6, hS2⟩
              case measure => simp [intOf]; omega
          · have hSk' : S k = false := by simpa using hSk
            rw [hSk'] at hrow
            have hcnt : cnt m (fun j => S j || j == k) 9 = x + 1 := by rw [cnt_new m S k hk hSk' 9, if_pos (by omega), HX.out]
            have hstore := fun wr (h : Hid (Hav w wr g m (fun j => S j || j == k) S)) => h.out.store k (by omega)
            go_upto_region 18 with (first
              | (go_at_call 17; (with_reducible refine hadd.mono ?_); rintro e w2 ⟨rfl, st2⟩; have hrow2 := hrow _ st2; have hfree2 := hfree _ st2; have hr2 := hread.out _ st2.out.bel; have st4 : Hid (Hav w _ g m (fun j => S j || j == k) (fun j => S j || j == k)) := hstore _ st2)
              | (go_at_call 18; (with_reducible refine (hhas _ st2).mono ?_); rintro e w3 ⟨rfl, rfl⟩))
            have hS2 := hS'
            clear hadd hhas hrow hfree hrow2 hr2 hread hc hfree2 hstore
            have EQN : Hid (cnt m (fun j => S j || j == k) 9 = x + 1) := hcnt
            clear hcnt
            have hcount : ∀ wr, Hid (Hav w wr g m (fun j => S j || j == k) (fun j => S j || j == k)) → Calls Try.prog 19 #[.pointer (some ⟨w.heap.size, 0, none⟩)] wr fun e w' => e = .returned (.int .i64 ((x : Int) + 1)) ∧ wr = w' := fun wr h => by
              have := hav_count g m (fun j => S j || j == k) (fun j => S j || j == k) w wr h.out
              rw [EQN.out] at this
              exact this
            have hwon : ∀ v wr, v = (decide (0 < m) && decide (m < 2 * (x + 1))) → Hid (Hav w wr g m (fun j => S j || j == k) (fun j => S j || j == k)) → Calls Try.prog 20 #[.pointer (some ⟨w.heap.size, 0, none⟩)] wr fun e w' => e = .returned (.bool v) ∧ Hid (Hav w w' g m (fun j => S j || j == k) (fun j => S j || j == k)) := fun v wr hv h => hav_won g m (fun j => S j || j == k) (fun j => S j || j == k) v w wr h.out (by rw [EQN.out]; exact hv)
            have i1 : wrap64 (2 * ((x : Int) + 1)) = 2 * ((x : Int) + 1) := w64e rfl (by omega) (by omega)
            by_cases p0 : 0 < m
            · have q0 : (m : Int) > 0 := by omega
              by_cases p1 : m < 2 * (x + 1)
              · have q1 : 2 * ((x : Int) + 1) > (m : Int) := by omega
                have hw := fun wr h => hwon true wr (by simp [p0, p1]) h
                go_wp2_with (first
                  | (go_at_call 19; (with_reducible refine (hcount _ st4).mono ?_); rintro e w5 ⟨rfl, rfl⟩)
                  | (go_at_call 20; (with_reducible refine (hw _ st4).mono ?_); rintro e w6 ⟨rfl, st6⟩))
                go_roundw
                case rel => exact ⟨j + 1, (fun j => S j || j == k), by omega, by omega, by rw [EQN.out]; try go_num, by go_num, st6, hS2⟩
                case measure => simp [intOf]; omega
              · have q1 : ¬ 2 * ((x : Int) + 1) > (m : Int) := by omega
                have hw := fun wr h => hwon false wr (by simp [p1]) h
                go_wp2_with (first
                  | (go_at_call 19; (with_reducible refine (hcount _ st4).mono ?_); rintro e w5 ⟨rfl, rfl⟩)
                  | (go_at_call 20; (with_reducible refine (hw _ st4).mono ?_); rintro e w6 ⟨rfl, st6⟩))
                go_roundw
                case rel => exact ⟨j + 1, (fun j => S j || j == k), by omega, by omega, by rw [EQN.out]; try go_num, by go_num, st6, hS2⟩
                case measure => simp [intOf]; omega
            · have q0 : ¬ (m : Int) > 0 := by omega
              have hw := fun wr h => hwon false wr (by simp [p0]) h
              go_wp2_with (first
                | (go_at_call 19; (with_reducible refine (hcount _ st4).mono ?_); rintro e w5 ⟨rfl, rfl⟩)
                | (go_at_call 20; (with_reducible refine (hw _ st4).mono ?_); rintro e w6 ⟨rfl, st6⟩))
              go_roundw
              case rel => exact ⟨j + 1, (fun j => S j || j == k), by omega, by omega, by rw [EQN.out]; try go_num, by go_num, st6, hS2⟩
              case measure => simp [intOf]; omega
        · have hadd := hav_add g m S S z w wr st.out
          rw [decide_eq_false hz, put_no hz] at hadd
          have hhas := fun wr (h : Hid (Hav w wr g m S S)) => has_no _ m S z wr h.out.tal hz
          have hS2 := hS
          by_cases z0 : z ≥ 0
          · have z1 : ¬ z < (m : Int) := by omega
            go_upto_region 18 with (first
              | (go_at_call 17; (with_reducible refine hadd.mono ?_); rintro e w2 ⟨rfl, st4⟩; have hr2 := hread.out _ st4.out.bel)
              | (go_at_call 18; (with_reducible refine (hhas _ st4).mono ?_); rintro e w3 ⟨rfl, rfl⟩))
            clear hadd hhas hr2 hread hc
            have EQN := HX
            have hcount : ∀ wr, Hid (Hav w wr g m S S) → Calls Try.prog 19 #[.pointer (some ⟨w.heap.size, 0, none⟩)] wr fun e w' => e = .returned (.int .i64 (x : Int)) ∧ wr = w' := fun wr h => by
              have := hav_count g m S S w wr h.out
              rw [EQN.out] at this
              exact this
            have hwon : ∀ v wr, v = (decide (0 < m) && decide (m < 2 * x)) → Hid (Hav w wr g m S S) → Calls Try.prog 20 #[.pointer (some ⟨w.heap.size, 0, none⟩)] wr fun e w' => e = .returned (.bool v) ∧ Hid (Hav w w' g m S S) := fun v wr hv h => hav_won g m S S v w wr h.out (by rw [EQN.out]; exact hv)
            have i1 : wrap64 (2 * (x : Int)) = 2 * (x : Int) := w64e rfl (by omega) (by omega)
            by_cases p0 : 0 < m
            · have q0 : (m : Int) > 0 := by omega
              by_cases p1 : m < 2 * x
              · have q1 : 2 * (x : Int) > (m : Int) := by omega
                have hw := fun wr h => hwon true wr (by simp [p0, p1]) h
                go_wp2_with (first
                  | (go_at_call 19; (with_reducible refine (hcount _ st4).mono ?_); rintro e w5 ⟨rfl, rfl⟩)
                  | (go_at_call 20; (with_reducible refine (hw _ st4).mono ?_); rintro e w6 ⟨rfl, st6⟩))
                go_roundw
                case rel => exact ⟨j + 1, S, by omega, by omega, by rw [EQN.out]; try go_num, by go_num, st6, hS2⟩
                case measure => simp [intOf]; omega
              · have q1 : ¬ 2 * (x : Int) > (m : Int) := by omega
                have hw := fun wr h => hwon false wr (by simp [p1]) h
                go_wp2_with (first
                  | (go_at_call 19; (with_reducible refine (hcount _ st4).mono ?_); rintro e w5 ⟨rfl, rfl⟩)
                  | (go_at_call 20; (with_reducible refine (hw _ st4).mono ?_); rintro e w6 ⟨rfl, st6⟩))
                go_roundw
                case rel => exact ⟨j + 1, S, by omega, by omega, by rw [EQN.out]; try go_num, by go_num, st6, hS2⟩
                case measure => simp [intOf]; omega
            · have q0 : ¬ (m : Int) > 0 := by omega
              have hw := fun wr h => hwon false wr (by simp [p0]) h
              go_wp2_with (first
                | (go_at_call 19; (with_reducible refine (hcount _ st4).mono ?_); rintro e w5 ⟨rfl, rfl⟩)
                | (go_at_call 20; (with_reducible refine (hw _ st4).mono ?_); rintro e w6 ⟨rfl, st6⟩))
              go_roundw
              case rel => exact ⟨j + 1, S, by omega, by omega, by rw [EQN.out]; try go_num, by go_num, st6, hS2⟩
              case measure => simp [intOf]; omega
          · go_upto_region 18 with (first
              | (go_at_call 17; (with_reducible refine hadd.mono ?_); rintro e w2 ⟨rfl, st4⟩; have hr2 := hread.out _ st4.out.bel)
              | (go_at_call 18; (with_reducible refine (hhas _ st4).mono ?_); rintro e w3 ⟨rfl, rfl⟩))
            clear hadd hhas hr2 hread hc
            have EQN := HX
            have hcount : ∀ wr, Hid (Hav w wr g m S S) → Calls Try.prog 19 #[.pointer (some ⟨w.heap.size, 0, none⟩)] wr fun e w' => e = .returned (.int .i64 (x : Int)) ∧ wr = w' := fun wr h => by
              have := hav_count g m S S w wr h.out
              rw [EQN.out] at this
              exact this
            have hwon : ∀ v wr, v = (decide (0 < m) && decide (m < 2 * x)) → Hid (Hav w wr g m S S) → Calls Try.prog 20 #[.pointer (some ⟨w.heap.size, 0, none⟩)] wr fun e w' => e = .returned (.bool v) ∧ Hid (Hav w w' g m S S) := fun v wr hv h => hav_won g m S S v w wr h.out (by rw [EQN.out]; exact hv)
            have i1 : wrap64 (2 * (x : Int)) = 2 * (x : Int) := w64e rfl (by omega) (by omega)
            by_cases p0 : 0 < m
            · have q0 : (m : Int) > 0 := by omega
              by_cases p1 : m < 2 * x
              · have q1 : 2 * (x : Int) > (m : Int) := by omega
                have hw := fun wr h => hwon true wr (by simp [p0, p1]) h
                go_wp2_with (first
                  | (go_at_call 19; (with_reducible refine (hcount _ st4).mono ?_); rintro e w5 ⟨rfl, rfl⟩)
                  | (go_at_call 20; (with_reducible refine (hw _ st4).mono ?_); rintro e w6 ⟨rfl, st6⟩))
                go_roundw
                case rel => exact ⟨j + 1, S, by omega, by omega, by rw [EQN.out]; try go_num, by go_num, st6, hS2⟩
                case measure => simp [intOf]; omega
              · have q1 : ¬ 2 * (x : Int) > (m : Int) := by omega
                have hw := fun wr h => hwon false wr (by simp [p1]) h
                go_wp2_with (first
                  | (go_at_call 19; (with_reducible refine (hcount _ st4).mono ?_); rintro e w5 ⟨rfl, rfl⟩)
                  | (go_at_call 20; (with_reducible refine (hw _ st4).mono ?_); rintro e w6 ⟨rfl, st6⟩))
                go_roundw
                case rel => exact ⟨j + 1, S, by omega, by omega, by rw [EQN.out]; try go_num, by go_num, st6, hS2⟩
                case measure => simp [intOf]; omega
            · have q0 : ¬ (m : Int) > 0 := by omega
              have hw := fun wr h => hwon false wr (by simp [p0]) h
              go_wp2_with (first
                | (go_at_call 19; (with_reducible refine (hcount _ st4).mono ?_); rintro e w5 ⟨rfl, rfl⟩)
                | (go_at_call 20; (with_reducible refine (hw _ st4).mono ?_); rintro e w6 ⟨rfl, st6⟩))
              go_roundw
              case rel => exact ⟨j + 1, S, by omega, by omega, by rw [EQN.out]; try go_num, by go_num, st6, hS2⟩
              case measure => simp [intOf]; omega
      · by_cases c1 : j < len
        all_goals
          go_wp2
          go_loopw [11] (fun i wr => ∃ q : Int, -1 ≤ q ∧ q ≤ 11 ∧ i = .int .i64 q ∧ Hid (Hav w wr g m S S)) (fun i _ => (11 - intOf i).toNat)
          case atStart => exact ⟨-1, by omega, by omega, rfl, st⟩
          case round =>
            obtain ⟨q, hq, hq2, rfl, st5⟩ := hrel
            by_cases h11 : q < 11
            · by_cases g0 : q ≥ 0
              · obtain ⟨k, rfl⟩ := Int.eq_ofNat_of_zero_le g0
                by_cases g9 : (k : Int) < 9
                · have hh := has_any _ m S k wr st5.out.tal
                  have hrow := (st5.out.row.cell k).trans (bools_at S k (by omega))
                  have hle := st5.out.tal.le
                  have ev : (decide (k < m) && S k) = S k := by
                    by_cases h : k < m
                    · simp [h]
                    · rw [hS.out k (by omega), Bool.and_false]
                  rw [ev] at hh
                  clear ev
                  generalize S k = v at *
                  have vv : (v != v) = false := by simp
                  have z3 : 0 ≤ (k : Int) := by omega
                  go_wp2_with (go_at_call 18; (with_reducible refine hh.mono ?_); rintro e w8 ⟨rfl, rfl⟩)
                  go_roundw
                  case rel => exact ⟨(k : Int) + 1, by omega, by omega, by go_num, st5⟩
                  case measure => simp [intOf]; omega
                · have hle := st5.out.tal.le
                  have hh := has_no _ m S k wr st5.out.tal (by omega)
                  go_wp2_with (go_at_call 18; (with_reducible refine hh.mono ?_); rintro e w8 ⟨rfl, rfl⟩)
                  go_roundw
                  case rel => exact ⟨(k : Int) + 1, by omega, by omega, by go_num, st5⟩
                  case measure => simp [intOf]; omega
              · have hh := has_no _ m S q wr st5.out.tal (by omega)
                go_wp2_with (go_at_call 18; (with_reducible refine hh.mono ?_); rintro e w8 ⟨rfl, rfl⟩)
                go_roundw
                case rel => exact ⟨q + 1, by omega, by omega, by go_num, st5⟩
                case measure => simp [intOf]; omega
            · go_wp2_with (go_at_call 12; (with_reducible refine (awake_calls _).mono ?_); rintro e w6 ⟨rfl, hh⟩)
              go_ret
              exact ⟨rfl, st5.out.bel.trans (hh.out.mono st5.out.bel.size)⟩

  · have hm0 : n = (m : Int) := (hm.out.2.2.1 n0 n9).symm
    have hm9 : m ≤ 9 := hm.out.2.2.2
    subst hm0
    clear hm
    go_enter Try.func8, Try.ntmps8
    go_wp2_with (first
      | (go_at_call 21; (with_reducible refine hnew.mono ?_); rintro e w1 ⟨rfl, n1⟩))
    have st0 : Hid (Hav w _ w1.heap.size m (fun _ => false) (fun _ => false)) := hmade w1 n1.out
    clear hnew hmade n1 hmk
    generalize hg : w1.heap.size = g at *
    clear hg
    go_loopw [8, 9, 10] (fun c i s wr => ∃ (j : Nat) (S : Nat → Bool), j ≤ len ∧ j ≤ 60 ∧ c = .int .i64 (cnt m S 9) ∧ i = .int .i64 j ∧ Hid (Hav w wr g m S S) ∧ Hid (∀ k, m ≤ k → S k = false)) (fun _ i _ _ => 60 - (intOf i).toNat)
    case atStart => exact ⟨0, _, by omega, by omega, by rw [cnt_none]; rfl, rfl, st0, fun _ _ => rfl⟩
    case round =>
      obtain ⟨j, S, hj, hj2, rfl, rfl, st, hS⟩ := hrel
      clear st0
      by_cases hlt : j < len ∧ j < 60
      · obtain ⟨h1, h2⟩ := hlt
        obtain ⟨ad, rfl, hc⟩ := R1.out wr st.out.bel j h1
        have hread : Hid (∀ wr, Below w.heap.size w wr → wr.cell? (ad.add j) = some (.int .i64 (zs.getD j 0))) := by
          intro wr' hb
          obtain ⟨ad', e, hc'⟩ := R1.out wr' hb j h1
          cases e
          exact hc'
        generalize zs.getD j 0 = z at *
        have x9 := cnt_le m S 9
        generalize hx : cnt m S 9 = x at *
        have HX : Hid (cnt m S 9 = x) := hx
        clear hx
        by_cases hz : 0 ≤ z ∧ z < m
        · obtain ⟨k, rfl⟩ := Int.eq_ofNat_of_zero_le hz.1
          have hk : k < m := by omega
          have z0 : (k : Int) ≥ 0 := hz.1
          have z1 : (k : Int) < (m : Int) := hz.2
          have z2 : (k : Int) < 9 := by omega
          have z3 : 0 ≤ (k : Int) := by omega
          have hadd := hav_add g m S S k w wr st.out
          rw [decide_eq_true hz, put_in m S k hk] at hadd
          have hhas := fun wr (h : Hid (Hav w wr g m (fun j => S j || j == k) S)) => has_any _ m (fun j => S j || j == k) k wr h.out.tal
          have hrow := fun wr (h : Hid (Hav w wr g m (fun j => S j || j == k) S)) => (h.out.row.cell k).trans (bools_at S k (by omega))
          have hfree := fun wr (h : Hid (Hav w wr g m (fun j => S j || j == k) S)) => h.out.row.free k
          rw [show (decide (k < m) && (S k || k == k)) = true from by simp [hk]] at hhas
          have hS' : Hid (∀ i, m ≤ i → (fun j => S j || j == k) i = false) := fun i hi => by
            show (S i || i == k) = false
            rw [hS.out i hi]
            simp
            omega
          by_cases hSk : S k = true
          · rw [hSk] at hrow
            have hp := put_had S k hSk
            rw [hp] at hadd hhas hrow hfree
            have hS2 := hS
            clear hp hS'
            go_upto_region 18 with (first
              | (go_at_call 17; (with_reducible refine hadd.mono ?_); rintro e w2 ⟨rfl, st4⟩; have hrow2 := hrow _ st4; have hr2 := hread.out _ st4.out.bel)
              | (go_at_call 18; (with_reducible refine (hhas _ st4).mono ?_); rintro e w3 ⟨rfl, rfl⟩))
            clear hadd hhas hrow hfree hrow2 hr2 hread hc
            have EQN := HX
            have hcount : ∀ wr, Hid (Hav w wr g m S S) → Calls Try.prog 19 #[.pointer (some ⟨w.heap.size, 0, none⟩)] wr fun e w' => e = .returned (.int .i64 (x : Int)) ∧ wr = w' := fun wr h => by
              have := hav_count g m S S w wr h.out
              rw [EQN.out] at this
              exact this
            have hwon : ∀ v wr, v = (decide (0 < m) && decide (m < 2 * x)) → Hid (Hav w wr g m S S) → Calls Try.prog 20 #[.pointer (some ⟨w.heap.size, 0, none⟩)] wr fun e w' => e = .returned (.bool v) ∧ Hid (Hav w w' g m S S) := fun v wr hv h => hav_won g m S S v w wr h.out (by rw [EQN.out]; exact hv)
            have i1 : wrap64 (2 * (x : Int)) = 2 * (x : Int) := w64e rfl (by omega) (by omega)
            by_cases p0 : 0 < m
            · have q0 : (m : Int) > 0 := by omega
              by_cases p1 : m < 2 * x
              · have q1 : 2 * (x : Int) > (m : Int) := by omega
                have hw := fun wr h => hwon true wr (by simp [p0, p1]) h
                go_wp2_with (first
                  | (go_at_call 19; (with_reducible refine (hcount _ st4).mono ?_); rintro e w5 ⟨rfl, rfl⟩)
                  | (go_at_call 20; (with_reducible refine (hw _ st4).mono ?_); rintro e w6 ⟨rfl, st6⟩))
                go_roundw
                case rel => exact ⟨j + 1, S, by omega, by omega, by rw [EQN.out]; try go_num, by go_num, st6, hS2⟩
                case measure => simp [intOf]; omega
              · have q1 : ¬ 2 * (x : Int) > (m : Int) := by omega
                have hw := fun wr h => hwon false wr (by simp [p1]) h
                go_wp2_with (first
                  | (go_at_call 19; (with_reducible refine (hcount _ st4).mono ?_); rintro e w5 ⟨rfl, rfl⟩)
                  | (go_at_call 20; (with_reducible refine (hw _ st4).mono ?_); rintro e w6 ⟨rfl, st6⟩))
                go_roundw
                case rel => exact ⟨j + 1, S, by omega, by omega, by rw [EQN.out]; try go_num, by go_num, st6, hS2⟩
                case measure => simp [intOf]; omega
            · have q0 : ¬ (m : Int) > 0 := by omega
              have hw := fun wr h => hwon false wr (by simp [p0]) h
              go_wp2_with (first
                | (go_at_call 19; (with_reducible refine (hcount _ st4).mono ?_); rintro e w5 ⟨rfl, rfl⟩)
                | (go_at_call 20; (with_reducible refine (hw _ st4).mono ?_); rintro e w6 ⟨rfl, st6⟩))
              go_roundw
              case rel => exact ⟨j + 1, S, by omega, by omega, by rw [EQN.out]; try go_num, by go_num, st6, hS2⟩
              case measure => simp [intOf]; omega
          · have hSk' : S k = false := by simpa using hSk
            rw [hSk'] at hrow
            have hcnt : cnt m (fun j => S j || j == k) 9 = x + 1 := by rw [cnt_new m S k hk hSk' 9, if_pos (by omega), HX.out]
            have hstore := fun wr (h : Hid (Hav w wr g m (fun j => S j || j == k) S)) => h.out.store k (by omega)
            go_upto_region 18 with (first
              | (go_at_call 17; (with_reducible refine hadd.mono ?_); rintro e w2 ⟨rfl, st2⟩; have hrow2 := hrow _ st2; have hfree2 := hfree _ st2; have hr2 := hread.out _ st2.out.bel; have st4 : Hid (Hav w _ g m (fun j => S j || j == k) (fun j => S j || j == k)) := hstore _ st2)
              | (go_at_call 18; (with_reducible refine (hhas _ st2).mono ?_); rintro e w3 ⟨rfl, rfl⟩))
            have hS2 := hS'
            clear hadd hhas hrow hfree hrow2 hr2 hread hc hfree2 hstore
            have EQN : Hid (cnt m (fun j => S j || j == k) 9 = x + 1) := hcnt
            clear hcnt
            have hcount : ∀ wr, Hid (Hav w wr g m (fun j => S j || j == k) (fun j => S j || j == k)) → Calls Try.prog 19 #[.pointer (some ⟨w.heap.size, 0, none⟩)] wr fun e w' => e = .returned (.int .i64 ((x : Int) + 1)) ∧ wr = w' := fun wr h => by
              have := hav_count g m (fun j => S j || j == k) (fun j => S j || j == k) w wr h.out
              rw [EQN.out] at this
              exact this
            have hwon : ∀ v wr, v = (decide (0 < m) && decide (m < 2 * (x + 1))) → Hid (Hav w wr g m (fun j => S j || j == k) (fun j => S j || j == k)) → Calls Try.prog 20 #[.pointer (some ⟨w.heap.size, 0, none⟩)] wr fun e w' => e = .returned (.bool v) ∧ Hid (Hav w w' g m (fun j => S j || j == k) (fun j => S j || j == k)) := fun v wr hv h => hav_won g m (fun j => S j || j == k) (fun j => S j || j == k) v w wr h.out (by rw [EQN.out]; exact hv)
            have i1 : wrap64 (2 * ((x : Int) + 1)) = 2 * ((x : Int) + 1) := w64e rfl (by omega) (by omega)
            by_cases p0 : 0 < m
            · have q0 : (m : Int) > 0 := by omega
              by_cases p1 : m < 2 * (x + 1)
              · have q1 : 2 * ((x : Int) + 1) > (m : Int) := by omega
                have hw := fun wr h => hwon true wr (by simp [p0, p1]) h
                go_wp2_with (first
                  | (go_at_call 19; (with_reducible refine (hcount _ st4).mono ?_); rintro e w5 ⟨rfl, rfl⟩)
                  | (go_at_call 20; (with_reducible refine (hw _ st4).mono ?_); rintro e w6 ⟨rfl, st6⟩))
                go_roundw
                case rel => exact ⟨j + 1, (fun j => S j || j == k), by omega, by omega, by rw [EQN.out]; try go_num, by go_num, st6, hS2⟩
                case measure => simp [intOf]; omega
              · have q1 : ¬ 2 * ((x : Int) + 1) > (m : Int) := by omega
                have hw := fun wr h => hwon false wr (by simp [p1]) h
                go_wp2_with (first
                  | (go_at_call 19; (with_reducible refine (hcount _ st4).mono ?_); rintro e w5 ⟨rfl, rfl⟩)
                  | (go_at_call 20; (with_reducible refine (hw _ st4).mono ?_); rintro e w6 ⟨rfl, st6⟩))
                go_roundw
                case rel => exact ⟨j + 1, (fun j => S j || j == k), by omega, by omega, by rw [EQN.out]; try go_num, by go_num, st6, hS2⟩
                case measure => simp [intOf]; omega
            · have q0 : ¬ (m : Int) > 0 := by omega
              have hw := fun wr h => hwon false wr (by simp [p0]) h
              go_wp2_with (first
                | (go_at_call 19; (with_reducible refine (hcount _ st4).mono ?_); rintro e w5 ⟨rfl, rfl⟩)
                | (go_at_call 20; (with_reducible refine (hw _ st4).mono ?_); rintro e w6 ⟨rfl, st6⟩))
              go_roundw
              case rel => exact ⟨j + 1, (fun j => S j || j == k), by omega, by omega, by rw [EQN.out]; try go_num, by go_num, st6, hS2⟩
              case measure => simp [intOf]; omega
        · have hadd := hav_add g m S S z w wr st.out
          rw [decide_eq_false hz, put_no hz] at hadd
          have hhas := fun wr (h : Hid (Hav w wr g m S S)) => has_no _ m S z wr h.out.tal hz
          have hS2 := hS
          by_cases z0 : z ≥ 0
          · have z1 : ¬ z < (m : Int) := by omega
            go_upto_region 18 with (first
              | (go_at_call 17; (with_reducible refine hadd.mono ?_); rintro e w2 ⟨rfl, st4⟩; have hr2 := hread.out _ st4.out.bel)
              | (go_at_call 18; (with_reducible refine (hhas _ st4).mono ?_); rintro e w3 ⟨rfl, rfl⟩))
            clear hadd hhas hr2 hread hc
            have EQN := HX
            have hcount : ∀ wr, Hid (Hav w wr g m S S) → Calls Try.prog 19 #[.pointer (some ⟨w.heap.size, 0, none⟩)] wr fun e w' => e = .returned (.int .i64 (x : Int)) ∧ wr = w' := fun wr h => by
              have := hav_count g m S S w wr h.out
              rw [EQN.out] at this
              exact this
            have hwon : ∀ v wr, v = (decide (0 < m) && decide (m < 2 * x)) → Hid (Hav w wr g m S S) → Calls Try.prog 20 #[.pointer (some ⟨w.heap.size, 0, none⟩)] wr fun e w' => e = .returned (.bool v) ∧ Hid (Hav w w' g m S S) := fun v wr hv h => hav_won g m S S v w wr h.out (by rw [EQN.out]; exact hv)
            have i1 : wrap64 (2 * (x : Int)) = 2 * (x : Int) := w64e rfl (by omega) (by omega)
            by_cases p0 : 0 < m
            · have q0 : (m : Int) > 0 := by omega
              by_cases p1 : m < 2 * x
              · have q1 : 2 * (x : Int) > (m : Int) := by omega
                have hw := fun wr h => hwon true wr (by simp [p0, p1]) h
                go_wp2_with (first
                  | (go_at_call 19; (with_reducible refine (hcount _ st4).mono ?_); rintro e w5 ⟨rfl, rfl⟩)
                  | (go_at_call 20; (with_reducible refine (hw _ st4).mono ?_); rintro e w6 ⟨rfl, st6⟩))
                go_roundw
                case rel => exact ⟨j + 1, S, by omega, by omega, by rw [EQN.out]; try go_num, by go_num, st6, hS2⟩
                case measure => simp [intOf]; omega
              · have q1 : ¬ 2 * (x : Int) > (m : Int) := by omega
                have hw := fun wr h => hwon false wr (by simp [p1]) h
                go_wp2_with (first
                  | (go_at_call 19; (with_reducible refine (hcount _ st4).mono ?_); rintro e w5 ⟨rfl, rfl⟩)
                  | (go_at_call 20; (with_reducible refine (hw _ st4).mono ?_); rintro e w6 ⟨rfl, st6⟩))
                go_roundw
                case rel => exact ⟨j + 1, S, by omega, by omega, by rw [EQN.out]; try go_num, by go_num, st6, hS2⟩
                case measure => simp [intOf]; omega
            · have q0 : ¬ (m : Int) > 0 := by omega
              have hw := fun wr h => hwon false wr (by simp [p0]) h
              go_wp2_with (first
                | (go_at_call 19; (with_reducible refine (hcount _ st4).mono ?_); rintro e w5 ⟨rfl, rfl⟩)
                | (go_at_call 20; (with_reducible refine (hw _ st4).mono ?_); rintro e w6 ⟨rfl, st6⟩))
              go_roundw
              case rel => exact ⟨j + 1, S, by omega, by omega, by rw [EQN.out]; try go_num, by go_num, st6, hS2⟩
              case measure => simp [intOf]; omega
          · go_upto_region 18 with (first
              | (go_at_call 17; (with_reducible refine hadd.mono ?_); rintro e w2 ⟨rfl, st4⟩; have hr2 := hread.out _ st4.out.bel)
              | (go_at_call 18; (with_reducible refine (hhas _ st4).mono ?_); rintro e w3 ⟨rfl, rfl⟩))
            clear hadd hhas hr2 hread hc
            have EQN := HX
            have hcount : ∀ wr, Hid (Hav w wr g m S S) → Calls Try.prog 19 #[.pointer (some ⟨w.heap.size, 0, none⟩)] wr fun e w' => e = .returned (.int .i64 (x : Int)) ∧ wr = w' := fun wr h => by
              have := hav_count g m S S w wr h.out
              rw [EQN.out] at this
              exact this
            have hwon : ∀ v wr, v = (decide (0 < m) && decide (m < 2 * x)) → Hid (Hav w wr g m S S) → Calls Try.prog 20 #[.pointer (some ⟨w.heap.size, 0, none⟩)] wr fun e w' => e = .returned (.bool v) ∧ Hid (Hav w w' g m S S) := fun v wr hv h => hav_won g m S S v w wr h.out (by rw [EQN.out]; exact hv)
            have i1 : wrap64 (2 * (x : Int)) = 2 * (x : Int) := w64e rfl (by omega) (by omega)
            by_cases p0 : 0 < m
            · have q0 : (m : Int) > 0 := by omega
              by_cases p1 : m < 2 * x
              · have q1 : 2 * (x : Int) > (m : Int) := by omega
                have hw := fun wr h => hwon true wr (by simp [p0, p1]) h
                go_wp2_with (first
                  | (go_at_call 19; (with_reducible refine (hcount _ st4).mono ?_); rintro e w5 ⟨rfl, rfl⟩)
                  | (go_at_call 20; (with_reducible refine (hw _ st4).mono ?_); rintro e w6 ⟨rfl, st6⟩))
                go_roundw
                case rel => exact ⟨j + 1, S, by omega, by omega, by rw [EQN.out]; try go_num, by go_num, st6, hS2⟩
                case measure => simp [intOf]; omega
              · have q1 : ¬ 2 * (x : Int) > (m : Int) := by omega
                have hw := fun wr h => hwon false wr (by simp [p1]) h
                go_wp2_with (first
                  | (go_at_call 19; (with_reducible refine (hcount _ st4).mono ?_); rintro e w5 ⟨rfl, rfl⟩)
                  | (go_at_call 20; (with_reducible refine (hw _ st4).mono ?_); rintro e w6 ⟨rfl, st6⟩))
                go_roundw
                case rel => exact ⟨j + 1, S, by omega, by omega, by rw [EQN.out]; try go_num, by go_num, st6, hS2⟩
                case measure => simp [intOf]; omega
            · have q0 : ¬ (m : Int) > 0 := by omega
              have hw := fun wr h => hwon false wr (by simp [p0]) h
              go_wp2_with (first
                | (go_at_call 19; (with_reducible refine (hcount _ st4).mono ?_); rintro e w5 ⟨rfl, rfl⟩)
                | (go_at_call 20; (with_reducible refine (hw _ st4).mono ?_); rintro e w6 ⟨rfl, st6⟩))
              go_roundw
              case rel => exact ⟨j + 1, S, by omega, by omega, by rw [EQN.out]; try go_num, by go_num, st6, hS2⟩
              case measure => simp [intOf]; omega
      · by_cases c1 : j < len
        all_goals
          go_wp2
          go_loopw [11] (fun i wr => ∃ q : Int, -1 ≤ q ∧ q ≤ 11 ∧ i = .int .i64 q ∧ Hid (Hav w wr g m S S)) (fun i _ => (11 - intOf i).toNat)
          case atStart => exact ⟨-1, by omega, by omega, rfl, st⟩
          case round =>
            obtain ⟨q, hq, hq2, rfl, st5⟩ := hrel
            by_cases h11 : q < 11
            · by_cases g0 : q ≥ 0
              · obtain ⟨k, rfl⟩ := Int.eq_ofNat_of_zero_le g0
                by_cases g9 : (k : Int) < 9
                · have hh := has_any _ m S k wr st5.out.tal
                  have hrow := (st5.out.row.cell k).trans (bools_at S k (by omega))
                  have hle := st5.out.tal.le
                  have ev : (decide (k < m) && S k) = S k := by
                    by_cases h : k < m
                    · simp [h]
                    · rw [hS.out k (by omega), Bool.and_false]
                  rw [ev] at hh
                  clear ev
                  generalize S k = v at *
                  have vv : (v != v) = false := by simp
                  have z3 : 0 ≤ (k : Int) := by omega
                  go_wp2_with (go_at_call 18; (with_reducible refine hh.mono ?_); rintro e w8 ⟨rfl, rfl⟩)
                  go_roundw
                  case rel => exact ⟨(k : Int) + 1, by omega, by omega, by go_num, st5⟩
                  case measure => simp [intOf]; omega
                · have hle := st5.out.tal.le
                  have hh := has_no _ m S k wr st5.out.tal (by omega)
                  go_wp2_with (go_at_call 18; (with_reducible refine hh.mono ?_); rintro e w8 ⟨rfl, rfl⟩)
                  go_roundw
                  case rel => exact ⟨(k : Int) + 1, by omega, by omega, by go_num, st5⟩
                  case measure => simp [intOf]; omega
              · have hh := has_no _ m S q wr st5.out.tal (by omega)
                go_wp2_with (go_at_call 18; (with_reducible refine hh.mono ?_); rintro e w8 ⟨rfl, rfl⟩)
                go_roundw
                case rel => exact ⟨q + 1, by omega, by omega, by go_num, st5⟩
                case measure => simp [intOf]; omega
            · go_wp2_with (go_at_call 12; (with_reducible refine (awake_calls _).mono ?_); rintro e w6 ⟨rfl, hh⟩)
              go_ret
              exact ⟨rfl, st5.out.bel.trans (hh.out.mono st5.out.bel.size)⟩


end Go.Proofs.Ytpmbklagjaibgaa.Plan
