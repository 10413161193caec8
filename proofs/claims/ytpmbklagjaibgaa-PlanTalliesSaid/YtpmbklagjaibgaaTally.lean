/- What the methods of a tally do: of one that is nil, and of one that stands in memory. -/
import Derived.Test.YtpmbklagjaibgaaBase
namespace Go.Proofs.Ytpmbklagjaibgaa.Plan
open Go.RowKit Go.Proofs.YtpmbklagjaibgaaW.PrintWords

theorem add_nil (i : Int) (w : World) : Calls Try.prog 17 #[.pointer none, .int .i64 i] w fun e w' => e = .returned (.bool false) ∧ w = w' := by
  go_enter Try.func17, Try.ntmps17
  go_wp2
  go_ret
  exact ⟨rfl, rfl⟩
theorem has_nil (i : Int) (w : World) : Calls Try.prog 18 #[.pointer none, .int .i64 i] w fun e w' => e = .returned (.bool false) ∧ w = w' := by
  go_enter Try.func18, Try.ntmps18
  go_wp2
  go_ret
  exact ⟨rfl, rfl⟩
theorem count_nil (w : World) : Calls Try.prog 19 #[.pointer none] w fun e w' => e = .returned (.int .i64 0) ∧ w = w' := by
  go_enter Try.func19, Try.ntmps19
  go_wp2
  go_loopw [3, 5] (fun n i wr => ∃ j : Nat, j ≤ 9 ∧ n = .int .i64 0 ∧ i = .int .i64 j ∧ wr = w) (fun _ i _ => 9 - (intOf i).toNat)
  case atStart => exact ⟨0, by omega, rfl, rfl, rfl⟩
  case round =>
    obtain ⟨j, hj, rfl, rfl, rfl⟩ := hrel
    by_cases h : (j : Int) < 9
    · go_wp2_with (go_at_call 18; refine (has_nil _ _).mono ?_; rintro e w' ⟨rfl, rfl⟩)
      go_roundw
      case rel => exact ⟨j + 1, by omega, rfl, by go_num, trivial⟩
      case measure => simp [intOf]; omega
    · go_wp2
      go_ret
      exact ⟨rfl, rfl⟩
theorem won_nil (w : World) : Calls Try.prog 20 #[.pointer none] w fun e w' => e = .returned (.bool false) ∧ Drawn0 w w' := by
  go_enter Try.func20, Try.ntmps20
  go_wp2
  go_quiet (fail)
  go_wp2
  go_ret
  exact ⟨rfl, _, rfl⟩

/-- a block of cells, none of them frozen -/
def Blk (w : World) (b : Nat) (cs : Array Value) (t : TypeId) : Prop := w.heap[b]? = some (.cells cs t (0, 0))
theorem Blk.cell {w : World} {b : Nat} {cs : Array Value} {t : TypeId} (h : Blk w b cs t) (i : Nat) : w.cell? ⟨b, i, none⟩ = cs[i]? := by
  unfold Blk at h; simp [World.cell?, h]
theorem Blk.free {w : World} {b : Nat} {cs : Array Value} {t : TypeId} (h : Blk w b cs t) (i : Nat) : w.frozen? ⟨b, i, none⟩ = false := by
  unfold Blk at h; simp [World.frozen?, h]
theorem Blk.lt {w : World} {b : Nat} {cs : Array Value} {t : TypeId} (h : Blk w b cs t) : b < w.heap.size := (Array.getElem?_eq_some_iff.1 h).1
theorem Blk.set {w : World} {b : Nat} {cs : Array Value} {t : TypeId} (h : Blk w b cs t) (i : Nat) (v : Value) : Blk (w.setCell ⟨b, i, none⟩ v) b (cs.setIfInBounds i v) t := by
  unfold Blk at h ⊢; simp [World.setCell, Array.getElem?_modify, h]
theorem Blk.same {w w' : World} {b : Nat} {cs : Array Value} {t : TypeId} (h : Blk w b cs t) (e : w'.heap[b]? = w.heap[b]?) : Blk w' b cs t := by
  unfold Blk at h ⊢; rw [e]; exact h
theorem Blk.new (w : World) (cs : Array Value) (t : TypeId) : Blk (w.alloc (.cells cs t)) w.heap.size cs t := by
  unfold Blk World.alloc; simp

/-- a tally: of how many, and whom it has -/
def tcells (n : Nat) (S : Nat → Bool) : Array Value := #[.int .i64 n, .bool (S 0), .bool (S 1), .bool (S 2), .bool (S 3), .bool (S 4), .bool (S 5), .bool (S 6), .bool (S 7), .bool (S 8)]
structure Tal (w : World) (b n : Nat) (S : Nat → Bool) : Prop where
  blk : Blk w b (tcells n S) 55
  le : n ≤ 9
theorem Tal.same {w w' : World} {b n : Nat} {S : Nat → Bool} (h : Tal w b n S) (e : w'.heap[b]? = w.heap[b]?) : Tal w' b n S := ⟨h.blk.same e, h.le⟩
theorem Tal.c0 {w : World} {b n : Nat} {S : Nat → Bool} (h : Tal w b n S) : w.cell? ⟨b, 0, none⟩ = some (.int .i64 n) := h.blk.cell 0
theorem Tal.c1 {w : World} {b n : Nat} {S : Nat → Bool} (h : Tal w b n S) (i : Nat) (hi : i < 9) : w.cell? ⟨b, 1 + i, none⟩ = some (.bool (S i)) := by
  rw [h.blk.cell]
  match i, hi with
  | 0, _ | 1, _ | 2, _ | 3, _ | 4, _ | 5, _ | 6, _ | 7, _ | 8, _ => rfl

theorem has_at (b n : Nat) (S : Nat → Bool) (i : Nat) (w : World) (t : Tal w b n S) (hi : i < n) : Calls Try.prog 18 #[.pointer (some ⟨b, 0, none⟩), .int .i64 i] w fun e w' => e = .returned (.bool (S i)) ∧ w = w' := by
  have h0 := t.c0
  have h9 := t.le
  have h1 := t.c1 i (by omega)
  have i1 : (i : Int) < (n : Int) := by omega
  have i2 : (i : Int) ≥ 0 := by omega
  have i3 : (i : Int) < 9 := by omega
  have i4 : 0 ≤ (i : Int) := by omega
  go_enter Try.func18, Try.ntmps18
  go_wp2
  go_ret
  exact ⟨rfl, rfl⟩
theorem has_no (b n : Nat) (S : Nat → Bool) (i : Int) (w : World) (t : Tal w b n S) (hi : ¬ (0 ≤ i ∧ i < n)) : Calls Try.prog 18 #[.pointer (some ⟨b, 0, none⟩), .int .i64 i] w fun e w' => e = .returned (.bool false) ∧ w = w' := by
  have h0 := t.c0
  by_cases i2 : i ≥ 0
  · have i1 : ¬ i < (n : Int) := by omega
    go_enter Try.func18, Try.ntmps18
    go_wp2
    go_ret
    exact ⟨rfl, rfl⟩
  · go_enter Try.func18, Try.ntmps18
    go_wp2
    go_ret
    exact ⟨rfl, rfl⟩
theorem add_no (b n : Nat) (S : Nat → Bool) (i : Int) (w : World) (t : Tal w b n S) (hi : ¬ (0 ≤ i ∧ i < n)) : Calls Try.prog 17 #[.pointer (some ⟨b, 0, none⟩), .int .i64 i] w fun e w' => e = .returned (.bool false) ∧ w = w' := by
  have h0 := t.c0
  by_cases i2 : i < 0
  · go_enter Try.func17, Try.ntmps17
    go_wp2
    go_ret
    exact ⟨rfl, rfl⟩
  · have i1 : i ≥ (n : Int) := by omega
    go_enter Try.func17, Try.ntmps17
    go_wp2
    go_ret
    exact ⟨rfl, rfl⟩
theorem Tal.set {w : World} {b n : Nat} {S : Nat → Bool} (h : Tal w b n S) (i : Nat) (hi : i < 9) : Tal (w.setCell ⟨b, 1 + i, none⟩ (.bool true)) b n (fun k => S k || k == i) := by
  refine ⟨?_, h.le⟩
  have := h.blk.set (1 + i) (.bool true)
  have e : (tcells n S).setIfInBounds (1 + i) (.bool true) = tcells n (fun k => S k || k == i) := by
    match i, hi with
    | 0, _ | 1, _ | 2, _ | 3, _ | 4, _ | 5, _ | 6, _ | 7, _ | 8, _ => simp [tcells, Array.setIfInBounds]
  rw [← e]
  exact this
theorem add_at (b n : Nat) (S : Nat → Bool) (i : Nat) (w : World) (t : Tal w b n S) (hi : i < n) : Calls Try.prog 17 #[.pointer (some ⟨b, 0, none⟩), .int .i64 i] w fun e w' => e = .returned (.bool true) ∧ w' = w.setCell ⟨b, 1 + i, none⟩ (.bool true) := by
  have h0 := t.c0
  have h9 := t.le
  have h1 := t.c1 i (by omega)
  have h2 := t.blk.free (1 + i)
  have i1 : ¬ (i : Int) ≥ (n : Int) := by omega
  have i2 : ¬ (i : Int) < 0 := by omega
  have i3 : (i : Int) < 9 := by omega
  have i4 : 0 ≤ (i : Int) := by omega
  go_enter Try.func17, Try.ntmps17
  go_wp2
  go_ret
  exact ⟨rfl, rfl⟩

/-- how many of the first k of those that may be are had -/
def cnt (n : Nat) (S : Nat → Bool) : Nat → Nat
  | 0 => 0
  | k + 1 => cnt n S k + (if decide (k < n) && S k then 1 else 0)
theorem cnt_le (n : Nat) (S : Nat → Bool) (k : Nat) : cnt n S k ≤ k := by
  induction k with
  | zero => simp [cnt]
  | succ k ih => unfold cnt; split <;> omega

theorem has_any (b n : Nat) (S : Nat → Bool) (i : Nat) (w : World) (t : Tal w b n S) : Calls Try.prog 18 #[.pointer (some ⟨b, 0, none⟩), .int .i64 i] w fun e w' => e = .returned (.bool (decide (i < n) && S i)) ∧ w = w' := by
  by_cases h : i < n
  · simpa [h] using has_at b n S i w t h
  · simpa [h] using has_no b n S i w t (by omega)
theorem count_at (b n : Nat) (S : Nat → Bool) (w : World) (t : Tal w b n S) : Calls Try.prog 19 #[.pointer (some ⟨b, 0, none⟩)] w fun e w' => e = .returned (.int .i64 (cnt n S 9)) ∧ w = w' := by
  go_enter Try.func19, Try.ntmps19
  go_wp2
  go_loopw [3, 5] (fun c i wr => ∃ j : Nat, j ≤ 9 ∧ c = .int .i64 (cnt n S j) ∧ i = .int .i64 j ∧ wr = w) (fun _ i _ => 9 - (intOf i).toNat)
  case atStart => exact ⟨0, by omega, rfl, rfl, rfl⟩
  case round =>
    obtain ⟨j, hj, rfl, rfl, rfl⟩ := hrel
    by_cases h : (j : Int) < 9
    · have hh := has_any b n S j wr t
      have hc := cnt_le n S j
      have hs : cnt n S (j + 1) = cnt n S j + (if decide (j < n) && S j then 1 else 0) := rfl
      generalize (decide (j < n) && S j) = v at *
      cases v
      · go_wp2_with (go_at_call 18; refine hh.mono ?_; rintro e w' ⟨rfl, rfl⟩)
        go_roundw
        case rel => exact ⟨j + 1, by omega, by rw [hs]; rfl, by go_num, trivial⟩
        case measure => simp [intOf]; omega
      · go_wp2_with (go_at_call 18; refine hh.mono ?_; rintro e w' ⟨rfl, rfl⟩)
        go_roundw
        case rel => exact ⟨j + 1, by omega, by rw [hs]; go_num, by go_num, trivial⟩
        case measure => simp [intOf]; omega
    · obtain rfl : j = 9 := by omega
      go_wp2
      go_ret
      exact ⟨rfl, rfl⟩
theorem won_at (b n : Nat) (S : Nat → Bool) (w : World) (t : Tal w b n S) : Calls Try.prog 20 #[.pointer (some ⟨b, 0, none⟩)] w fun e w' => e = .returned (.bool (decide (0 < n) && decide (cnt n S 9 ≥ n / 2 + 1))) ∧ Drawn0 w w' := by
  have h0 := t.c0
  have h9 := t.le
  have hm := fun w => majority_calls n w (by omega)
  have hc := fun w' (e : w'.heap = w.heap) => count_at b n S w' (t.same (by rw [e]))
  by_cases g : 0 < n
  · have g1 : (n : Int) > 0 := by omega
    go_enter Try.func20, Try.ntmps20
    go_wp2
    go_quiet (first | (go_at_call 19; exact quiet0 (hc _ rfl)) | (go_at_call 13; exact quiet0 (hm _)))
    go_wp2
    go_ret
    refine ⟨?_, _, rfl⟩
    simp [g]
    omega
  · have g1 : ¬ (n : Int) > 0 := by omega
    have g2 : decide ((n : Int) > 0) = false := by simp; omega
    go_enter Try.func20, Try.ntmps20
    go_wp2
    go_quiet (fail)
    go_wp2
    go_ret
    exact ⟨by simp [g], _, rfl⟩
/-- how many a new tally is of -/
def some_ (n : Int) : Nat := (min (max n 0) 9).toNat
theorem new_calls (n : Int) (w : World) (hw : (Lit.int .i64 n).wf = true) : Calls Try.prog 21 #[.int .i64 n] w fun e w' => e = .returned (.pointer (some ⟨w.heap.size, 0, none⟩)) ∧ Hid (Tal w' w.heap.size (some_ n) (fun _ => false) ∧ Below w.heap.size w w' ∧ w'.heap.size = w.heap.size + 1) := by
  go_enter Try.func21, Try.ntmps21
  go_wp2
  go_ret
  have h1 : (Lit.int .i64 n).wf = true := hw
  refine ⟨rfl, ⟨?_, by unfold some_; omega⟩, (Below.refl _ w).alloc (Nat.le_refl _) _, by simp⟩
  have e : (min (max n 0) 9 : Int) = ((some_ n : Nat) : Int) := by unfold some_; omega
  have := Blk.new w (tcells (some_ n) (fun _ => false)) 55
  unfold tcells at this
  rw [← e] at this
  unfold tcells
  rw [← e]
  exact this

end Go.Proofs.Ytpmbklagjaibgaa.Plan
