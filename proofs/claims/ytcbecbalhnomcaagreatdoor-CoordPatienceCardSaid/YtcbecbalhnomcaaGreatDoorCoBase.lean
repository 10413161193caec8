/- Words for a coordinator's memory; ballots, majorities, tallies, books, and how a coordinator begins. -/
import Derived.Test.YtcbecbalhnomcaaGreatDoorProg
import Derived.Test.YtcbecbalhnomcaaGreatDoorWMore
import Derived.Lib.Hide
import Derived.WalkKit
import Derived.WalkSpells
import Derived.BigQuiet
import Derived.Carry
import Derived.Laws.OwnMore
namespace Go.Proofs.YtcbecbalhnomcaaGreatDoor.Co
open Go.RowKit Go.Proofs.YtcbecbalhnomcaaGreatDoorW.PrintWords

theorem w64 {x : Int} (h : -9223372036854775808 ≤ x) (h' : x ≤ 9223372036854775807) : wrap64 x = x := by simp only [wrap64]; omega
theorem quiet0 {P : Program} {f : FuncId} {args : Array Value} {w : World} {n : Nat} {v : Value} (h : Calls P f args (w.drewN n) fun e w' => e = .returned v ∧ w.drewN n = w') :
    Calls P f args (w.drewN n) fun e w'' => e = .returned v ∧ ∃ m, w'' = w.drewN m :=
  Calls.quiet_of (h.mono fun _ _ ⟨he, hm⟩ => ⟨he, 0, hm.symm⟩)
theorem quiet1 {P : Program} {f : FuncId} {args : Array Value} {w : World} {n : Nat} {v : Value} (h : Calls P f args (w.drewN n) fun e w' => e = .returned v ∧ Drawn0 (w.drewN n) w') :
    Calls P f args (w.drewN n) fun e w'' => e = .returned v ∧ ∃ m, w'' = w.drewN m :=
  Calls.quiet_of (h.mono fun _ _ ⟨he, m, hm⟩ => ⟨he, m, hm⟩)

/-- a block of cells, none of them frozen -/
def Blk (w : World) (b : Nat) (cs : Array Value) (t : TypeId) : Prop := w.heap[b]? = some (.cells cs t (0, 0))
theorem Blk.cell {w : World} {b : Nat} {cs : Array Value} {t : TypeId} (h : Blk w b cs t) (i : Nat) : w.cell? ⟨b, i, none⟩ = cs[i]? := by
  unfold Blk at h; simp [World.cell?, h]
theorem Blk.free {w : World} {b : Nat} {cs : Array Value} {t : TypeId} (h : Blk w b cs t) (i : Nat) : w.frozen? ⟨b, i, none⟩ = false := by
  unfold Blk at h; simp [World.frozen?, h]
theorem Blk.lt {w : World} {b : Nat} {cs : Array Value} {t : TypeId} (h : Blk w b cs t) : b < w.heap.size := (Array.getElem?_eq_some_iff.1 h).1
theorem Blk.set {w : World} {b : Nat} {cs : Array Value} {t : TypeId} (h : Blk w b cs t) (i : Nat) (v : Value) : Blk (w.setCell ⟨b, i, none⟩ v) b (cs.setIfInBounds i v) t := by
  unfold Blk at h ⊢; simp [World.setCell, Array.getElem?_modify, h]
theorem Blk.same {w w' : World} {b : Nat} {cs : Array Value} {t : TypeId} (h : Blk w b cs t) (e : w'.heap[b]? = w.heap[b]?) : Blk w' b cs t := by
  unfold Blk at h ⊢; rw [e]; exact h
theorem Blk.new (w : World) (cs : Array Value) (t : TypeId) : Blk (w.alloc (.cells cs t)) w.heap.size cs t := by
  unfold Blk World.alloc; simp
theorem Blk.ne {w : World} {b b' : Nat} {cs cs' : Array Value} {t t' : TypeId} (h : Blk w b cs t) (h' : Blk w b' cs' t') (n : t ≠ t') : b ≠ b' := by
  rintro rfl
  unfold Blk at h h'
  rw [h] at h'
  injection h' with h'
  injection h' with _ h'
  exact n h'
theorem heap_setCell_ne (w : World) (a : Addr) (v : Value) (k : Nat) (h : k ≠ a.block) : (w.setCell a v).heap[k]? = w.heap[k]? := Below.heap_setCell w a v k h

/-- of what was there, nothing but the blocks of S may have changed -/
structure Mod (S : Nat → Prop) (w w' : World) : Prop where
  os : w'.os = w.os
  tape : w'.tape = w.tape
  output : w'.output = w.output
  size : w.heap.size ≤ w'.heap.size
  block : ∀ k, k < w.heap.size → ¬ S k → w'.heap[k]? = w.heap[k]?
namespace Mod
variable {S T : Nat → Prop} {a c d w w' : World}
theorem refl (S : Nat → Prop) (w : World) : Mod S w w := ⟨rfl, rfl, rfl, Nat.le_refl _, fun _ _ _ => rfl⟩
theorem trans (h : Mod S a c) (k : Mod S c d) : Mod S a d :=
  ⟨k.os.trans h.os, k.tape.trans h.tape, k.output.trans h.output, Nat.le_trans h.size k.size, fun i hi hs => (k.block i (Nat.lt_of_lt_of_le hi h.size) hs).trans (h.block i hi hs)⟩
/-- a later step may also change what is new -/
theorem trans' (h : Mod S a c) (k : Mod T c d) (hT : ∀ i, T i → S i ∨ a.heap.size ≤ i) : Mod S a d :=
  ⟨k.os.trans h.os, k.tape.trans h.tape, k.output.trans h.output, Nat.le_trans h.size k.size, fun i hi hs => (k.block i (Nat.lt_of_lt_of_le hi h.size) (fun ht => (hT i ht).elim hs (by omega))).trans (h.block i hi hs)⟩
theorem mono (h : Mod S a c) (hS : ∀ i, S i → T i) : Mod T a c := ⟨h.os, h.tape, h.output, h.size, fun i hi hs => h.block i hi (fun x => hs (hS i x))⟩
theorem drewN (h : Mod S a w) (n : Nat) : Mod S a (w.drewN n) := ⟨h.os, h.tape, h.output, h.size, h.block⟩
theorem drew (h : Mod S a w) : Mod S a w.drew := ⟨h.os, h.tape, h.output, h.size, h.block⟩
theorem alloc (h : Mod S a w) (o : Obj) : Mod S a (w.alloc o) :=
  h.trans ⟨rfl, rfl, rfl, by simp, fun k hk _ => Below.heap_alloc _ _ _ hk⟩
theorem set (h : Mod S a w) {p : Addr} (hp : S p.block) (v : Value) : Mod S a (w.setCell p v) :=
  h.trans ⟨rfl, rfl, rfl, by simp [World.setCell], fun k _ hs => Below.heap_setCell _ _ _ _ (fun e => hs (e ▸ hp))⟩
theorem setNew (h : Mod S a w) {p : Addr} (hp : a.heap.size ≤ p.block) (v : Value) : Mod S a (w.setCell p v) :=
  h.trans' (T := fun i => i = p.block) ⟨rfl, rfl, rfl, by simp [World.setCell], fun k _ hs => Below.heap_setCell _ _ _ _ hs⟩ (fun i hi => .inr (hi ▸ hp))
theorem ofDrawn (h : Drawn0 w w') : Mod S w w' := by obtain ⟨n, rfl⟩ := h; exact (refl S w).drewN n
theorem ofBelow (h : Below w.heap.size w w') : Mod S w w' := ⟨h.os, h.tape, h.output, h.size, fun k hk _ => h.block k hk⟩
theorem below {B : Nat} (h : Mod S w w') (hB : ∀ k, S k → B ≤ k) (hs : B ≤ w.heap.size) : Below B w w' :=
  ⟨h.os, h.tape, h.output, h.size, fun k hk => h.block k (by omega) (fun x => by have := hB k x; omega)⟩
theorem grown {row : Option Nat} (hg : w.grownBy w' row) (hr : ∀ k, row = some k → S k) : Mod S w w' :=
  ⟨hg.os, hg.tape, hg.output, hg.size, fun k hk hs => hg.block k hk (fun e => hs (hr k e.symm))⟩
theorem put {b i : Nat} {a w : World} (h : Mod (· = b) a w) (v : Value) : Mod (· = b) a (w.setCell ⟨b, i, none⟩ v) := h.set rfl v
end Mod

theorem bset {B g i : Nat} {w w' : World} (h : Below B w w') (hg : B ≤ g) (v : Value) : Below B w (w'.setCell ⟨g, i, none⟩ v) := h.setCell hg v

theorem majority_calls (n : Nat) (w : World) (h : n ≤ 9223372036854775806) : Calls Tryz.prog 78 #[.int .i64 n] w fun e w' => e = .returned (.int .i64 ((n / 2 + 1 : Nat) : Int)) ∧ w = w' := by
  go_enter Tryz.func78, Tryz.ntmps78
  go_wp2
  go_ret
  exact ⟨by simp, rfl⟩
theorem ballot_bad (a i : Int) (w : World) (h : i < 0 ∨ i ≥ 4 ∨ a < 1 ∨ a > 1099511627776) :
    Calls Tryz.prog 52 #[.int .i64 a, .int .i64 i] w fun e w' => e = .returned (.tuple #[.int .i64 0, .int .i64 1]) ∧ w = w' := by
  go_enter Tryz.func52, Tryz.ntmps52
  by_cases h1 : i < 0
  · go_wp2; go_ret2; exact ⟨rfl, rfl⟩
  by_cases h2 : i ≥ 4
  · go_wp2; go_ret2; exact ⟨rfl, rfl⟩
  by_cases h3 : a < 1
  · go_wp2; go_ret2; exact ⟨rfl, rfl⟩
  have h4 : a > 1099511627776 := by omega
  go_wp2; go_ret2; exact ⟨rfl, rfl⟩
theorem ballot_ok (a i : Int) (w : World) (h1 : 0 ≤ i) (h2 : i < 4) (h3 : 1 ≤ a) (h4 : a ≤ 1099511627776) :
    Calls Tryz.prog 52 #[.int .i64 a, .int .i64 i] w fun e w' => e = .returned (.tuple #[.int .i64 (a * 4 + i), .int .i64 0]) ∧ w = w' := by
  have e1 : ¬ i < 0 := by omega
  have e2 : ¬ i ≥ 4 := by omega
  have e3 : ¬ a < 1 := by omega
  have e4 : ¬ a > 1099511627776 := by omega
  go_enter Tryz.func52, Tryz.ntmps52
  go_wp2
  go_ret2
  exact ⟨rfl, rfl⟩

/-! tallies -/
theorem has_nil (i : Int) (w : World) : Calls Tryz.prog 66 #[.pointer none, .int .i64 i] w fun e w' => e = .returned (.bool false) ∧ w = w' := by
  go_enter Tryz.func66, Tryz.ntmps66
  go_wp2
  go_ret
  exact ⟨rfl, rfl⟩
/-- a tally: of how many, and whom it has -/
def tcells (n : Nat) (S : Nat → Bool) : Array Value := #[.int .i64 n, .bool (S 0), .bool (S 1), .bool (S 2), .bool (S 3), .bool (S 4), .bool (S 5), .bool (S 6), .bool (S 7), .bool (S 8)]
structure Tal (w : World) (b n : Nat) (S : Nat → Bool) : Prop where
  blk : Blk w b (tcells n S) 135
  le : n ≤ 9
theorem Tal.same {w w' : World} {b n : Nat} {S : Nat → Bool} (h : Tal w b n S) (e : w'.heap[b]? = w.heap[b]?) : Tal w' b n S := ⟨h.blk.same e, h.le⟩
theorem Tal.c0 {w : World} {b n : Nat} {S : Nat → Bool} (h : Tal w b n S) : w.cell? ⟨b, 0, none⟩ = some (.int .i64 n) := h.blk.cell 0
theorem Tal.c1 {w : World} {b n : Nat} {S : Nat → Bool} (h : Tal w b n S) (i : Nat) (hi : i < 9) : w.cell? ⟨b, 1 + i, none⟩ = some (.bool (S i)) := by
  rw [h.blk.cell]
  match i, hi with
  | 0, _ | 1, _ | 2, _ | 3, _ | 4, _ | 5, _ | 6, _ | 7, _ | 8, _ => rfl
theorem has_at (b n : Nat) (S : Nat → Bool) (i : Nat) (w : World) (t : Tal w b n S) (hi : i < n) : Calls Tryz.prog 66 #[.pointer (some ⟨b, 0, none⟩), .int .i64 i] w fun e w' => e = .returned (.bool (S i)) ∧ w = w' := by
  have h0 := t.c0
  have h9 := t.le
  have h1 := t.c1 i (by omega)
  have i1 : (i : Int) < (n : Int) := by omega
  have i2 : (i : Int) ≥ 0 := by omega
  have i3 : (i : Int) < 9 := by omega
  have i4 : 0 ≤ (i : Int) := by omega
  go_enter Tryz.func66, Tryz.ntmps66
  go_wp2
  go_ret
  exact ⟨rfl, rfl⟩
theorem has_no (b n : Nat) (S : Nat → Bool) (i : Int) (w : World) (t : Tal w b n S) (hi : ¬ (0 ≤ i ∧ i < n)) : Calls Tryz.prog 66 #[.pointer (some ⟨b, 0, none⟩), .int .i64 i] w fun e w' => e = .returned (.bool false) ∧ w = w' := by
  have h0 := t.c0
  by_cases i2 : i ≥ 0
  · have i1 : ¬ i < (n : Int) := by omega
    go_enter Tryz.func66, Tryz.ntmps66
    go_wp2
    go_ret
    exact ⟨rfl, rfl⟩
  · go_enter Tryz.func66, Tryz.ntmps66
    go_wp2
    go_ret
    exact ⟨rfl, rfl⟩
theorem add_nil (i : Int) (w : World) : Calls Tryz.prog 42 #[.pointer none, .int .i64 i] w fun e w' => e = .returned (.bool false) ∧ w = w' := by
  go_enter Tryz.func42, Tryz.ntmps42
  go_wp2
  go_ret
  exact ⟨rfl, rfl⟩
theorem add_no (b n : Nat) (S : Nat → Bool) (i : Int) (w : World) (t : Tal w b n S) (hi : ¬ (0 ≤ i ∧ i < n)) : Calls Tryz.prog 42 #[.pointer (some ⟨b, 0, none⟩), .int .i64 i] w fun e w' => e = .returned (.bool false) ∧ w = w' := by
  have h0 := t.c0
  by_cases i2 : i < 0
  · go_enter Tryz.func42, Tryz.ntmps42
    go_wp2
    go_ret
    exact ⟨rfl, rfl⟩
  · have i1 : i ≥ (n : Int) := by omega
    go_enter Tryz.func42, Tryz.ntmps42
    go_wp2
    go_ret
    exact ⟨rfl, rfl⟩
theorem Tal.set {w : World} {b n : Nat} {S : Nat → Bool} (h : Tal w b n S) (i : Nat) (hi : i < 9) : Tal (w.setCell ⟨b, 1 + i, none⟩ (.bool true)) b n (fun k => S k || k == i) := by
  refine ⟨?_, h.le⟩
  have := h.blk.set (1 + i) (.bool true)
  have e : (tcells n S).setIfInBounds (1 + i) (.bool true) = tcells n (fun k => S k || k == i) := by
    match i, hi with
    | 0, _ | 1, _ | 2, _ | 3, _ | 4, _ | 5, _ | 6, _ | 7, _ | 8, _ => simp [tcells, Array.setIfInBounds]
  rw [← e]
  exact this
theorem add_at (b n : Nat) (S : Nat → Bool) (i : Nat) (w : World) (t : Tal w b n S) (hi : i < n) : Calls Tryz.prog 42 #[.pointer (some ⟨b, 0, none⟩), .int .i64 i] w fun e w' => e = .returned (.bool true) ∧ w' = w.setCell ⟨b, 1 + i, none⟩ (.bool true) := by
  have h0 := t.c0
  have h9 := t.le
  have h1 := t.c1 i (by omega)
  have h2 := t.blk.free (1 + i)
  have i1 : ¬ (i : Int) ≥ (n : Int) := by omega
  have i2 : ¬ (i : Int) < 0 := by omega
  have i3 : (i : Int) < 9 := by omega
  have i4 : 0 ≤ (i : Int) := by omega
  go_enter Tryz.func42, Tryz.ntmps42
  go_wp2
  go_ret
  exact ⟨rfl, rfl⟩
/-- how many of the first k of those that may be are had -/
def cnt (n : Nat) (S : Nat → Bool) : Nat → Nat
  | 0 => 0
  | k + 1 => cnt n S k + (if decide (k < n) && S k then 1 else 0)
theorem cnt_le (n : Nat) (S : Nat → Bool) (k : Nat) : cnt n S k ≤ k := by
  induction k with
  | zero => simp [cnt]
  | succ k ih => unfold cnt; split <;> omega
theorem has_any (b n : Nat) (S : Nat → Bool) (i : Nat) (w : World) (t : Tal w b n S) : Calls Tryz.prog 66 #[.pointer (some ⟨b, 0, none⟩), .int .i64 i] w fun e w' => e = .returned (.bool (decide (i < n) && S i)) ∧ w = w' := by
  by_cases h : i < n
  · simpa [h] using has_at b n S i w t h
  · simpa [h] using has_no b n S i w t (by omega)
theorem count_at (b n : Nat) (S : Nat → Bool) (w : World) (t : Tal w b n S) : Calls Tryz.prog 77 #[.pointer (some ⟨b, 0, none⟩)] w fun e w' => e = .returned (.int .i64 (cnt n S 9)) ∧ w = w' := by
  go_enter Tryz.func77, Tryz.ntmps77
  go_wp2
  go_loopw [3, 5] (fun c i wr => ∃ j : Nat, j ≤ 9 ∧ c = .int .i64 (cnt n S j) ∧ i = .int .i64 j ∧ wr = w) (fun _ i _ => 9 - (intOf i).toNat)
  case atStart => exact ⟨0, by omega, rfl, rfl, rfl⟩
  case round =>
    obtain ⟨j, hj, rfl, rfl, rfl⟩ := hrel
    by_cases h : (j : Int) < 9
    · have hh := has_any b n S j wr t
      have hc := cnt_le n S j
      have hs : cnt n S (j + 1) = cnt n S j + (if decide (j < n) && S j then 1 else 0) := rfl
      generalize (decide (j < n) && S j) = v at *
      cases v
      · go_wp2_with (go_at_call 66; refine hh.mono ?_; rintro e w' ⟨rfl, rfl⟩)
        go_roundw
        case rel => exact ⟨j + 1, by omega, by rw [hs]; rfl, by go_num, trivial⟩
        case measure => simp [intOf]; omega
      · go_wp2_with (go_at_call 66; refine hh.mono ?_; rintro e w' ⟨rfl, rfl⟩)
        go_roundw
        case rel => exact ⟨j + 1, by omega, by rw [hs]; go_num, by go_num, trivial⟩
        case measure => simp [intOf]; omega
    · obtain rfl : j = 9 := by omega
      go_wp2
      go_ret
      exact ⟨rfl, rfl⟩
def wonB (n : Nat) (S : Nat → Bool) : Bool := decide (0 < n) && decide (cnt n S 9 ≥ n / 2 + 1)
theorem won_at (b n : Nat) (S : Nat → Bool) (w : World) (t : Tal w b n S) : Calls Tryz.prog 67 #[.pointer (some ⟨b, 0, none⟩)] w fun e w' => e = .returned (.bool (wonB n S)) ∧ Drawn0 w w' := by
  have h0 := t.c0
  have h9 := t.le
  have hm := fun w => majority_calls n w (by omega)
  have hc := fun w' (e : w'.heap = w.heap) => count_at b n S w' (t.same (by rw [e]))
  unfold wonB
  by_cases g : 0 < n
  · have g1 : (n : Int) > 0 := by omega
    go_enter Tryz.func67, Tryz.ntmps67
    go_wp2
    go_quiet (first | (go_at_call 77; exact quiet0 (hc _ rfl)) | (go_at_call 78; exact quiet0 (hm _)))
    go_wp2
    go_ret
    refine ⟨?_, _, rfl⟩
    simp [g]
    omega
  · have g1 : ¬ (n : Int) > 0 := by omega
    have g2 : decide ((n : Int) > 0) = false := by simp; omega
    go_enter Tryz.func67, Tryz.ntmps67
    go_wp2
    go_quiet (fail)
    go_wp2
    go_ret
    exact ⟨by simp [g], _, rfl⟩
/-- how many a new tally is of -/
def some_ (n : Int) : Nat := (min (max n 0) 9).toNat
theorem talnew_calls (n : Int) (w : World) : Calls Tryz.prog 54 #[.int .i64 n] w fun e w' => e = .returned (.pointer (some ⟨w.heap.size, 0, none⟩)) ∧ Hid (Tal w' w.heap.size (some_ n) (fun _ => false) ∧ Below w.heap.size w w' ∧ w'.heap.size = w.heap.size + 1) := by
  go_enter Tryz.func54, Tryz.ntmps54
  go_wp2
  all_goals
    go_ret
    refine ⟨rfl, ⟨?_, by unfold some_; omega⟩, (Below.refl _ w).alloc (Nat.le_refl _) _, by simp⟩
    first
      | (have e : ((some_ n : Nat) : Int) = 0 := (by unfold some_; omega)
         unfold tcells
         rw [e]
         exact Blk.new _ _ _)
      | (have e : ((some_ n : Nat) : Int) = 9 := (by unfold some_; omega)
         unfold tcells
         rw [e]
         exact Blk.new _ _ _)
      | (have e : ((some_ n : Nat) : Int) = n := (by unfold some_; omega)
         unfold tcells
         rw [e]
         exact Blk.new _ _ _)
end Go.Proofs.YtcbecbalhnomcaaGreatDoor.Co
