/- Words for a coordinator's memory; ballots, majorities, tallies, books, and how a coordinator begins. A coordinator as it lies in memory. Books, how a coordinator begins, and what it tells of itself. The message that a coordinator sends to a vault. What a coordinator tells of itself; and that one that nobody made does nothing. What a coordinator sends while it asks for promises; the example that each law asks for at its end. A tick of a coordinator that asks for promises and has no call; the example that each law asks for at its end; a coordinator that nobody made. A coordinator of its own for a law's run. -/
import Derived.Test.YtcbecbalhnomcaaGreatDoorProg
import Derived.Test.YtcbecbalhnomcaaGreatDoorWMore
import Derived.Lib.Hide
import Derived.WalkKit
import Derived.WalkSpells
import Derived.BigQuiet
import Derived.Carry
import Derived.Laws.OwnMore
import Derived.Maps.OwnOps
import Derived.Maps.OwnSet
import Derived.StillTailTactics
import Derived.Deep.RegionHeld
namespace Go.Proofs.YtcbecbalhnomcaaGreatDoor.Co
open Go.RowKit Go.Proofs.YtcbecbalhnomcaaGreatDoorW.PrintWords

theorem w64 {x : Int} (h : -9223372036854775808 ≤ x) (h' : x ≤ 9223372036854775807) : wrap64 x = x := by simp only [wrap64]; omega
theorem quiet0 {P : Program} {f : FuncId} {args : Array Value} {w : World} {n : Nat} {v : Value} (h : Calls P f args (w.drewN n) fun e w' => e = .returned v ∧ w.drewN n = w') :
    Calls P f args (w.drewN n) fun e w'' => e = .returned v ∧ ∃ m, w'' = w.drewN m :=
  Calls.quiet_of (h.mono fun _ _ ⟨he, hm⟩ => ⟨he, 0, hm.symm⟩)
theorem quiet1 {P : Program} {f : FuncId} {args : Array Value} {w : World} {n : Nat} {v : Value} (h : Calls P f args (w.drewN n) fun e w' => e = .returned v ∧ Drawn0 (w.drewN n) w') :
    Calls P f args (w.drewN n) fun e w'' => e = .returned v ∧ ∃ m, w'' = w.drewN m :=
  Calls.quiet_of (h.mono fun _ _ ⟨he, m, hm⟩ => ⟨he, m, hm⟩)

/-- a block of cells, none of them frozen -/
def Blk (w : World) (b : Nat) (cs : Array Value) (t : TypeId) : Prop := w.heap[b]? = some (.cells cs t (0, 0))
theorem Blk.cell {w : World} {b : Nat} {cs : Array Value} {t : TypeId} (h : Blk w b cs t) (i : Nat) : w.cell? ⟨b, i, none⟩ = cs[i]? := by
  unfold Blk at h; simp [World.cell?, h]
theorem Blk.free {w : World} {b : Nat} {cs : Array Value} {t : TypeId} (h : Blk w b cs t) (i : Nat) : w.frozen? ⟨b, i, none⟩ = false := by
  unfold Blk at h; simp [World.frozen?, h]
theorem Blk.lt {w : World} {b : Nat} {cs : Array Value} {t : TypeId} (h : Blk w b cs t) : b < w.heap.size := (Array.getElem?_eq_some_iff.1 h).1
theorem Blk.set {w : World} {b : Nat} {cs : Array Value} {t : TypeId} (h : Blk w b cs t) (i : Nat) (v : Value) : Blk (w.setCell ⟨b, i, none⟩ v) b (cs.setIfInBounds i v) t := by
  unfold Blk at h ⊢; simp [World.setCell, Array.getElem?_modify, h]
theorem Blk.same {w w' : World} {b : Nat} {cs : Array Value} {t : TypeId} (h : Blk w b cs t) (e : w'.heap[b]? = w.heap[b]?) : Blk w' b cs t := by
  unfold Blk at h ⊢; rw [e]; exact h
theorem Blk.new (w : World) (cs : Array Value) (t : TypeId) : Blk (w.alloc (.cells cs t)) w.heap.size cs t := by
  unfold Blk World.alloc; simp
theorem Blk.ne {w : World} {b b' : Nat} {cs cs' : Array Value} {t t' : TypeId} (h : Blk w b cs t) (h' : Blk w b' cs' t') (n : t ≠ t') : b ≠ b' := by
  rintro rfl
  unfold Blk at h h'
  rw [h] at h'
  injection h' with h'
  injection h' with _ h'
  exact n h'
theorem heap_setCell_ne (w : World) (a : Addr) (v : Value) (k : Nat) (h : k ≠ a.block) : (w.setCell a v).heap[k]? = w.heap[k]? := Below.heap_setCell w a v k h

/-- of what was there, nothing but the blocks of S may have changed -/
structure Mod (S : Nat → Prop) (w w' : World) : Prop where
  os : w'.os = w.os
  tape : w'.tape = w.tape
  output : w'.output = w.output
  size : w.heap.size ≤ w'.heap.size
  block : ∀ k, k < w.heap.size → ¬ S k → w'.heap[k]? = w.heap[k]?
namespace Mod
variable {S T : Nat → Prop} {a c d w w' : World}
theorem refl (S : Nat → Prop) (w : World) : Mod S w w := ⟨rfl, rfl, rfl, Nat.le_refl _, fun _ _ _ => rfl⟩
theorem trans (h : Mod S a c) (k : Mod S c d) : Mod S a d :=
  ⟨k.os.trans h.os, k.tape.trans h.tape, k.output.trans h.output, Nat.le_trans h.size k.size, fun i hi hs => (k.block i (Nat.lt_of_lt_of_le hi h.size) hs).trans (h.block i hi hs)⟩
/-- a later step may also change what is new -/
theorem trans' (h : Mod S a c) (k : Mod T c d) (hT : ∀ i, T i → S i ∨ a.heap.size ≤ i) : Mod S a d :=
  ⟨k.os.trans h.os, k.tape.trans h.tape, k.output.trans h.output, Nat.le_trans h.size k.size, fun i hi hs => (k.block i (Nat.lt_of_lt_of_le hi h.size) (fun ht => (hT i ht).elim hs (by omega))).trans (h.block i hi hs)⟩
theorem mono (h : Mod S a c) (hS : ∀ i, S i → T i) : Mod T a c := ⟨h.os, h.tape, h.output, h.size, fun i hi hs => h.block i hi (fun x => hs (hS i x))⟩
theorem drewN (h : Mod S a w) (n : Nat) : Mod S a (w.drewN n) := ⟨h.os, h.tape, h.output, h.size, h.block⟩
theorem drew (h : Mod S a w) : Mod S a w.drew := ⟨h.os, h.tape, h.output, h.size, h.block⟩
theorem alloc (h : Mod S a w) (o : Obj) : Mod S a (w.alloc o) :=
  h.trans ⟨rfl, rfl, rfl, by simp, fun k hk _ => Below.heap_alloc _ _ _ hk⟩
theorem set (h : Mod S a w) {p : Addr} (hp : S p.block) (v : Value) : Mod S a (w.setCell p v) :=
  h.trans ⟨rfl, rfl, rfl, by simp [World.setCell], fun k _ hs => Below.heap_setCell _ _ _ _ (fun e => hs (e ▸ hp))⟩
theorem setNew (h : Mod S a w) {p : Addr} (hp : a.heap.size ≤ p.block) (v : Value) : Mod S a (w.setCell p v) :=
  h.trans' (T := fun i => i = p.block) ⟨rfl, rfl, rfl, by simp [World.setCell], fun k _ hs => Below.heap_setCell _ _ _ _ hs⟩ (fun i hi => .inr (hi ▸ hp))
theorem ofDrawn (h : Drawn0 w w') : Mod S w w' := by obtain ⟨n, rfl⟩ := h; exact (refl S w).drewN n
theorem ofBelow (h : Below w.heap.size w w') : Mod S w w' := ⟨h.os, h.tape, h.output, h.size, fun k hk _ => h.block k hk⟩
theorem below {B : Nat} (h : Mod S w w') (hB : ∀ k, S k → B ≤ k) (hs : B ≤ w.heap.size) : Below B w w' :=
  ⟨h.os, h.tape, h.output, h.size, fun k hk => h.block k (by omega) (fun x => by have := hB k x; omega)⟩
theorem grown {row : Option Nat} (hg : w.grownBy w' row) (hr : ∀ k, row = some k → S k) : Mod S w w' :=
  ⟨hg.os, hg.tape, hg.output, hg.size, fun k hk hs => hg.block k hk (fun e => hs (hr k e.symm))⟩
theorem put {b i : Nat} {a w : World} (h : Mod (· = b) a w) (v : Value) : Mod (· = b) a (w.setCell ⟨b, i, none⟩ v) := h.set rfl v
end Mod

theorem bset {B g i : Nat} {w w' : World} (h : Below B w w') (hg : B ≤ g) (v : Value) : Below B w (w'.setCell ⟨g, i, none⟩ v) := h.setCell hg v

theorem majority_calls (n : Nat) (w : World) (h : n ≤ 9223372036854775806) : Calls Tryz.prog 78 #[.int .i64 n] w fun e w' => e = .returned (.int .i64 ((n / 2 + 1 : Nat) : Int)) ∧ w = w' := by
  go_enter Tryz.func78, Tryz.ntmps78
  go_wp2
  go_ret
  exact ⟨by simp, rfl⟩
theorem ballot_bad (a i : Int) (w : World) (h : i < 0 ∨ i ≥ 4 ∨ a < 1 ∨ a > 1099511627776) :
    Calls Tryz.prog 52 #[.int .i64 a, .int .i64 i] w fun e w' => e = .returned (.tuple #[.int .i64 0, .int .i64 1]) ∧ w = w' := by
  go_enter Tryz.func52, Tryz.ntmps52
  by_cases h1 : i < 0
  · go_wp2; go_ret2; exact ⟨rfl, rfl⟩
  by_cases h2 : i ≥ 4
  · go_wp2; go_ret2; exact ⟨rfl, rfl⟩
  by_cases h3 : a < 1
  · go_wp2; go_ret2; exact ⟨rfl, rfl⟩
  have h4 : a > 1099511627776 := by omega
  go_wp2; go_ret2; exact ⟨rfl, rfl⟩
theorem ballot_ok (a i : Int) (w : World) (h1 : 0 ≤ i) (h2 : i < 4) (h3 : 1 ≤ a) (h4 : a ≤ 1099511627776) :
    Calls Tryz.prog 52 #[.int .i64 a, .int .i64 i] w fun e w' => e = .returned (.tuple #[.int .i64 (a * 4 + i), .int .i64 0]) ∧ w = w' := by
  have e1 : ¬ i < 0 := by omega
  have e2 : ¬ i ≥ 4 := by omega
  have e3 : ¬ a < 1 := by omega
  have e4 : ¬ a > 1099511627776 := by omega
  go_enter Tryz.func52, Tryz.ntmps52
  go_wp2
  go_ret2
  exact ⟨rfl, rfl⟩

/-! tallies -/
theorem has_nil (i : Int) (w : World) : Calls Tryz.prog 66 #[.pointer none, .int .i64 i] w fun e w' => e = .returned (.bool false) ∧ w = w' := by
  go_enter Tryz.func66, Tryz.ntmps66
  go_wp2
  go_ret
  exact ⟨rfl, rfl⟩
/-- a tally: of how many, and whom it has -/
def tcells (n : Nat) (S : Nat → Bool) : Array Value := #[.int .i64 n, .bool (S 0), .bool (S 1), .bool (S 2), .bool (S 3), .bool (S 4), .bool (S 5), .bool (S 6), .bool (S 7), .bool (S 8)]
structure Tal (w : World) (b n : Nat) (S : Nat → Bool) : Prop where
  blk : Blk w b (tcells n S) 135
  le : n ≤ 9
theorem Tal.same {w w' : World} {b n : Nat} {S : Nat → Bool} (h : Tal w b n S) (e : w'.heap[b]? = w.heap[b]?) : Tal w' b n S := ⟨h.blk.same e, h.le⟩
theorem Tal.c0 {w : World} {b n : Nat} {S : Nat → Bool} (h : Tal w b n S) : w.cell? ⟨b, 0, none⟩ = some (.int .i64 n) := h.blk.cell 0
theorem Tal.c1 {w : World} {b n : Nat} {S : Nat → Bool} (h : Tal w b n S) (i : Nat) (hi : i < 9) : w.cell? ⟨b, 1 + i, none⟩ = some (.bool (S i)) := by
  rw [h.blk.cell]
  match i, hi with
  | 0, _ | 1, _ | 2, _ | 3, _ | 4, _ | 5, _ | 6, _ | 7, _ | 8, _ => rfl
theorem has_at (b n : Nat) (S : Nat → Bool) (i : Nat) (w : World) (t : Tal w b n S) (hi : i < n) : Calls Tryz.prog 66 #[.pointer (some ⟨b, 0, none⟩), .int .i64 i] w fun e w' => e = .returned (.bool (S i)) ∧ w = w' := by
  have h0 := t.c0
  have h9 := t.le
  have h1 := t.c1 i (by omega)
  have i1 : (i : Int) < (n : Int) := by omega
  have i2 : (i : Int) ≥ 0 := by omega
  have i3 : (i : Int) < 9 := by omega
  have i4 : 0 ≤ (i : Int) := by omega
  go_enter Tryz.func66, Tryz.ntmps66
  go_wp2
  go_ret
  exact ⟨rfl, rfl⟩
theorem has_no (b n : Nat) (S : Nat → Bool) (i : Int) (w : World) (t : Tal w b n S) (hi : ¬ (0 ≤ i ∧ i < n)) : Calls Tryz.prog 66 #[.pointer (some ⟨b, 0, none⟩), .int .i64 i] w fun e w' => e = .returned (.bool false) ∧ w = w' := by
  have h0 := t.c0
  by_cases i2 : i ≥ 0
  · have i1 : ¬ i < (n : Int) := by omega
    go_enter Tryz.func66, Tryz.ntmps66
    go_wp2
    go_ret
    exact ⟨rfl, rfl⟩
  · go_enter Tryz.func66, Tryz.ntmps66
    go_wp2
    go_ret
    exact ⟨rfl, rfl⟩
theorem add_nil (i : Int) (w : World) : Calls Tryz.prog 42 #[.pointer none, .int .i64 i] w fun e w' => e = .returned (.bool false) ∧ w = w' := by
  go_enter Tryz.func42, Tryz.ntmps42
  go_wp2
  go_ret
  exact ⟨rfl, rfl⟩
theorem add_no (b n : Nat) (S : Nat → Bool) (i : Int) (w : World) (t : Tal w b n S) (hi : ¬ (0 ≤ i ∧ i < n)) : Calls Tryz.prog 42 #[.pointer (some ⟨b, 0, none⟩), .int .i64 i] w fun e w' => e = .returned (.bool false) ∧ w = w' := by
  have h0 := t.c0
  by_cases i2 : i < 0
  · go_enter Tryz.func42, Tryz.ntmps42
    go_wp2
    go_ret
    exact ⟨rfl, rfl⟩
  · have i1 : i ≥ (n : Int) := by omega
    go_enter Tryz.func42, Tryz.ntmps42
    go_wp2
    go_ret
    exact ⟨rfl, rfl⟩
theorem Tal.set {w : World} {b n : Nat} {S : Nat → Bool} (h : Tal w b n S) (i : Nat) (hi : i < 9) : Tal (w.setCell ⟨b, 1 + i, none⟩ (.bool true)) b n (fun k => S k || k == i) := by
  refine ⟨?_, h.le⟩
  have := h.blk.set (1 + i) (.bool true)
  have e : (tcells n S).setIfInBounds (1 + i) (.bool true) = tcells n (fun k => S k || k == i) := by
    match i, hi with
    | 0, _ | 1, _ | 2, _ | 3, _ | 4, _ | 5, _ | 6, _ | 7, _ | 8, _ => simp [tcells, Array.setIfInBounds]
  rw [← e]
  exact this
theorem add_at (b n : Nat) (S : Nat → Bool) (i : Nat) (w : World) (t : Tal w b n S) (hi : i < n) : Calls Tryz.prog 42 #[.pointer (some ⟨b, 0, none⟩), .int .i64 i] w fun e w' => e = .returned (.bool true) ∧ w' = w.setCell ⟨b, 1 + i, none⟩ (.bool true) := by
  have h0 := t.c0
  have h9 := t.le
  have h1 := t.c1 i (by omega)
  have h2 := t.blk.free (1 + i)
  have i1 : ¬ (i : Int) ≥ (n : Int) := by omega
  have i2 : ¬ (i : Int) < 0 := by omega
  have i3 : (i : Int) < 9 := by omega
  have i4 : 0 ≤ (i : Int) := by omega
  go_enter Tryz.func42, Tryz.ntmps42
  go_wp2
  go_ret
  exact ⟨rfl, rfl⟩
/-- how many of the first k of those that may be are had -/
def cnt (n : Nat) (S : Nat → Bool) : Nat → Nat
  | 0 => 0
  | k + 1 => cnt n S k + (if decide (k < n) && S k then 1 else 0)
theorem cnt_le (n : Nat) (S : Nat → Bool) (k : Nat) : cnt n S k ≤ k := by
  induction k with
  | zero => simp [cnt]
  | succ k ih => unfold cnt; split <;> omega
theorem has_any (b n : Nat) (S : Nat → Bool) (i : Nat) (w : World) (t : Tal w b n S) : Calls Tryz.prog 66 #[.pointer (some ⟨b, 0, none⟩), .int .i64 i] w fun e w' => e = .returned (.bool (decide (i < n) && S i)) ∧ w = w' := by
  by_cases h : i < n
  · simpa [h] using has_at b n S i w t h
  · simpa [h] using has_no b n S i w t (by omega)
theorem count_at (b n : Nat) (S : Nat → Bool) (w : World) (t : Tal w b n S) : Calls Tryz.prog 77 #[.pointer (some ⟨b, 0, none⟩)] w fun e w' => e = .returned (.int .i64 (cnt n S 9)) ∧ w = w' := by
  go_enter Tryz.func77, Tryz.ntmps77
  go_wp2
  go_loopw [3, 5] (fun c i wr => ∃ j : Nat, j ≤ 9 ∧ c = .int .i64 (cnt n S j) ∧ i = .int .i64 j ∧ wr = w) (fun _ i _ => 9 - (intOf i).toNat)
  case atStart => exact ⟨0, by omega, rfl, rfl, rfl⟩
  case round =>
    obtain ⟨j, hj, rfl, rfl, rfl⟩ := hrel
    by_cases h : (j : Int) < 9
    · have hh := has_any b n S j wr t
      have hc := cnt_le n S j
      have hs : cnt n S (j + 1) = cnt n S j + (if decide (j < n) && S j then 1 else 0) := rfl
      generalize (decide (j < n) && S j) = v at *
      cases v
      · go_wp2_with (go_at_call 66; refine hh.mono ?_; rintro e w' ⟨rfl, rfl⟩)
        go_roundw
        case rel => exact ⟨j + 1, by omega, by rw [hs]; rfl, by go_num, trivial⟩
        case measure => simp [intOf]; omega
      · go_wp2_with (go_at_call 66; refine hh.mono ?_; rintro e w' ⟨rfl, rfl⟩)
        go_roundw
        case rel => exact ⟨j + 1, by omega, by rw [hs]; go_num, by go_num, trivial⟩
        case measure => simp [intOf]; omega
    · obtain rfl : j = 9 := by omega
      go_wp2
      go_ret
      exact ⟨rfl, rfl⟩
def wonB (n : Nat) (S : Nat → Bool) : Bool := decide (0 < n) && decide (cnt n S 9 ≥ n / 2 + 1)
theorem won_at (b n : Nat) (S : Nat → Bool) (w : World) (t : Tal w b n S) : Calls Tryz.prog 67 #[.pointer (some ⟨b, 0, none⟩)] w fun e w' => e = .returned (.bool (wonB n S)) ∧ Drawn0 w w' := by
  have h0 := t.c0
  have h9 := t.le
  have hm := fun w => majority_calls n w (by omega)
  have hc := fun w' (e : w'.heap = w.heap) => count_at b n S w' (t.same (by rw [e]))
  unfold wonB
  by_cases g : 0 < n
  · have g1 : (n : Int) > 0 := by omega
    go_enter Tryz.func67, Tryz.ntmps67
    go_wp2
    go_quiet (first | (go_at_call 77; exact quiet0 (hc _ rfl)) | (go_at_call 78; exact quiet0 (hm _)))
    go_wp2
    go_ret
    refine ⟨?_, _, rfl⟩
    simp [g]
    omega
  · have g1 : ¬ (n : Int) > 0 := by omega
    have g2 : decide ((n : Int) > 0) = false := by simp; omega
    go_enter Tryz.func67, Tryz.ntmps67
    go_wp2
    go_quiet (fail)
    go_wp2
    go_ret
    exact ⟨by simp [g], _, rfl⟩
/-- how many a new tally is of -/
def some_ (n : Int) : Nat := (min (max n 0) 9).toNat
theorem talnew_calls (n : Int) (w : World) : Calls Tryz.prog 54 #[.int .i64 n] w fun e w' => e = .returned (.pointer (some ⟨w.heap.size, 0, none⟩)) ∧ Hid (Tal w' w.heap.size (some_ n) (fun _ => false) ∧ Below w.heap.size w w' ∧ w'.heap.size = w.heap.size + 1) := by
  go_enter Tryz.func54, Tryz.ntmps54
  go_wp2
  all_goals
    go_ret
    refine ⟨rfl, ⟨?_, by unfold some_; omega⟩, (Below.refl _ w).alloc (Nat.le_refl _) _, by simp⟩
    first
      | (have e : ((some_ n : Nat) : Int) = 0 := (by unfold some_; omega)
         unfold tcells
         rw [e]
         exact Blk.new _ _ _)
      | (have e : ((some_ n : Nat) : Int) = 9 := (by unfold some_; omega)
         unfold tcells
         rw [e]
         exact Blk.new _ _ _)
      | (have e : ((some_ n : Nat) : Int) = n := (by unfold some_; omega)
         unfold tcells
         rw [e]
         exact Blk.new _ _ _)
end Go.Proofs.YtcbecbalhnomcaaGreatDoor.Co
namespace Go.Proofs.YtcbecbalhnomcaaGreatDoor.Co
open Go.RowKit Go.Proofs.YtcbecbalhnomcaaGreatDoorW.PrintWords

/-- a pointer to a block's begin, or nil -/
def ptr (o : Option Nat) : Value := .pointer (o.map fun b => ⟨b, 0, none⟩)
@[simp] theorem ptr_none : ptr none = .pointer none := rfl
@[simp] theorem ptr_some (b : Nat) : ptr (some b) = .pointer (some ⟨b, 0, none⟩) := rfl
/-- what is known of a vault -/
structure Pr where
  told : Bool
  floor : Int
  top : Int
  has : Int
  mark : ByteArray
  whole : Bool
  cursor : Int
  pack : Option Nat
/-- a peer of whom nothing is known -/
def Pr.zero : Pr := ⟨false, 0, 0, 0, ⟨#[]⟩, false, 0, none⟩
/-- a coordinator's fields -/
structure CS where
  id : Int
  n : Int
  book : Option Nat
  ballot : Int
  phase : Int
  floor : Int
  top : Int
  chosen : Value
  images : Value
  promised : Option Nat
  promises : Value
  again : Value
  peers : Nat → Pr
  job : Option Nat
  fetch : Option Nat
  call : Option Nat
  left : Int
  read : Int
  yes : Option Nat
  pruned : Option Nat
  answer : Option Nat
def ccells (s : CS) : Array Value := #[.int .i64 s.id, .int .i64 s.n, ptr s.book, .int .i64 s.ballot, .int .i64 s.phase, .int .i64 s.floor, .int .i64 s.top, s.chosen, s.images, ptr s.promised, s.promises, s.again, .bool (s.peers 0).told, .int .i64 (s.peers 0).floor, .int .i64 (s.peers 0).top, .int .i64 (s.peers 0).has, .string (s.peers 0).mark, .bool (s.peers 0).whole, .int .i64 (s.peers 0).cursor, ptr (s.peers 0).pack, .bool (s.peers 1).told, .int .i64 (s.peers 1).floor, .int .i64 (s.peers 1).top, .int .i64 (s.peers 1).has, .string (s.peers 1).mark, .bool (s.peers 1).whole, .int .i64 (s.peers 1).cursor, ptr (s.peers 1).pack, .bool (s.peers 2).told, .int .i64 (s.peers 2).floor, .int .i64 (s.peers 2).top, .int .i64 (s.peers 2).has, .string (s.peers 2).mark, .bool (s.peers 2).whole, .int .i64 (s.peers 2).cursor, ptr (s.peers 2).pack, .bool (s.peers 3).told, .int .i64 (s.peers 3).floor, .int .i64 (s.peers 3).top, .int .i64 (s.peers 3).has, .string (s.peers 3).mark, .bool (s.peers 3).whole, .int .i64 (s.peers 3).cursor, ptr (s.peers 3).pack, .bool (s.peers 4).told, .int .i64 (s.peers 4).floor, .int .i64 (s.peers 4).top, .int .i64 (s.peers 4).has, .string (s.peers 4).mark, .bool (s.peers 4).whole, .int .i64 (s.peers 4).cursor, ptr (s.peers 4).pack, .bool (s.peers 5).told, .int .i64 (s.peers 5).floor, .int .i64 (s.peers 5).top, .int .i64 (s.peers 5).has, .string (s.peers 5).mark, .bool (s.peers 5).whole, .int .i64 (s.peers 5).cursor, ptr (s.peers 5).pack, .bool (s.peers 6).told, .int .i64 (s.peers 6).floor, .int .i64 (s.peers 6).top, .int .i64 (s.peers 6).has, .string (s.peers 6).mark, .bool (s.peers 6).whole, .int .i64 (s.peers 6).cursor, ptr (s.peers 6).pack, .bool (s.peers 7).told, .int .i64 (s.peers 7).floor, .int .i64 (s.peers 7).top, .int .i64 (s.peers 7).has, .string (s.peers 7).mark, .bool (s.peers 7).whole, .int .i64 (s.peers 7).cursor, ptr (s.peers 7).pack, .bool (s.peers 8).told, .int .i64 (s.peers 8).floor, .int .i64 (s.peers 8).top, .int .i64 (s.peers 8).has, .string (s.peers 8).mark, .bool (s.peers 8).whole, .int .i64 (s.peers 8).cursor, ptr (s.peers 8).pack, ptr s.job, ptr s.fetch, ptr s.call, .int .i64 s.left, .int .i64 s.read, ptr s.yes, ptr s.pruned, ptr s.answer]
/-- a coordinator in memory -/
def Cd (w : World) (b : Nat) (s : CS) : Prop := Blk w b (ccells s) 90
section
variable {w w' : World} {b : Nat} {s : CS}
theorem Cd.same (h : Cd w b s) (e : w'.heap[b]? = w.heap[b]?) : Cd w' b s := Blk.same h e
theorem Cd.free (h : Cd w b s) (i : Nat) : w.frozen? ⟨b, i, none⟩ = false := Blk.free h i
theorem Cd.lt (h : Cd w b s) : b < w.heap.size := Blk.lt h
theorem Cd.c_id (h : Cd w b s) : w.cell? ⟨b, 0, none⟩ = some (.int .i64 s.id) := Blk.cell h 0
theorem Cd.c_n (h : Cd w b s) : w.cell? ⟨b, 1, none⟩ = some (.int .i64 s.n) := Blk.cell h 1
theorem Cd.c_book (h : Cd w b s) : w.cell? ⟨b, 2, none⟩ = some (ptr s.book) := Blk.cell h 2
theorem Cd.c_ballot (h : Cd w b s) : w.cell? ⟨b, 3, none⟩ = some (.int .i64 s.ballot) := Blk.cell h 3
theorem Cd.c_phase (h : Cd w b s) : w.cell? ⟨b, 4, none⟩ = some (.int .i64 s.phase) := Blk.cell h 4
theorem Cd.c_floor (h : Cd w b s) : w.cell? ⟨b, 5, none⟩ = some (.int .i64 s.floor) := Blk.cell h 5
theorem Cd.c_top (h : Cd w b s) : w.cell? ⟨b, 6, none⟩ = some (.int .i64 s.top) := Blk.cell h 6
theorem Cd.c_chosen (h : Cd w b s) : w.cell? ⟨b, 7, none⟩ = some (s.chosen) := Blk.cell h 7
theorem Cd.c_images (h : Cd w b s) : w.cell? ⟨b, 8, none⟩ = some (s.images) := Blk.cell h 8
theorem Cd.c_promised (h : Cd w b s) : w.cell? ⟨b, 9, none⟩ = some (ptr s.promised) := Blk.cell h 9
theorem Cd.c_promises (h : Cd w b s) : w.cell? ⟨b, 10, none⟩ = some (s.promises) := Blk.cell h 10
theorem Cd.c_again (h : Cd w b s) : w.cell? ⟨b, 11, none⟩ = some (s.again) := Blk.cell h 11
theorem Cd.c_job (h : Cd w b s) : w.cell? ⟨b, 84, none⟩ = some (ptr s.job) := Blk.cell h 84
theorem Cd.c_fetch (h : Cd w b s) : w.cell? ⟨b, 85, none⟩ = some (ptr s.fetch) := Blk.cell h 85
theorem Cd.c_call (h : Cd w b s) : w.cell? ⟨b, 86, none⟩ = some (ptr s.call) := Blk.cell h 86
theorem Cd.c_left (h : Cd w b s) : w.cell? ⟨b, 87, none⟩ = some (.int .i64 s.left) := Blk.cell h 87
theorem Cd.c_read (h : Cd w b s) : w.cell? ⟨b, 88, none⟩ = some (.int .i64 s.read) := Blk.cell h 88
theorem Cd.c_yes (h : Cd w b s) : w.cell? ⟨b, 89, none⟩ = some (ptr s.yes) := Blk.cell h 89
theorem Cd.c_pruned (h : Cd w b s) : w.cell? ⟨b, 90, none⟩ = some (ptr s.pruned) := Blk.cell h 90
theorem Cd.c_answer (h : Cd w b s) : w.cell? ⟨b, 91, none⟩ = some (ptr s.answer) := Blk.cell h 91
theorem Cd.p_told (h : Cd w b s) (v : Nat) (hv : v < 9) : w.cell? ⟨b, 12 + v * 8, none⟩ = some (.bool (s.peers v).told) := by
  rw [Blk.cell h]
  match v, hv with
  | 0, _ | 1, _ | 2, _ | 3, _ | 4, _ | 5, _ | 6, _ | 7, _ | 8, _ => rfl
theorem Cd.p_floor (h : Cd w b s) (v : Nat) (hv : v < 9) : w.cell? ⟨b, 12 + v * 8 + 1, none⟩ = some (.int .i64 (s.peers v).floor) := by
  rw [Blk.cell h]
  match v, hv with
  | 0, _ | 1, _ | 2, _ | 3, _ | 4, _ | 5, _ | 6, _ | 7, _ | 8, _ => rfl
theorem Cd.p_top (h : Cd w b s) (v : Nat) (hv : v < 9) : w.cell? ⟨b, 12 + v * 8 + 2, none⟩ = some (.int .i64 (s.peers v).top) := by
  rw [Blk.cell h]
  match v, hv with
  | 0, _ | 1, _ | 2, _ | 3, _ | 4, _ | 5, _ | 6, _ | 7, _ | 8, _ => rfl
theorem Cd.p_has (h : Cd w b s) (v : Nat) (hv : v < 9) : w.cell? ⟨b, 12 + v * 8 + 3, none⟩ = some (.int .i64 (s.peers v).has) := by
  rw [Blk.cell h]
  match v, hv with
  | 0, _ | 1, _ | 2, _ | 3, _ | 4, _ | 5, _ | 6, _ | 7, _ | 8, _ => rfl
theorem Cd.p_mark (h : Cd w b s) (v : Nat) (hv : v < 9) : w.cell? ⟨b, 12 + v * 8 + 4, none⟩ = some (.string (s.peers v).mark) := by
  rw [Blk.cell h]
  match v, hv with
  | 0, _ | 1, _ | 2, _ | 3, _ | 4, _ | 5, _ | 6, _ | 7, _ | 8, _ => rfl
theorem Cd.p_whole (h : Cd w b s) (v : Nat) (hv : v < 9) : w.cell? ⟨b, 12 + v * 8 + 5, none⟩ = some (.bool (s.peers v).whole) := by
  rw [Blk.cell h]
  match v, hv with
  | 0, _ | 1, _ | 2, _ | 3, _ | 4, _ | 5, _ | 6, _ | 7, _ | 8, _ => rfl
theorem Cd.p_cursor (h : Cd w b s) (v : Nat) (hv : v < 9) : w.cell? ⟨b, 12 + v * 8 + 6, none⟩ = some (.int .i64 (s.peers v).cursor) := by
  rw [Blk.cell h]
  match v, hv with
  | 0, _ | 1, _ | 2, _ | 3, _ | 4, _ | 5, _ | 6, _ | 7, _ | 8, _ => rfl
theorem Cd.p_pack (h : Cd w b s) (v : Nat) (hv : v < 9) : w.cell? ⟨b, 12 + v * 8 + 7, none⟩ = some (ptr (s.peers v).pack) := by
  rw [Blk.cell h]
  match v, hv with
  | 0, _ | 1, _ | 2, _ | 3, _ | 4, _ | 5, _ | 6, _ | 7, _ | 8, _ => rfl
theorem Cd.s_id (h : Cd w b s) (x : Int) : Cd (w.setCell ⟨b, 0, none⟩ (.int .i64 x)) b { s with id := x } := Blk.set h 0 _
theorem Cd.s_n (h : Cd w b s) (x : Int) : Cd (w.setCell ⟨b, 1, none⟩ (.int .i64 x)) b { s with n := x } := Blk.set h 1 _
theorem Cd.s_book (h : Cd w b s) (x : Option Nat) : Cd (w.setCell ⟨b, 2, none⟩ (ptr x)) b { s with book := x } := Blk.set h 2 _
theorem Cd.s_ballot (h : Cd w b s) (x : Int) : Cd (w.setCell ⟨b, 3, none⟩ (.int .i64 x)) b { s with ballot := x } := Blk.set h 3 _
theorem Cd.s_phase (h : Cd w b s) (x : Int) : Cd (w.setCell ⟨b, 4, none⟩ (.int .i64 x)) b { s with phase := x } := Blk.set h 4 _
theorem Cd.s_floor (h : Cd w b s) (x : Int) : Cd (w.setCell ⟨b, 5, none⟩ (.int .i64 x)) b { s with floor := x } := Blk.set h 5 _
theorem Cd.s_top (h : Cd w b s) (x : Int) : Cd (w.setCell ⟨b, 6, none⟩ (.int .i64 x)) b { s with top := x } := Blk.set h 6 _
theorem Cd.s_chosen (h : Cd w b s) (x : Value) : Cd (w.setCell ⟨b, 7, none⟩ (x)) b { s with chosen := x } := Blk.set h 7 _
theorem Cd.s_images (h : Cd w b s) (x : Value) : Cd (w.setCell ⟨b, 8, none⟩ (x)) b { s with images := x } := Blk.set h 8 _
theorem Cd.s_promised (h : Cd w b s) (x : Option Nat) : Cd (w.setCell ⟨b, 9, none⟩ (ptr x)) b { s with promised := x } := Blk.set h 9 _
theorem Cd.s_promises (h : Cd w b s) (x : Value) : Cd (w.setCell ⟨b, 10, none⟩ (x)) b { s with promises := x } := Blk.set h 10 _
theorem Cd.s_again (h : Cd w b s) (x : Value) : Cd (w.setCell ⟨b, 11, none⟩ (x)) b { s with again := x } := Blk.set h 11 _
theorem Cd.s_job (h : Cd w b s) (x : Option Nat) : Cd (w.setCell ⟨b, 84, none⟩ (ptr x)) b { s with job := x } := Blk.set h 84 _
theorem Cd.s_fetch (h : Cd w b s) (x : Option Nat) : Cd (w.setCell ⟨b, 85, none⟩ (ptr x)) b { s with fetch := x } := Blk.set h 85 _
theorem Cd.s_call (h : Cd w b s) (x : Option Nat) : Cd (w.setCell ⟨b, 86, none⟩ (ptr x)) b { s with call := x } := Blk.set h 86 _
theorem Cd.s_left (h : Cd w b s) (x : Int) : Cd (w.setCell ⟨b, 87, none⟩ (.int .i64 x)) b { s with left := x } := Blk.set h 87 _
theorem Cd.s_read (h : Cd w b s) (x : Int) : Cd (w.setCell ⟨b, 88, none⟩ (.int .i64 x)) b { s with read := x } := Blk.set h 88 _
theorem Cd.s_yes (h : Cd w b s) (x : Option Nat) : Cd (w.setCell ⟨b, 89, none⟩ (ptr x)) b { s with yes := x } := Blk.set h 89 _
theorem Cd.s_pruned (h : Cd w b s) (x : Option Nat) : Cd (w.setCell ⟨b, 90, none⟩ (ptr x)) b { s with pruned := x } := Blk.set h 90 _
theorem Cd.s_answer (h : Cd w b s) (x : Option Nat) : Cd (w.setCell ⟨b, 91, none⟩ (ptr x)) b { s with answer := x } := Blk.set h 91 _
def CS.setPeer (s : CS) (v : Nat) (p : Pr) : CS := { s with peers := fun k => if k = v then p else s.peers k }
theorem Cd.t_told (h : Cd w b s) (v : Nat) (hv : v < 9) (x : Bool) : Cd (w.setCell ⟨b, 12 + v * 8, none⟩ (.bool x)) b (s.setPeer v { s.peers v with told := x }) := by
  have := Blk.set h (12 + v * 8) (.bool x)
  match v, hv with
  | 0, _ | 1, _ | 2, _ | 3, _ | 4, _ | 5, _ | 6, _ | 7, _ | 8, _ => exact this
theorem Cd.t_floor (h : Cd w b s) (v : Nat) (hv : v < 9) (x : Int) : Cd (w.setCell ⟨b, 12 + v * 8 + 1, none⟩ (.int .i64 x)) b (s.setPeer v { s.peers v with floor := x }) := by
  have := Blk.set h (12 + v * 8 + 1) (.int .i64 x)
  match v, hv with
  | 0, _ | 1, _ | 2, _ | 3, _ | 4, _ | 5, _ | 6, _ | 7, _ | 8, _ => exact this
theorem Cd.t_top (h : Cd w b s) (v : Nat) (hv : v < 9) (x : Int) : Cd (w.setCell ⟨b, 12 + v * 8 + 2, none⟩ (.int .i64 x)) b (s.setPeer v { s.peers v with top := x }) := by
  have := Blk.set h (12 + v * 8 + 2) (.int .i64 x)
  match v, hv with
  | 0, _ | 1, _ | 2, _ | 3, _ | 4, _ | 5, _ | 6, _ | 7, _ | 8, _ => exact this
theorem Cd.t_has (h : Cd w b s) (v : Nat) (hv : v < 9) (x : Int) : Cd (w.setCell ⟨b, 12 + v * 8 + 3, none⟩ (.int .i64 x)) b (s.setPeer v { s.peers v with has := x }) := by
  have := Blk.set h (12 + v * 8 + 3) (.int .i64 x)
  match v, hv with
  | 0, _ | 1, _ | 2, _ | 3, _ | 4, _ | 5, _ | 6, _ | 7, _ | 8, _ => exact this
theorem Cd.t_mark (h : Cd w b s) (v : Nat) (hv : v < 9) (x : ByteArray) : Cd (w.setCell ⟨b, 12 + v * 8 + 4, none⟩ (.string x)) b (s.setPeer v { s.peers v with mark := x }) := by
  have := Blk.set h (12 + v * 8 + 4) (.string x)
  match v, hv with
  | 0, _ | 1, _ | 2, _ | 3, _ | 4, _ | 5, _ | 6, _ | 7, _ | 8, _ => exact this
theorem Cd.t_whole (h : Cd w b s) (v : Nat) (hv : v < 9) (x : Bool) : Cd (w.setCell ⟨b, 12 + v * 8 + 5, none⟩ (.bool x)) b (s.setPeer v { s.peers v with whole := x }) := by
  have := Blk.set h (12 + v * 8 + 5) (.bool x)
  match v, hv with
  | 0, _ | 1, _ | 2, _ | 3, _ | 4, _ | 5, _ | 6, _ | 7, _ | 8, _ => exact this
theorem Cd.t_cursor (h : Cd w b s) (v : Nat) (hv : v < 9) (x : Int) : Cd (w.setCell ⟨b, 12 + v * 8 + 6, none⟩ (.int .i64 x)) b (s.setPeer v { s.peers v with cursor := x }) := by
  have := Blk.set h (12 + v * 8 + 6) (.int .i64 x)
  match v, hv with
  | 0, _ | 1, _ | 2, _ | 3, _ | 4, _ | 5, _ | 6, _ | 7, _ | 8, _ => exact this
theorem Cd.t_pack (h : Cd w b s) (v : Nat) (hv : v < 9) (x : Option Nat) : Cd (w.setCell ⟨b, 12 + v * 8 + 7, none⟩ (ptr x)) b (s.setPeer v { s.peers v with pack := x }) := by
  have := Blk.set h (12 + v * 8 + 7) (ptr x)
  match v, hv with
  | 0, _ | 1, _ | 2, _ | 3, _ | 4, _ | 5, _ | 6, _ | 7, _ | 8, _ => exact this
end
@[simp] theorem CS.setPeer_twice (s : CS) (v : Nat) (p q : Pr) : (s.setPeer v p).setPeer v q = s.setPeer v q := by
  unfold CS.setPeer
  congr 1
  funext k
  simp only
  split <;> rfl
@[simp] theorem CS.peers_setPeer (s : CS) (v : Nat) (p : Pr) : (s.setPeer v p).peers v = p := by simp [CS.setPeer]
theorem Cd.drewN {w : World} {b : Nat} {s : CS} (h : Cd w b s) (n : Nat) : Cd (w.drewN n) b s := h
end Go.Proofs.YtcbecbalhnomcaaGreatDoor.Co
namespace Go.Proofs.YtcbecbalhnomcaaGreatDoor.Co
open Go.RowKit Go.Proofs.YtcbecbalhnomcaaGreatDoorW.PrintWords

/-- an ideal book's cells; m is its map -/
def bcells (m : Nat) : Array Value := #[.int .u32 0, .int .u32 0, .int .u32 0, .int .u32 0, .int .u32 0, .int .u32 0, .int .u32 0, .int .u32 0, .int .u32 0, .int .u32 0, .int .u32 0, .int .u32 0, .int .u32 0, .int .u32 0, .int .u32 0, .int .u32 0, .int .u32 0, .int .u32 0, .int .u32 0, .int .u32 0, .int .u32 0, .int .u32 0, .int .u32 0, .int .u32 0, .int .u32 0, .int .u32 0, .int .u32 0, .int .u32 0, .int .u32 0, .int .u32 0, .int .u32 0, .int .u32 0, .int .u32 0, .int .u32 0, .int .u32 0, .int .u32 0, .int .u32 0, .int .u32 0, .int .u32 0, .int .u32 0, .int .u32 0, .int .u32 0, .int .u32 0, .int .u32 0, .int .u32 0, .int .u32 0, .int .u32 0, .int .u32 0, .int .u32 0, .int .u32 0, .int .u32 0, .int .u32 0, .int .u32 0, .int .u32 0, .int .u32 0, .int .u32 0, .int .u32 0, .int .u32 0, .int .u32 0, .int .u32 0, .int .u32 0, .int .u32 0, .int .u32 0, .int .u32 0, .int .u32 0, .int .u32 0, .int .u32 0, .int .u32 0, .int .u32 0, .int .u32 0, .int .u32 0, .int .u32 0, .bool false, .map (some m), .bool true]
/-- an ideal book in memory -/
structure Bk (w : World) (b m : Nat) : Prop where
  blk : Blk w b (bcells m) 107
theorem Bk.same {w w' : World} {b m : Nat} (h : Bk w b m) (e : w'.heap[b]? = w.heap[b]?) : Bk w' b m := ⟨h.blk.same e⟩
theorem ideal_calls (w : World) : Calls Tryz.prog 25 #[] w fun e w' => e = .returned (.pointer (some ⟨w.heap.size + 1, 0, none⟩)) ∧ Hid (Bk w' (w.heap.size + 1) w.heap.size ∧ w'.heap[w.heap.size]? = some (.map #[] 0) ∧ Below w.heap.size w w' ∧ w'.heap.size = w.heap.size + 2) := by
  have hmm := @run_makeMap Tryz.prog
  go_enter Tryz.func25, Tryz.ntmps25
  go_wp2
  go_ret
  refine ⟨rfl, ⟨?_⟩, ?_, ((Below.refl _ w).alloc (Nat.le_refl _) _).alloc (by simp) _, by simp⟩
  · have := Blk.new (w.alloc (.map #[] 0)) (bcells w.heap.size) 107
    rw [show (w.alloc (.map #[] 0)).heap.size = w.heap.size + 1 from by simp] at this
    exact this
  · rw [Below.heap_alloc _ _ _ (by simp)]
    unfold World.alloc
    simp
theorem book_none_nil (w : World) : Calls Tryz.prog 58 #[.pointer none] w fun e w' => e = .returned (.bool true) ∧ w = w' := by
  go_enter Tryz.func58, Tryz.ntmps58
  go_wp2
  go_ret
  exact ⟨rfl, rfl⟩
theorem ready_nil (w : World) : Calls Tryz.prog 53 #[.pointer none] w fun e w' => e = .returned (.bool false) ∧ w = w' := by
  go_enter Tryz.func53, Tryz.ntmps53
  go_wp2_with (go_at_call 58; (with_reducible refine (book_none_nil _).mono ?_); rintro e w' ⟨rfl, rfl⟩)
  go_ret
  exact ⟨rfl, rfl⟩
theorem book_none_at (b m : Nat) (w : World) (h : Bk w b m) : Calls Tryz.prog 58 #[.pointer (some ⟨b, 0, none⟩)] w fun e w' => e = .returned (.bool false) ∧ w = w' := by
  have h0 : w.cell? ⟨b, 72, none⟩ = some (.bool false) := h.blk.cell 72
  have h1 : w.cell? ⟨b, 74, none⟩ = some (.bool true) := h.blk.cell 74
  go_enter Tryz.func58, Tryz.ntmps58
  go_wp2
  go_ret
  exact ⟨rfl, rfl⟩
theorem ready_at (b m : Nat) (w : World) (h : Bk w b m) : Calls Tryz.prog 53 #[.pointer (some ⟨b, 0, none⟩)] w fun e w' => e = .returned (.bool true) ∧ w = w' := by
  go_enter Tryz.func53, Tryz.ntmps53
  go_wp2_with (go_at_call 58; (with_reducible refine (book_none_at b m _ h).mono ?_); rintro e w' ⟨rfl, rfl⟩)
  go_ret
  exact ⟨rfl, rfl⟩

/-- a coordinator that begins -/
def CS.init (id n ballot : Int) (book tal : Nat) : CS := ⟨id, n, some book, ballot, 1, 0, 0, .slice none 0 0, .slice none 0 0, some tal, .slice none 0 0, .slice none 0 0, fun _ => Pr.zero, none, none, none, 0, 0, none, none, none⟩
theorem new_bad (id n stamp : Int) (bk : Value) (w : World) (h : id < 0 ∨ id ≥ 4 ∨ stamp < 1 ∨ stamp > 1099511627776 ∨ n < 1 ∨ n > 9 ∨ bk = .pointer none) :
    Calls Tryz.prog 24 #[.int .i64 id, .int .i64 n, .int .i64 stamp, bk] w fun e w' => e = .returned (.tuple #[.pointer none, .int .i64 1]) ∧ w = w' := by
  by_cases h1 : id < 0 ∨ id ≥ 4 ∨ stamp < 1 ∨ stamp > 1099511627776
  · have hb := ballot_bad stamp id w (by omega)
    clear h h1
    go_enter Tryz.func24, Tryz.ntmps24
    go_wp2_with (go_at_call 52; (with_reducible refine hb.mono ?_); rintro e w' ⟨rfl, rfl⟩)
    go_ret2
    exact ⟨rfl, rfl⟩
  · have hb := ballot_ok stamp id w (by omega) (by omega) (by omega) (by omega)
    generalize stamp * 4 + id = k at *
    by_cases h2 : n < 1
    · clear h h1
      go_enter Tryz.func24, Tryz.ntmps24
      go_wp2_with (go_at_call 52; (with_reducible refine hb.mono ?_); rintro e w' ⟨rfl, rfl⟩)
      go_ret2
      exact ⟨rfl, rfl⟩
    by_cases h3 : n > 9
    · clear h h1
      go_enter Tryz.func24, Tryz.ntmps24
      go_wp2_with (go_at_call 52; (with_reducible refine hb.mono ?_); rintro e w' ⟨rfl, rfl⟩)
      go_ret2
      exact ⟨rfl, rfl⟩
    obtain rfl : bk = .pointer none := by
      rcases h with h | h | h | h | h | h | h
      all_goals first | exact h | omega
    clear h1
    go_enter Tryz.func24, Tryz.ntmps24
    go_wp2_with (first
      | (go_at_call 52; (with_reducible refine hb.mono ?_); rintro e w' ⟨rfl, rfl⟩)
      | (go_at_call 53; (with_reducible refine (ready_nil _).mono ?_); rintro e w' ⟨rfl, rfl⟩))
    go_ret2
    exact ⟨rfl, rfl⟩
/-- what a new coordinator is -/
def Newly (w w' : World) (id n ballot : Int) (book : Nat) (b t : Nat) : Prop :=
  Cd w' b (CS.init id n ballot book t) ∧ Tal w' t n.toNat (fun _ => false) ∧ Below w.heap.size w w' ∧ w.heap.size ≤ b ∧ w.heap.size ≤ t
theorem new_ok (id n stamp : Int) (bk m : Nat) (w : World) (h : Bk w bk m) (h0 : 0 ≤ id) (h1 : id ≤ 3) (h2 : 1 ≤ n) (h3 : n ≤ 9) (h4 : 1 ≤ stamp) (h5 : stamp ≤ 1099511627776) :
    Calls Tryz.prog 24 #[.int .i64 id, .int .i64 n, .int .i64 stamp, .pointer (some ⟨bk, 0, none⟩)] w fun e w' => ∃ b t, e = .returned (.tuple #[.pointer (some ⟨b, 0, none⟩), .int .i64 0]) ∧ Hid (Newly w w' id n (stamp * 4 + id) bk b t) := by
  have hb := ballot_ok stamp id w h0 (by omega) h4 h5
  have hr := ready_at bk m w h
  have hbd : stamp * 4 + id ≤ 9223372036854775807 := by omega
  generalize stamp * 4 + id = k at *
  have h2' : ¬ n < 1 := by omega
  have h3' : ¬ n > 9 := by omega
  have ht := fun w => talnew_calls n w
  have hs : Hid (some_ n = n.toNat) := by show _ = _; unfold some_; omega
  clear h
  go_enter Tryz.func24, Tryz.ntmps24
  go_wp2_with (first
    | (go_at_call 52; (with_reducible refine hb.mono ?_); rintro e w' ⟨rfl, rfl⟩)
    | (go_at_call 53; (with_reducible refine hr.mono ?_); rintro e w' ⟨rfl, rfl⟩)
    | (go_at_call 54; (with_reducible refine (ht _).mono ?_); rintro e w3 ⟨rfl, hn⟩))
  go_ret2
  obtain ⟨n1, n2, n3⟩ := hn.out
  refine ⟨_, _, rfl, Blk.new w3 (ccells (CS.init id n k bk w.heap.size)) _, ?_, n2.alloc n2.size _, n2.size, Nat.le_refl _⟩
  rw [← hs.out]
  exact n1.same (Below.heap_alloc _ _ _ n1.blk.lt)

/-! a coordinator that nobody made -/
theorem none_nil (w : World) : Calls Tryz.prog 33 #[.pointer none] w fun e w' => e = .returned (.bool true) ∧ w = w' := by
  go_enter Tryz.func33, Tryz.ntmps33
  go_wp2
  go_ret
  exact ⟨rfl, rfl⟩
theorem none_at (b : Nat) (s : CS) (w : World) (h : Cd w b s) (hn : s.n ≠ 0) : Calls Tryz.prog 33 #[.pointer (some ⟨b, 0, none⟩)] w fun e w' => e = .returned (.bool false) ∧ w = w' := by
  have h0 := h.c_n
  have h1 : (s.n == 0) = false := by simpa using hn
  clear h hn
  go_enter Tryz.func33, Tryz.ntmps33
  go_wp2
  go_ret
  exact ⟨rfl, rfl⟩
end Go.Proofs.YtcbecbalhnomcaaGreatDoor.Co
namespace Go.Proofs.YtcbecbalhnomcaaGreatDoor.Co
open Go.RowKit Go.Proofs.YtcbecbalhnomcaaGreatDoorW.PrintWords

/-- a message's fields -/
structure Mg where
  kind : Int
  frm : Int
  to_ : Int
  ballot : Int
  gen : Int
  basis : Int
  floor : Int
  top : Int
  read : Int
  mark : ByteArray
  at_ : Int
  of_ : Int
  text : ByteArray
  list : Value
def mcells (m : Mg) : Array Value := #[.int .i64 m.kind, .int .i64 m.frm, .int .i64 m.to_, .int .i64 m.ballot, .int .i64 m.gen, .int .i64 m.basis, .int .i64 m.floor, .int .i64 m.top, .int .i64 m.read, .string m.mark, .int .i64 m.at_, .int .i64 m.of_, .string m.text, m.list]
def Mg.bare (kind frm to_ ballot : Int) : Mg := ⟨kind, frm, to_, ballot, 0, 0, 0, 0, 0, ⟨#[]⟩, 0, 0, ⟨#[]⟩, .slice none 0 0⟩

set_option maxRecDepth 100000 in
theorem to_at (b : Nat) (s : CS) (v k : Int) (w : World) (h : Cd w b s) : Calls Tryz.prog 79 #[.pointer (some ⟨b, 0, none⟩), .int .i64 v, .int .i64 k] w fun e w' => e = .returned (.agg (mcells (Mg.bare k s.id v s.ballot))) ∧ Hid (Below w.heap.size w w') := by
  have B0 : Hid (Below w.heap.size w (w.alloc (.cells (mcells (Mg.bare 0 0 0 0)) 27))) := (Below.refl _ w).alloc (Nat.le_refl _) _
  have K0 : Hid (Blk (w.alloc (.cells (mcells (Mg.bare 0 0 0 0)) 27)) w.heap.size (mcells (Mg.bare 0 0 0 0)) 27) := Blk.new _ _ _
  have C0 : Hid (Cd (w.alloc (.cells (mcells (Mg.bare 0 0 0 0)) 27)) b s) := h.same (Below.heap_alloc _ _ _ h.lt)
  clear h
  go_enter Tryz.func79, Tryz.ntmps79
  go_upto_region 1 with (fail)
  change Code.wp _ _ _ _ (w.alloc (.cells (mcells (Mg.bare 0 0 0 0)) 27))
  generalize w.alloc (.cells (mcells (Mg.bare 0 0 0 0)) 27) = W0 at *
  generalize hg : w.heap.size = g at *
  have HG : Hid (w.heap.size = g) := hg
  clear hg
  have c0 := C0.out.c_id
  have c1 := C0.out.c_ballot
  go_still_tail 11, (by kernel_rfl)
  change wpList _ _ _ _ _ W0.drew
  have k0 : W0.cell? ⟨g, 0, none⟩ = some (.int .i64 0) := K0.out.cell 0
  have f0 : W0.frozen? ⟨g, 0, none⟩ = false := K0.out.free 0
  have k1 : W0.cell? ⟨g, 1, none⟩ = some (.int .i64 0) := K0.out.cell 1
  have f1 : W0.frozen? ⟨g, 1, none⟩ = false := K0.out.free 1
  have k2 : W0.cell? ⟨g, 2, none⟩ = some (.int .i64 0) := K0.out.cell 2
  have f2 : W0.frozen? ⟨g, 2, none⟩ = false := K0.out.free 2
  have k3 : W0.cell? ⟨g, 3, none⟩ = some (.int .i64 0) := K0.out.cell 3
  have f3 : W0.frozen? ⟨g, 3, none⟩ = false := K0.out.free 3
  have k4 : W0.cell? ⟨g, 4, none⟩ = some (.int .i64 0) := K0.out.cell 4
  have f4 : W0.frozen? ⟨g, 4, none⟩ = false := K0.out.free 4
  have k5 : W0.cell? ⟨g, 5, none⟩ = some (.int .i64 0) := K0.out.cell 5
  have f5 : W0.frozen? ⟨g, 5, none⟩ = false := K0.out.free 5
  have k6 : W0.cell? ⟨g, 6, none⟩ = some (.int .i64 0) := K0.out.cell 6
  have f6 : W0.frozen? ⟨g, 6, none⟩ = false := K0.out.free 6
  have k7 : W0.cell? ⟨g, 7, none⟩ = some (.int .i64 0) := K0.out.cell 7
  have f7 : W0.frozen? ⟨g, 7, none⟩ = false := K0.out.free 7
  have k8 : W0.cell? ⟨g, 8, none⟩ = some (.int .i64 0) := K0.out.cell 8
  have f8 : W0.frozen? ⟨g, 8, none⟩ = false := K0.out.free 8
  have k9 : W0.cell? ⟨g, 9, none⟩ = some (.string ⟨#[]⟩) := K0.out.cell 9
  have f9 : W0.frozen? ⟨g, 9, none⟩ = false := K0.out.free 9
  have k10 : W0.cell? ⟨g, 10, none⟩ = some (.int .i64 0) := K0.out.cell 10
  have f10 : W0.frozen? ⟨g, 10, none⟩ = false := K0.out.free 10
  have k11 : W0.cell? ⟨g, 11, none⟩ = some (.int .i64 0) := K0.out.cell 11
  have f11 : W0.frozen? ⟨g, 11, none⟩ = false := K0.out.free 11
  have k12 : W0.cell? ⟨g, 12, none⟩ = some (.string ⟨#[]⟩) := K0.out.cell 12
  have f12 : W0.frozen? ⟨g, 12, none⟩ = false := K0.out.free 12
  have k13 : W0.cell? ⟨g, 13, none⟩ = some (.slice none 0 0) := K0.out.cell 13
  have f13 : W0.frozen? ⟨g, 13, none⟩ = false := K0.out.free 13
  go_wp2
  exact bodyPost_ret (v := .agg (mcells (Mg.bare k s.id v s.ballot))) (by simp [results, Tryz.results79, go_sem, mcells, Mg.bare, *]) rfl ⟨rfl, by (rw [HG.out]; refine Below.drew ?_; (iterate 14 (refine bset ?_ (Nat.le_refl _) _)); exact B0.out)⟩
end Go.Proofs.YtcbecbalhnomcaaGreatDoor.Co
namespace Go.Proofs.YtcbecbalhnomcaaGreatDoor.Co
open Go.RowKit Go.Proofs.YtcbecbalhnomcaaGreatDoorW.PrintWords

/-! of one that nobody made -/
theorem ballot_nil (w : World) : Calls Tryz.prog 18 #[.pointer none] w fun e w' => e = .returned (.int .i64 0) ∧ w = w' := by
  go_enter Tryz.func18, Tryz.ntmps18
  go_wp2_with (go_at_call 33; (with_reducible refine (none_nil _).mono ?_); rintro e w' ⟨rfl, rfl⟩)
  go_ret
  exact ⟨rfl, rfl⟩
theorem leads_nil (w : World) : Calls Tryz.prog 22 #[.pointer none] w fun e w' => e = .returned (.bool false) ∧ w = w' := by
  go_enter Tryz.func22, Tryz.ntmps22
  go_wp2_with (go_at_call 33; (with_reducible refine (none_nil _).mono ?_); rintro e w' ⟨rfl, rfl⟩)
  go_ret
  exact ⟨rfl, rfl⟩
theorem off_nil (w : World) : Calls Tryz.prog 19 #[.pointer none] w fun e w' => e = .returned (.bool true) ∧ w = w' := by
  go_enter Tryz.func19, Tryz.ntmps19
  go_wp2_with (go_at_call 33; (with_reducible refine (none_nil _).mono ?_); rintro e w' ⟨rfl, rfl⟩)
  go_ret
  exact ⟨rfl, rfl⟩
theorem known_nil (w : World) : Calls Tryz.prog 23 #[.pointer none] w fun e w' => e = .returned (.tuple #[.int .i64 0, .int .i64 0]) ∧ w = w' := by
  go_enter Tryz.func23, Tryz.ntmps23
  go_wp2_with (go_at_call 33; (with_reducible refine (none_nil _).mono ?_); rintro e w' ⟨rfl, rfl⟩)
  go_ret2
  exact ⟨rfl, rfl⟩
theorem tick_nil (w : World) : Calls Tryz.prog 21 #[.pointer none] w fun e w' => e = .returned (.slice none 0 0) ∧ w = w' := by
  go_enter Tryz.func21, Tryz.ntmps21
  go_wp2_with (go_at_call 33; (with_reducible refine (none_nil _).mono ?_); rintro e w' ⟨rfl, rfl⟩)
  go_ret
  exact ⟨rfl, rfl⟩
theorem handle_nil (m : Mg) (w : World) : Calls Tryz.prog 17 #[.pointer none, .agg (mcells m)] w fun e w' => e = .returned (.tuple #[]) ∧ Hid (Below w.heap.size w w') := by
  go_enter Tryz.func17, Tryz.ntmps17
  go_upto_region 1 with (fail)
  have hb : Hid (Below w.heap.size w (w.alloc (.cells (mcells m) 27))) := (Below.refl _ w).alloc (Nat.le_refl _) _
  change Code.wp _ _ _ _ (w.alloc (.cells (mcells m) 27))
  generalize w.alloc (.cells (mcells m) 27) = W0 at *
  go_quiet ((go_at_call 33; exact quiet0 (none_nil _)))
  go_wp2
  exact bodyPost_ret (v := .tuple #[]) (by simp [results, Tryz.results17, go_sem]) rfl ⟨rfl, pw_below_drewN hb.out _⟩

/-- an answer's cells -/
def acells (e g f : Int) (fs ms : Value) : Array Value := #[.int .i64 e, .int .i64 g, .int .i64 f, fs, ms]
theorem take_nil (w : World) : Calls Tryz.prog 16 #[.pointer none] w fun e w' => e = .returned (.tuple #[.agg (acells 0 0 0 (.slice none 0 0) (.slice none 0 0)), .bool false]) ∧ Hid (Below w.heap.size w w') := by
  have hb : Hid (Below w.heap.size w (w.alloc (.cells (acells 0 0 0 (.slice none 0 0) (.slice none 0 0)) 47))) := (Below.refl _ w).alloc (Nat.le_refl _) _
  go_enter Tryz.func16, Tryz.ntmps16
  go_wp2_with (go_at_call 33; (with_reducible refine (none_nil _).mono ?_); rintro e w' ⟨rfl, rfl⟩)
  exact bodyPost_ret (v := .tuple #[.agg (acells 0 0 0 (.slice none 0 0) (.slice none 0 0)), .bool false]) (by simp [results, Tryz.results16, go_sem, acells]) rfl ⟨rfl, hb⟩
/-- a call's cells -/
def kcells (k g : Int) (fs : Value) : Array Value := #[.int .i64 k, .int .i64 g, fs]
theorem ask_nil (k g : Int) (fs : Value) (w : World) : Calls Tryz.prog 14 #[.pointer none, .agg (kcells k g fs)] w fun e w' => e = .returned (.int .i64 16) ∧ Hid (Below w.heap.size w w') := by
  have hb : Hid (Below w.heap.size w (w.alloc (.cells (kcells k g fs) 30))) := (Below.refl _ w).alloc (Nat.le_refl _) _
  go_enter Tryz.func14, Tryz.ntmps14
  go_wp2_with (go_at_call 33; (with_reducible refine (none_nil _).mono ?_); rintro e w' ⟨rfl, rfl⟩)
  go_ret
  exact ⟨rfl, hb⟩

/-! of one in memory -/
section
variable (b : Nat) (s : CS) (w : World) (h : Cd w b s) (hn : s.n ≠ 0)
include h hn
theorem ballot_at : Calls Tryz.prog 18 #[.pointer (some ⟨b, 0, none⟩)] w fun e w' => e = .returned (.int .i64 s.ballot) ∧ w = w' := by
  have h0 := none_at b s w h hn
  have h1 := h.c_ballot
  clear h hn
  go_enter Tryz.func18, Tryz.ntmps18
  go_wp2_with (go_at_call 33; (with_reducible refine h0.mono ?_); rintro e w' ⟨rfl, rfl⟩)
  go_ret
  exact ⟨rfl, rfl⟩
theorem leads_at : Calls Tryz.prog 22 #[.pointer (some ⟨b, 0, none⟩)] w fun e w' => e = .returned (.bool (s.phase == 2)) ∧ w = w' := by
  have h0 := none_at b s w h hn
  have h1 := h.c_phase
  clear h hn
  go_enter Tryz.func22, Tryz.ntmps22
  go_wp2_with (go_at_call 33; (with_reducible refine h0.mono ?_); rintro e w' ⟨rfl, rfl⟩)
  go_ret
  exact ⟨rfl, rfl⟩
theorem off_at : Calls Tryz.prog 19 #[.pointer (some ⟨b, 0, none⟩)] w fun e w' => e = .returned (.bool (s.phase == 0)) ∧ w = w' := by
  have h0 := none_at b s w h hn
  have h1 := h.c_phase
  clear h hn
  go_enter Tryz.func19, Tryz.ntmps19
  go_wp2_with (go_at_call 33; (with_reducible refine h0.mono ?_); rintro e w' ⟨rfl, rfl⟩)
  go_ret
  exact ⟨rfl, rfl⟩
theorem known_at : Calls Tryz.prog 23 #[.pointer (some ⟨b, 0, none⟩)] w fun e w' => e = .returned (.tuple #[.int .i64 s.floor, .int .i64 s.top]) ∧ Drawn0 w w' := by
  have h0 := none_at b s w h hn
  have h1 := h.c_floor
  have h2 := h.c_top
  clear h hn
  go_enter Tryz.func23, Tryz.ntmps23
  go_wp2_with (go_at_call 33; (with_reducible refine h0.mono ?_); rintro e w' ⟨rfl, rfl⟩)
  go_quiet (fail)
  go_wp2
  go_ret2
  exact ⟨rfl, _, rfl⟩
theorem take_no (ha : s.answer = none) : Calls Tryz.prog 16 #[.pointer (some ⟨b, 0, none⟩)] w fun e w' => e = .returned (.tuple #[.agg (acells 0 0 0 (.slice none 0 0) (.slice none 0 0)), .bool false]) ∧ Hid (Below w.heap.size w w') := by
  have hb : Hid (Below w.heap.size w (w.alloc (.cells (acells 0 0 0 (.slice none 0 0) (.slice none 0 0)) 47))) := (Below.refl _ w).alloc (Nat.le_refl _) _
  have hc : Cd (w.alloc (.cells (acells 0 0 0 (.slice none 0 0) (.slice none 0 0)) 47)) b s := h.same (Below.heap_alloc _ _ _ h.lt)
  have h0 := none_at b s _ hc hn
  have h1 := hc.c_answer
  have h2 := h.c_answer
  rw [ha, ptr_none] at h1 h2
  unfold acells at h0 h1
  clear h hn hc
  go_enter Tryz.func16, Tryz.ntmps16
  go_wp2_with (go_at_call 33; (with_reducible refine h0.mono ?_); rintro e w' ⟨rfl, rfl⟩)
  exact bodyPost_ret (v := .tuple #[.agg (acells 0 0 0 (.slice none 0 0) (.slice none 0 0)), .bool false]) (by simp [results, Tryz.results16, go_sem, acells]) rfl ⟨rfl, hb⟩
end
end Go.Proofs.YtcbecbalhnomcaaGreatDoor.Co
namespace Go.Proofs.YtcbecbalhnomcaaGreatDoor.Co
open Go.RowKit Go.Proofs.YtcbecbalhnomcaaGreatDoorW.PrintWords

def zmsg : Value := .agg (mcells (Mg.bare 0 0 0 0))
theorem info_msg : (Tryz.prog.info? 27).map (fun i => (i.zero, i.size, i.bytes)) = some (some zmsg, 14, 144) := by kernel_rfl
def mrow (ms : List Mg) : List Value := ms.flatMap fun m => (mcells m).toList
/-- a list of messages in a row of its own -/
def Ms (w : World) (base : Nat) (v : Value) (ms : List Mg) : Prop := w.ownsRow base 27 14 v ms.length (mrow ms)
theorem Ms.nil (w : World) (base : Nat) : Ms w base (.slice none 0 0) [] := ⟨rfl, .inl ⟨rfl, rfl⟩⟩
theorem mrow_length (ms : List Mg) : (mrow ms).length = ms.length * 14 := by
  induction ms with
  | nil => rfl
  | cons m ms ih =>
    have e : mrow (m :: ms) = (mcells m).toList ++ mrow ms := by simp [mrow]
    rw [e, List.length_append, ih, List.length_cons]
    have : (mcells m).toList.length = 14 := rfl
    omega
theorem mrow_snoc (ms : List Mg) (m : Mg) : mrow (ms ++ [m]) = mrow ms ++ (mcells m).toList := by simp [mrow]
theorem Ms.form {w : World} {base : Nat} {v : Value} {ms : List Mg} (h : Ms w base v ms) : ∃ A c, v = .slice A ms.length c ∧ ms.length ≤ c ∧ ms.length ≤ 9223372036854775807 := by
  rcases h.2 with ⟨rfl, h0⟩ | ⟨g, cap, cur, rfl, _, _, h2, h3, _⟩
  · exact ⟨none, 0, by rw [h0], by omega, by omega⟩
  · exact ⟨_, cap, rfl, h2, by simp only [maxLen] at h3; omega⟩
theorem mrow_get (ms : List Mg) (j k : Nat) (hj : j < ms.length) (hk : k < 14) : (mrow ms)[j * 14 + k]? = (mcells ms[j])[k]? := by
  induction ms generalizing j with
  | nil => simp at hj
  | cons m ms ih =>
    have e : mrow (m :: ms) = (mcells m).toList ++ mrow ms := by simp [mrow]
    have hl : (mcells m).toList.length = 14 := rfl
    rw [e]
    cases j with
    | zero => rw [List.getElem?_append_left (by omega)]; simp
    | succ j =>
      rw [List.getElem?_append_right (by omega), hl, show (j + 1) * 14 + k - 14 = j * 14 + k from by omega]
      simpa using ih j (by simpa using hj)
theorem Ms.cell {w : World} {base : Nat} {v : Value} {ms : List Mg} (h : Ms w base v ms) (h0 : 0 < ms.length) : ∃ g c, v = .slice (some ⟨g, 0, none⟩) ms.length c ∧ base ≤ g ∧ ms.length ≤ c ∧ ∀ j (hj : j < ms.length) k, k < 14 → w.cell? ⟨g, j * 14 + k, none⟩ = (mcells ms[j])[k]? := by
  rcases h.2 with ⟨rfl, h1⟩ | ⟨g, cap, cur, rfl, hg, _, h2, h3, _⟩
  · omega
  · refine ⟨g, cap, rfl, hg, h2, fun j hj k hk => ?_⟩
    have := World.ownsRow.cellAt h (j * 14 + k) (by omega)
    rw [this]
    exact mrow_get ms j k hj hk

/-- whom a coordinator asks -/
def asked (id ballot : Int) (S : Nat → Bool) : Nat → List Mg
  | 0 => []
  | k + 1 => asked id ballot S k ++ (if S k then [] else [Mg.bare 1 id k ballot])
theorem asked_le (id ballot : Int) (S : Nat → Bool) (k : Nat) : (asked id ballot S k).length ≤ k := by
  induction k with
  | zero => simp [asked]
  | succ k ih => unfold asked; rw [List.length_append]; split <;> simp <;> omega
theorem mcells_one (m : Mg) (hl : (m.list).oneCell' = true) : ∀ u ∈ (mcells m).toList, u.oneCell' = true := by
  intro u hu
  simp only [mcells, List.mem_cons, List.not_mem_nil, or_false] at hu
  rcases hu with rfl | rfl | rfl | rfl | rfl | rfl | rfl | rfl | rfl | rfl | rfl | rfl | rfl | rfl
  all_goals first | exact hl | rfl

set_option maxHeartbeats 1000000 in
theorem prepare_at (b t n : Nat) (S : Nat → Bool) (s : CS) (w : World) (h : Cd w b s) (hp : s.promised = some t) (tal : Tal w t n S) (hn : s.n = n) :
    Calls Tryz.prog 47 #[.pointer (some ⟨b, 0, none⟩)] w fun e w' => ∃ v, e = .returned v ∧ Hid (Ms w' w.heap.size v (asked s.id s.ballot S n) ∧ Below w.heap.size w w') := by
  have h1 := h.c_n
  rw [hn] at h1
  have h9 := tal.le
  have H : Hid (∀ w', Below w.heap.size w w' → Cd w' b s ∧ Tal w' t n S) := fun w' hb => ⟨h.same (hb.block b h.lt), tal.same (hb.block t tal.blk.lt)⟩
  have HP : Hid (s.promised = some t) := hp
  clear h hp hn tal
  go_enter Tryz.func47, Tryz.ntmps47
  go_wp2
  have B0 : Hid (Below w.heap.size w w) := Below.refl _ _
  have M0 : Hid (Ms w w.heap.size (.slice none 0 0) (asked s.id s.ballot S 0)) := Ms.nil _ _
  go_loopw [3, 9] (fun o i wr => ∃ (v : Value) (k : Nat), k ≤ n ∧ v = o ∧ i = .int .i64 k ∧ Hid (Ms wr w.heap.size v (asked s.id s.ballot S k)) ∧ Hid (Below w.heap.size w wr)) (fun _ i _ => n - (intOf i).toNat)
  case atStart => exact ⟨_, 0, by omega, rfl, rfl, M0, B0⟩
  case round =>
    obtain ⟨v, k, hk, rfl, rfl, ms, bel⟩ := hrel
    clear M0 B0
    by_cases hlt : k < n
    · have hlt' : (k : Int) < (n : Int) := by omega
      obtain ⟨cd, tl⟩ := H.out wr bel.out
      have hc := cd.c_promised
      rw [HP.out, ptr_some] at hc
      have hh := has_at t n S k wr tl hlt
      have hto := to_at b s k 1 wr cd
      have hs : Hid (asked s.id s.ballot S (k + 1) = asked s.id s.ballot S k ++ (if S k then [] else [Mg.bare 1 s.id k s.ballot])) := rfl
      have hle := asked_le s.id s.ballot S k
      clear cd tl
      obtain ⟨q, hq⟩ : ∃ q, S k = q := ⟨_, rfl⟩
      rw [hq] at hh
      cases q
      · have HQ : Hid (S k = false) := hq
        clear hq
        unfold mcells Mg.bare at hto
        simp only at hto
        go_wp2_with (first
          | (go_at_call 66; (with_reducible refine hh.mono ?_); rintro e w' ⟨rfl, rfl⟩)
          | (go_at_call 79; (with_reducible refine hto.mono ?_); rintro e w2 ⟨rfl, hb2⟩
             have B2 : Hid (Below w.heap.size w w2) := bel.out.trans (hb2.out.mono bel.out.size)
             have M2 : Hid (Ms w2 w.heap.size v (asked s.id s.ballot S k)) := own_less (pw_own_below ms.out hb2.out) (Nat.le_refl _)
             clear hb2)
          | ((with_reducible refine gate_builtin (b := .append) (xs := #[.tmp 19, .tmp 23]) rfl ?_); at_builtin
             refine print_append_cells (w0 := w) w.heap.size rfl (.tmp 19) (.tmp 23) 39 27 zmsg 14 144 rfl Tryz.underlying39 info_msg rfl (by decide) (by decide) v _ _ (mcells (Mg.bare 1 s.id k s.ballot)).toList rfl rfl rfl (mcells_one _ rfl) M2.out B2.out B2.out.size (by omega) ?_
             intro v3 w3 ho hb hg hat
             have M3 : Hid (Ms w3 w.heap.size v3 (asked s.id s.ballot S (k + 1))) := (by rw [hs.out, HQ.out]; unfold Ms; rw [if_neg (by simp), List.length_append, mrow_snoc]; exact ho)
             have B3 : Hid (Below w.heap.size w w3) := hb
             clear ho hb hg hat))
        go_roundw
        case rel => exact ⟨v3, k + 1, by omega, rfl, by go_num, M3, B3⟩
        case measure => simp [intOf]; omega
      · have M3 : Hid (Ms wr w.heap.size v (asked s.id s.ballot S (k + 1))) := by rw [hs.out, hq, if_pos rfl, List.append_nil]; exact ms.out
        clear hq
        go_wp2_with (go_at_call 66; (with_reducible refine hh.mono ?_); rintro e w' ⟨rfl, rfl⟩)
        go_roundw
        case rel => exact ⟨v, k + 1, by omega, rfl, by go_num, M3, bel⟩
        case measure => simp [intOf]; omega
    · obtain rfl : k = n := by omega
      go_wp2
      go_ret
      exact ⟨_, rfl, ms.out, bel.out⟩
end Go.Proofs.YtcbecbalhnomcaaGreatDoor.Co
namespace Go.Proofs.YtcbecbalhnomcaaGreatDoor.Co
open Go.RowKit Go.Proofs.YtcbecbalhnomcaaGreatDoorW.PrintWords

theorem tick_prep (b t n : Nat) (S : Nat → Bool) (s : CS) (w : World) (h : Cd w b s) (hp : s.promised = some t) (tal : Tal w t n S) (hn : s.n = n) (h0 : n ≠ 0) (hph : s.phase = 1) (hcall : s.call = none) :
    Calls Tryz.prog 21 #[.pointer (some ⟨b, 0, none⟩)] w fun e w' => ∃ v, e = .returned v ∧ Hid (Ms w' w.heap.size v (asked s.id s.ballot S n) ∧ Below w.heap.size w w') := by
  have hno := none_at b s w h (by omega)
  have hprep := prepare_at b t n S s w h hp tal hn
  have h1 := h.c_phase
  rw [hph] at h1
  have h2 := h.c_call
  rw [hcall, ptr_none] at h2
  clear h hp hn tal hph hcall
  go_enter Tryz.func21, Tryz.ntmps21
  go_wp2_with (first
    | (go_at_call 33; (with_reducible refine hno.mono ?_); rintro e w' ⟨rfl, rfl⟩)
    | (go_at_call 47; (with_reducible refine hprep.mono ?_); rintro e w2 ⟨v, rfl, hh⟩))
  go_ret
  exact ⟨_, rfl, hh⟩

theorem awake_calls (w : World) : Calls Tryz.prog 20 #[] w fun e w' => e = .returned (.bool true) ∧ Hid (Below w.heap.size w w') := by
  have hid := ideal_calls w
  have hnew : ∀ w1, Bk w1 (w.heap.size + 1) w.heap.size → Calls Tryz.prog 24 #[.int .i64 1, .int .i64 3, .int .i64 1, .pointer (some ⟨w.heap.size + 1, 0, none⟩)] w1 fun e w' => ∃ b t, e = .returned (.tuple #[.pointer (some ⟨b, 0, none⟩), .int .i64 0]) ∧ Hid (Newly w1 w' 1 3 5 (w.heap.size + 1) b t) :=
    fun w1 h => new_ok 1 3 1 _ _ w1 h (by decide) (by decide) (by decide) (by decide) (by decide) (by decide)
  have htick : ∀ w2 w3 b t bk, Hid (Newly w2 w3 1 3 5 bk b t) → Calls Tryz.prog 21 #[.pointer (some ⟨b, 0, none⟩)] w3 fun e w' => ∃ v, e = .returned v ∧ Hid (Ms w' w3.heap.size v [Mg.bare 1 1 0 5, Mg.bare 1 1 1 5, Mg.bare 1 1 2 5] ∧ Below w3.heap.size w3 w') :=
    fun w2 w3 b t bk h => tick_prep b t 3 (fun _ => false) (CS.init 1 3 5 bk t) w3 h.out.1 rfl h.out.2.1 rfl (by decide) rfl rfl
  go_enter Tryz.func20, Tryz.ntmps20
  go_upto_region 3 with (first
    | (go_at_call 25; (with_reducible refine hid.mono ?_); rintro e w1 ⟨rfl, hb⟩)
    | (go_at_call 24; (with_reducible refine (hnew _ hb.out.1).mono ?_); rintro e w2 ⟨b, t, rfl, hn⟩)
    | (go_at_call 21; (with_reducible refine (htick _ _ _ _ _ hn).mono ?_); rintro e w3 ⟨v, rfl, hm⟩
       obtain ⟨g, c, rfl, _, hc, hcell⟩ := Ms.cell hm.out.1 (by decide)
       have c0 : w3.cell? ⟨g, 0, none⟩ = some (.int .i64 1) := hcell 0 (by decide) 0 (by decide)
       have c1 : w3.cell? ⟨g, 3, none⟩ = some (.int .i64 5) := hcell 0 (by decide) 3 (by decide)
       have c2 : w3.cell? ⟨g, 30, none⟩ = some (.int .i64 2) := hcell 2 (by decide) 2 (by decide)
       simp only [List.length_cons, List.length_nil, Nat.zero_add, Nat.reduceAdd]
       clear hcell))
  go_wp2
  go_ret
  exact ⟨rfl, (hb.out.2.2.1.trans (hn.out.2.2.1.mono hb.out.2.2.1.size)).trans (hm.out.2.mono (Nat.le_trans hb.out.2.2.1.size hn.out.2.2.1.size))⟩
end Go.Proofs.YtcbecbalhnomcaaGreatDoor.Co
namespace Go.Proofs.YtcbecbalhnomcaaGreatDoor.Co
open Go.RowKit Go.Proofs.YtcbecbalhnomcaaGreatDoorW.PrintWords

/-- a world's cells -/
def wcells (b bk : Nat) (id n : Int) (sent asks : Value) (left : Int) : Array Value := #[.pointer (some ⟨b, 0, none⟩), .pointer (some ⟨bk, 0, none⟩), .int .i64 id, .int .i64 n, sent, asks, .int .i64 left]
/-- a world that begins -/
structure Fresh (w w' : World) (id n ballot : Int) (p b t bk mk : Nat) : Prop where
  wd : Blk w' p (wcells b bk id n (.slice none 0 0) (.slice none 0 0) 0) 42
  cd : Cd w' b (CS.init id n ballot bk t)
  tal : Tal w' t n.toNat (fun _ => false)
  book : Bk w' bk mk
  map : w'.heap[mk]? = some (.map #[] 0)
  below : Below w.heap.size w w'
  low : w.heap.size ≤ p ∧ w.heap.size ≤ b ∧ w.heap.size ≤ t ∧ w.heap.size ≤ bk ∧ w.heap.size ≤ mk
theorem fresh_bad (id n stamp : Int) (w : World) (h : id < 0 ∨ id ≥ 4 ∨ stamp < 1 ∨ stamp > 1099511627776 ∨ n < 1 ∨ n > 9) :
    Calls Tryz.prog 12 #[.int .i64 id, .int .i64 n, .int .i64 stamp] w fun e w' => e = .returned (.pointer none) ∧ Hid (Below w.heap.size w w') := by
  have hid := ideal_calls w
  have hb1 := fun w1 => new_bad id n stamp (.pointer (some ⟨w.heap.size + 1, 0, none⟩)) w1 (by omega)
  clear h
  go_enter Tryz.func12, Tryz.ntmps12
  go_wp2_with (first
    | (go_at_call 25; (with_reducible refine hid.mono ?_); rintro e w1 ⟨rfl, hb⟩)
    | (go_at_call 24; (with_reducible refine (hb1 _).mono ?_); rintro e w' ⟨rfl, rfl⟩))
  go_ret
  exact ⟨rfl, hb.out.2.2.1⟩
theorem fresh_ok (id n stamp : Int) (w : World) (h1 : 0 ≤ id) (h2 : id ≤ 3) (h3 : 1 ≤ n) (h4 : n ≤ 9) (h5 : 1 ≤ stamp) (h6 : stamp ≤ 1099511627776) :
    Calls Tryz.prog 12 #[.int .i64 id, .int .i64 n, .int .i64 stamp] w fun e w' => ∃ p, e = .returned (.pointer (some ⟨p, 0, none⟩)) ∧ Hid (∃ b t bk mk, Fresh w w' id n (stamp * 4 + id) p b t bk mk) := by
  have hid := ideal_calls w
  have hnew := fun w1 (hb : Bk w1 (w.heap.size + 1) w.heap.size) => new_ok id n stamp _ _ w1 hb h1 h2 h3 h4 h5 h6
  have g3 : ¬ n < 1 := by omega
  have g4 : ¬ n > 9 := by omega
  go_enter Tryz.func12, Tryz.ntmps12
  go_wp2_with (first
    | (go_at_call 25; (with_reducible refine hid.mono ?_); rintro e w1 ⟨rfl, hb⟩)
    | (go_at_call 24; (with_reducible refine (hnew _ hb.out.1).mono ?_); rintro e w2 ⟨b, t, rfl, hn⟩))
  go_ret
  obtain ⟨a1, a2, a3, a4⟩ := hb.out
  obtain ⟨n1, n2, n3, n4, n5⟩ := hn.out
  have s1 := a3.size
  have s2 := n3.size
  have hk : ∀ k, k < w1.heap.size → (w2.alloc (.cells (wcells b (w.heap.size + 1) id n (.slice none 0 0) (.slice none 0 0) 0) 42)).heap[k]? = w1.heap[k]? := fun k hk => (Below.heap_alloc _ _ _ (by omega)).trans (n3.block k hk)
  exact ⟨_, rfl, b, t, w.heap.size + 1, w.heap.size, Blk.new w2 (wcells b (w.heap.size + 1) id n (.slice none 0 0) (.slice none 0 0) 0) _, n1.same (Below.heap_alloc _ _ _ n1.lt), n2.same (Below.heap_alloc _ _ _ n2.blk.lt), a1.same (hk _ (by omega)), (hk _ (by omega)).trans a2, (a3.trans (n3.mono s1)).alloc (by omega) _, by omega, by omega, by omega, by omega, by omega⟩
end Go.Proofs.YtcbecbalhnomcaaGreatDoor.Co
