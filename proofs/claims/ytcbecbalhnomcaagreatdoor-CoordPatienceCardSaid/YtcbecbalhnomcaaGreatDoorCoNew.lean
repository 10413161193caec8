/- Books, how a coordinator begins, and what it tells of itself. -/
import Derived.Test.YtcbecbalhnomcaaGreatDoorCoState
import Derived.Maps.OwnOps
import Derived.Maps.OwnSet
namespace Go.Proofs.YtcbecbalhnomcaaGreatDoor.Co
open Go.RowKit Go.Proofs.YtcbecbalhnomcaaGreatDoorW.PrintWords

/-- an ideal book's cells; m is its map -/
def bcells (m : Nat) : Array Value := #[.int .u32 0, .int .u32 0, .int .u32 0, .int .u32 0, .int .u32 0, .int .u32 0, .int .u32 0, .int .u32 0, .int .u32 0, .int .u32 0, .int .u32 0, .int .u32 0, .int .u32 0, .int .u32 0, .int .u32 0, .int .u32 0, .int .u32 0, .int .u32 0, .int .u32 0, .int .u32 0, .int .u32 0, .int .u32 0, .int .u32 0, .int .u32 0, .int .u32 0, .int .u32 0, .int .u32 0, .int .u32 0, .int .u32 0, .int .u32 0, .int .u32 0, .int .u32 0, .int .u32 0, .int .u32 0, .int .u32 0, .int .u32 0, .int .u32 0, .int .u32 0, .int .u32 0, .int .u32 0, .int .u32 0, .int .u32 0, .int .u32 0, .int .u32 0, .int .u32 0, .int .u32 0, .int .u32 0, .int .u32 0, .int .u32 0, .int .u32 0, .int .u32 0, .int .u32 0, .int .u32 0, .int .u32 0, .int .u32 0, .int .u32 0, .int .u32 0, .int .u32 0, .int .u32 0, .int .u32 0, .int .u32 0, .int .u32 0, .int .u32 0, .int .u32 0, .int .u32 0, .int .u32 0, .int .u32 0, .int .u32 0, .int .u32 0, .int .u32 0, .int .u32 0, .int .u32 0, .bool false, .map (some m), .bool true]
/-- an ideal book in memory -/
structure Bk (w : World) (b m : Nat) : Prop where
  blk : Blk w b (bcells m) 107
theorem Bk.same {w w' : World} {b m : Nat} (h : Bk w b m) (e : w'.heap[b]? = w.heap[b]?) : Bk w' b m := ⟨h.blk.same e⟩
theorem ideal_calls (w : World) : Calls Tryz.prog 25 #[] w fun e w' => e = .returned (.pointer (some ⟨w.heap.size + 1, 0, none⟩)) ∧ Hid (Bk w' (w.heap.size + 1) w.heap.size ∧ w'.heap[w.heap.size]? = some (.map #[] 0) ∧ Below w.heap.size w w' ∧ w'.heap.size = w.heap.size + 2) := by
  have hmm := @run_makeMap Tryz.prog
  go_enter Tryz.func25, Tryz.ntmps25
  go_wp2
  go_ret
  refine ⟨rfl, ⟨?_⟩, ?_, ((Below.refl _ w).alloc (Nat.le_refl _) _).alloc (by simp) _, by simp⟩
  · have := Blk.new (w.alloc (.map #[] 0)) (bcells w.heap.size) 107
    rw [show (w.alloc (.map #[] 0)).heap.size = w.heap.size + 1 from by simp] at this
    exact this
  · rw [Below.heap_alloc _ _ _ (by simp)]
    unfold World.alloc
    simp
theorem book_none_nil (w : World) : Calls Tryz.prog 58 #[.pointer none] w fun e w' => e = .returned (.bool true) ∧ w = w' := by
  go_enter Tryz.func58, Tryz.ntmps58
  go_wp2
  go_ret
  exact ⟨rfl, rfl⟩
theorem ready_nil (w : World) : Calls Tryz.prog 53 #[.pointer none] w fun e w' => e = .returned (.bool false) ∧ w = w' := by
  go_enter Tryz.func53, Tryz.ntmps53
  go_wp2_with (go_at_call 58; (with_reducible refine (book_none_nil _).mono ?_); rintro e w' ⟨rfl, rfl⟩)
  go_ret
  exact ⟨rfl, rfl⟩
theorem book_none_at (b m : Nat) (w : World) (h : Bk w b m) : Calls Tryz.prog 58 #[.pointer (some ⟨b, 0, none⟩)] w fun e w' => e = .returned (.bool false) ∧ w = w' := by
  have h0 : w.cell? ⟨b, 72, none⟩ = some (.bool false) := h.blk.cell 72
  have h1 : w.cell? ⟨b, 74, none⟩ = some (.bool true) := h.blk.cell 74
  go_enter Tryz.func58, Tryz.ntmps58
  go_wp2
  go_ret
  exact ⟨rfl, rfl⟩
theorem ready_at (b m : Nat) (w : World) (h : Bk w b m) : Calls Tryz.prog 53 #[.pointer (some ⟨b, 0, none⟩)] w fun e w' => e = .returned (.bool true) ∧ w = w' := by
  go_enter Tryz.func53, Tryz.ntmps53
  go_wp2_with (go_at_call 58; (with_reducible refine (book_none_at b m _ h).mono ?_); rintro e w' ⟨rfl, rfl⟩)
  go_ret
  exact ⟨rfl, rfl⟩

/-- a coordinator that begins -/
def CS.init (id n ballot : Int) (book tal : Nat) : CS := ⟨id, n, some book, ballot, 1, 0, 0, .slice none 0 0, .slice none 0 0, some tal, .slice none 0 0, .slice none 0 0, fun _ => Pr.zero, none, none, none, 0, 0, none, none, none⟩
theorem new_bad (id n stamp : Int) (bk : Value) (w : World) (h : id < 0 ∨ id ≥ 4 ∨ stamp < 1 ∨ stamp > 1099511627776 ∨ n < 1 ∨ n > 9 ∨ bk = .pointer none) :
    Calls Tryz.prog 24 #[.int .i64 id, .int .i64 n, .int .i64 stamp, bk] w fun e w' => e = .returned (.tuple #[.pointer none, .int .i64 1]) ∧ w = w' := by
  by_cases h1 : id < 0 ∨ id ≥ 4 ∨ stamp < 1 ∨ stamp > 1099511627776
  · have hb := ballot_bad stamp id w (by omega)
    clear h h1
    go_enter Tryz.func24, Tryz.ntmps24
    go_wp2_with (go_at_call 52; (with_reducible refine hb.mono ?_); rintro e w' ⟨rfl, rfl⟩)
    go_ret2
    exact ⟨rfl, rfl⟩
  · have hb := ballot_ok stamp id w (by omega) (by omega) (by omega) (by omega)
    generalize stamp * 4 + id = k at *
    by_cases h2 : n < 1
    · clear h h1
      go_enter Tryz.func24, Tryz.ntmps24
      go_wp2_with (go_at_call 52; (with_reducible refine hb.mono ?_); rintro e w' ⟨rfl, rfl⟩)
      go_ret2
      exact ⟨rfl, rfl⟩
    by_cases h3 : n > 9
    · clear h h1
      go_enter Tryz.func24, Tryz.ntmps24
      go_wp2_with (go_at_call 52; (with_reducible refine hb.mono ?_); rintro e w' ⟨rfl, rfl⟩)
      go_ret2
      exact ⟨rfl, rfl⟩
    obtain rfl : bk = .pointer none := by
      rcases h with h | h | h | h | h | h | h
      all_goals first | exact h | omega
    clear h1
    go_enter Tryz.func24, Tryz.ntmps24
    go_wp2_with (first
      | (go_at_call 52; (with_reducible refine hb.mono ?_); rintro e w' ⟨rfl, rfl⟩)
      | (go_at_call 53; (with_reducible refine (ready_nil _).mono ?_); rintro e w' ⟨rfl, rfl⟩))
    go_ret2
    exact ⟨rfl, rfl⟩
/-- what a new coordinator is -/
def Newly (w w' : World) (id n ballot : Int) (book : Nat) (b t : Nat) : Prop :=
  Cd w' b (CS.init id n ballot book t) ∧ Tal w' t n.toNat (fun _ => false) ∧ Below w.heap.size w w' ∧ w.heap.size ≤ b ∧ w.heap.size ≤ t
theorem new_ok (id n stamp : Int) (bk m : Nat) (w : World) (h : Bk w bk m) (h0 : 0 ≤ id) (h1 : id ≤ 3) (h2 : 1 ≤ n) (h3 : n ≤ 9) (h4 : 1 ≤ stamp) (h5 : stamp ≤ 1099511627776) :
    Calls Tryz.prog 24 #[.int .i64 id, .int .i64 n, .int .i64 stamp, .pointer (some ⟨bk, 0, none⟩)] w fun e w' => ∃ b t, e = .returned (.tuple #[.pointer (some ⟨b, 0, none⟩), .int .i64 0]) ∧ Hid (Newly w w' id n (stamp * 4 + id) bk b t) := by
  have hb := ballot_ok stamp id w h0 (by omega) h4 h5
  have hr := ready_at bk m w h
  have hbd : stamp * 4 + id ≤ 9223372036854775807 := by omega
  generalize stamp * 4 + id = k at *
  have h2' : ¬ n < 1 := by omega
  have h3' : ¬ n > 9 := by omega
  have ht := fun w => talnew_calls n w
  have hs : Hid (some_ n = n.toNat) := by show _ = _; unfold some_; omega
  clear h
  go_enter Tryz.func24, Tryz.ntmps24
  go_wp2_with (first
    | (go_at_call 52; (with_reducible refine hb.mono ?_); rintro e w' ⟨rfl, rfl⟩)
    | (go_at_call 53; (with_reducible refine hr.mono ?_); rintro e w' ⟨rfl, rfl⟩)
    | (go_at_call 54; (with_reducible refine (ht _).mono ?_); rintro e w3 ⟨rfl, hn⟩))
  go_ret2
  obtain ⟨n1, n2, n3⟩ := hn.out
  refine ⟨_, _, rfl, Blk.new w3 (ccells (CS.init id n k bk w.heap.size)) _, ?_, n2.alloc n2.size _, n2.size, Nat.le_refl _⟩
  rw [← hs.out]
  exact n1.same (Below.heap_alloc _ _ _ n1.blk.lt)

/-! a coordinator that nobody made -/
theorem none_nil (w : World) : Calls Tryz.prog 33 #[.pointer none] w fun e w' => e = .returned (.bool true) ∧ w = w' := by
  go_enter Tryz.func33, Tryz.ntmps33
  go_wp2
  go_ret
  exact ⟨rfl, rfl⟩
theorem none_at (b : Nat) (s : CS) (w : World) (h : Cd w b s) (hn : s.n ≠ 0) : Calls Tryz.prog 33 #[.pointer (some ⟨b, 0, none⟩)] w fun e w' => e = .returned (.bool false) ∧ w = w' := by
  have h0 := h.c_n
  have h1 : (s.n == 0) = false := by simpa using hn
  clear h hn
  go_enter Tryz.func33, Tryz.ntmps33
  go_wp2
  go_ret
  exact ⟨rfl, rfl⟩
end Go.Proofs.YtcbecbalhnomcaaGreatDoor.Co
