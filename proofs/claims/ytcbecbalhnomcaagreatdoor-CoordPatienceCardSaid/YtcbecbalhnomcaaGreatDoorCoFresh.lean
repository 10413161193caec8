/- A coordinator of its own for a law's run. -/
import Derived.Test.YtcbecbalhnomcaaGreatDoorCoAwake
namespace Go.Proofs.YtcbecbalhnomcaaGreatDoor.Co
open Go.RowKit Go.Proofs.YtcbecbalhnomcaaGreatDoorW.PrintWords

/-- a world's cells -/
def wcells (b bk : Nat) (id n : Int) (sent asks : Value) (left : Int) : Array Value := #[.pointer (some ⟨b, 0, none⟩), .pointer (some ⟨bk, 0, none⟩), .int .i64 id, .int .i64 n, sent, asks, .int .i64 left]
/-- a world that begins -/
structure Fresh (w w' : World) (id n ballot : Int) (p b t bk mk : Nat) : Prop where
  wd : Blk w' p (wcells b bk id n (.slice none 0 0) (.slice none 0 0) 0) 42
  cd : Cd w' b (CS.init id n ballot bk t)
  tal : Tal w' t n.toNat (fun _ => false)
  book : Bk w' bk mk
  map : w'.heap[mk]? = some (.map #[] 0)
  below : Below w.heap.size w w'
  low : w.heap.size ≤ p ∧ w.heap.size ≤ b ∧ w.heap.size ≤ t ∧ w.heap.size ≤ bk ∧ w.heap.size ≤ mk
theorem fresh_bad (id n stamp : Int) (w : World) (h : id < 0 ∨ id ≥ 4 ∨ stamp < 1 ∨ stamp > 1099511627776 ∨ n < 1 ∨ n > 9) :
    Calls Tryz.prog 12 #[.int .i64 id, .int .i64 n, .int .i64 stamp] w fun e w' => e = .returned (.pointer none) ∧ Hid (Below w.heap.size w w') := by
  have hid := ideal_calls w
  have hb1 := fun w1 => new_bad id n stamp (.pointer (some ⟨w.heap.size + 1, 0, none⟩)) w1 (by omega)
  clear h
  go_enter Tryz.func12, Tryz.ntmps12
  go_wp2_with (first
    | (go_at_call 25; (with_reducible refine hid.mono ?_); rintro e w1 ⟨rfl, hb⟩)
    | (go_at_call 24; (with_reducible refine (hb1 _).mono ?_); rintro e w' ⟨rfl, rfl⟩))
  go_ret
  exact ⟨rfl, hb.out.2.2.1⟩
theorem fresh_ok (id n stamp : Int) (w : World) (h1 : 0 ≤ id) (h2 : id ≤ 3) (h3 : 1 ≤ n) (h4 : n ≤ 9) (h5 : 1 ≤ stamp) (h6 : stamp ≤ 1099511627776) :
    Calls Tryz.prog 12 #[.int .i64 id, .int .i64 n, .int .i64 stamp] w fun e w' => ∃ p, e = .returned (.pointer (some ⟨p, 0, none⟩)) ∧ Hid (∃ b t bk mk, Fresh w w' id n (stamp * 4 + id) p b t bk mk) := by
  have hid := ideal_calls w
  have hnew := fun w1 (hb : Bk w1 (w.heap.size + 1) w.heap.size) => new_ok id n stamp _ _ w1 hb h1 h2 h3 h4 h5 h6
  have g3 : ¬ n < 1 := by omega
  have g4 : ¬ n > 9 := by omega
  go_enter Tryz.func12, Tryz.ntmps12
  go_wp2_with (first
    | (go_at_call 25; (with_reducible refine hid.mono ?_); rintro e w1 ⟨rfl, hb⟩)
    | (go_at_call 24; (with_reducible refine (hnew _ hb.out.1).mono ?_); rintro e w2 ⟨b, t, rfl, hn⟩))
  go_ret
  obtain ⟨a1, a2, a3, a4⟩ := hb.out
  obtain ⟨n1, n2, n3, n4, n5⟩ := hn.out
  have s1 := a3.size
  have s2 := n3.size
  have hk : ∀ k, k < w1.heap.size → (w2.alloc (.cells (wcells b (w.heap.size + 1) id n (.slice none 0 0) (.slice none 0 0) 0) 42)).heap[k]? = w1.heap[k]? := fun k hk => (Below.heap_alloc _ _ _ (by omega)).trans (n3.block k hk)
  exact ⟨_, rfl, b, t, w.heap.size + 1, w.heap.size, Blk.new w2 (wcells b (w.heap.size + 1) id n (.slice none 0 0) (.slice none 0 0) 0) _, n1.same (Below.heap_alloc _ _ _ n1.lt), n2.same (Below.heap_alloc _ _ _ n2.blk.lt), a1.same (hk _ (by omega)), (hk _ (by omega)).trans a2, (a3.trans (n3.mono s1)).alloc (by omega) _, by omega, by omega, by omega, by omega, by omega⟩
end Go.Proofs.YtcbecbalhnomcaaGreatDoor.Co
