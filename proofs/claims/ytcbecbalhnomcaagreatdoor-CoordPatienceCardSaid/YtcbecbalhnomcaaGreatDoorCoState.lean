/- A coordinator as it lies in memory. -/
import Derived.Test.YtcbecbalhnomcaaGreatDoorCoBase
namespace Go.Proofs.YtcbecbalhnomcaaGreatDoor.Co
open Go.RowKit Go.Proofs.YtcbecbalhnomcaaGreatDoorW.PrintWords

/-- a pointer to a block's begin, or nil -/
def ptr (o : Option Nat) : Value := .pointer (o.map fun b => ⟨b, 0, none⟩)
@[simp] theorem ptr_none : ptr none = .pointer none := rfl
@[simp] theorem ptr_some (b : Nat) : ptr (some b) = .pointer (some ⟨b, 0, none⟩) := rfl
/-- what is known of a vault -/
structure Pr where
  told : Bool
  floor : Int
  top : Int
  has : Int
  mark : ByteArray
  whole : Bool
  cursor : Int
  pack : Option Nat
/-- a peer of whom nothing is known -/
def Pr.zero : Pr := ⟨false, 0, 0, 0, ⟨#[]⟩, false, 0, none⟩
/-- a coordinator's fields -/
structure CS where
  id : Int
  n : Int
  book : Option Nat
  ballot : Int
  phase : Int
  floor : Int
  top : Int
  chosen : Value
  images : Value
  promised : Option Nat
  promises : Value
  again : Value
  peers : Nat → Pr
  job : Option Nat
  fetch : Option Nat
  call : Option Nat
  left : Int
  read : Int
  yes : Option Nat
  pruned : Option Nat
  answer : Option Nat
def ccells (s : CS) : Array Value := #[.int .i64 s.id, .int .i64 s.n, ptr s.book, .int .i64 s.ballot, .int .i64 s.phase, .int .i64 s.floor, .int .i64 s.top, s.chosen, s.images, ptr s.promised, s.promises, s.again, .bool (s.peers 0).told, .int .i64 (s.peers 0).floor, .int .i64 (s.peers 0).top, .int .i64 (s.peers 0).has, .string (s.peers 0).mark, .bool (s.peers 0).whole, .int .i64 (s.peers 0).cursor, ptr (s.peers 0).pack, .bool (s.peers 1).told, .int .i64 (s.peers 1).floor, .int .i64 (s.peers 1).top, .int .i64 (s.peers 1).has, .string (s.peers 1).mark, .bool (s.peers 1).whole, .int .i64 (s.peers 1).cursor, ptr (s.peers 1).pack, .bool (s.peers 2).told, .int .i64 (s.peers 2).floor, .int .i64 (s.peers 2).top, .int .i64 (s.peers 2).has, .string (s.peers 2).mark, .bool (s.peers 2).whole, .int .i64 (s.peers 2).cursor, ptr (s.peers 2).pack, .bool (s.peers 3).told, .int .i64 (s.peers 3).floor, .int .i64 (s.peers 3).top, .int .i64 (s.peers 3).has, .string (s.peers 3).mark, .bool (s.peers 3).whole, .int .i64 (s.peers 3).cursor, ptr (s.peers 3).pack, .bool (s.peers 4).told, .int .i64 (s.peers 4).floor, .int .i64 (s.peers 4).top, .int .i64 (s.peers 4).has, .string (s.peers 4).mark, .bool (s.peers 4).whole, .int .i64 (s.peers 4).cursor, ptr (s.peers 4).pack, .bool (s.peers 5).told, .int .i64 (s.peers 5).floor, .int .i64 (s.peers 5).top, .int .i64 (s.peers 5).has, .string (s.peers 5).mark, .bool (s.peers 5).whole, .int .i64 (s.peers 5).cursor, ptr (s.peers 5).pack, .bool (s.peers 6).told, .int .i64 (s.peers 6).floor, .int .i64 (s.peers 6).top, .int .i64 (s.peers 6).has, .string (s.peers 6).mark, .bool (s.peers 6).whole, .int .i64 (s.peers 6).cursor, ptr (s.peers 6).pack, .bool (s.peers 7).told, .int .i64 (s.peers 7).floor, .int .i64 (s.peers 7).top, .int .i64 (s.peers 7).has, .string (s.peers 7).mark, .bool (s.peers 7).whole, .int .i64 (s.peers 7).cursor, ptr (s.peers 7).pack, .bool (s.peers 8).told, .int .i64 (s.peers 8).floor, .int .i64 (s.peers 8).top, .int .i64 (s.peers 8).has, .string (s.peers 8).mark, .bool (s.peers 8).whole, .int .i64 (s.peers 8).cursor, ptr (s.peers 8).pack, ptr s.job, ptr s.fetch, ptr s.call, .int .i64 s.left, .int .i64 s.read, ptr s.yes, ptr s.pruned, ptr s.answer]
/-- a coordinator in memory -/
def Cd (w : World) (b : Nat) (s : CS) : Prop := Blk w b (ccells s) 90
section
variable {w w' : World} {b : Nat} {s : CS}
theorem Cd.same (h : Cd w b s) (e : w'.heap[b]? = w.heap[b]?) : Cd w' b s := Blk.same h e
theorem Cd.free (h : Cd w b s) (i : Nat) : w.frozen? ⟨b, i, none⟩ = false := Blk.free h i
theorem Cd.lt (h : Cd w b s) : b < w.heap.size := Blk.lt h
theorem Cd.c_id (h : Cd w b s) : w.cell? ⟨b, 0, none⟩ = some (.int .i64 s.id) := Blk.cell h 0
theorem Cd.c_n (h : Cd w b s) : w.cell? ⟨b, 1, none⟩ = some (.int .i64 s.n) := Blk.cell h 1
theorem Cd.c_book (h : Cd w b s) : w.cell? ⟨b, 2, none⟩ = some (ptr s.book) := Blk.cell h 2
theorem Cd.c_ballot (h : Cd w b s) : w.cell? ⟨b, 3, none⟩ = some (.int .i64 s.ballot) := Blk.cell h 3
theorem Cd.c_phase (h : Cd w b s) : w.cell? ⟨b, 4, none⟩ = some (.int .i64 s.phase) := Blk.cell h 4
theorem Cd.c_floor (h : Cd w b s) : w.cell? ⟨b, 5, none⟩ = some (.int .i64 s.floor) := Blk.cell h 5
theorem Cd.c_top (h : Cd w b s) : w.cell? ⟨b, 6, none⟩ = some (.int .i64 s.top) := Blk.cell h 6
theorem Cd.c_chosen (h : Cd w b s) : w.cell? ⟨b, 7, none⟩ = some (s.chosen) := Blk.cell h 7
theorem Cd.c_images (h : Cd w b s) : w.cell? ⟨b, 8, none⟩ = some (s.images) := Blk.cell h 8
theorem Cd.c_promised (h : Cd w b s) : w.cell? ⟨b, 9, none⟩ = some (ptr s.promised) := Blk.cell h 9
theorem Cd.c_promises (h : Cd w b s) : w.cell? ⟨b, 10, none⟩ = some (s.promises) := Blk.cell h 10
theorem Cd.c_again (h : Cd w b s) : w.cell? ⟨b, 11, none⟩ = some (s.again) := Blk.cell h 11
theorem Cd.c_job (h : Cd w b s) : w.cell? ⟨b, 84, none⟩ = some (ptr s.job) := Blk.cell h 84
theorem Cd.c_fetch (h : Cd w b s) : w.cell? ⟨b, 85, none⟩ = some (ptr s.fetch) := Blk.cell h 85
theorem Cd.c_call (h : Cd w b s) : w.cell? ⟨b, 86, none⟩ = some (ptr s.call) := Blk.cell h 86
theorem Cd.c_left (h : Cd w b s) : w.cell? ⟨b, 87, none⟩ = some (.int .i64 s.left) := Blk.cell h 87
theorem Cd.c_read (h : Cd w b s) : w.cell? ⟨b, 88, none⟩ = some (.int .i64 s.read) := Blk.cell h 88
theorem Cd.c_yes (h : Cd w b s) : w.cell? ⟨b, 89, none⟩ = some (ptr s.yes) := Blk.cell h 89
theorem Cd.c_pruned (h : Cd w b s) : w.cell? ⟨b, 90, none⟩ = some (ptr s.pruned) := Blk.cell h 90
theorem Cd.c_answer (h : Cd w b s) : w.cell? ⟨b, 91, none⟩ = some (ptr s.answer) := Blk.cell h 91
theorem Cd.p_told (h : Cd w b s) (v : Nat) (hv : v < 9) : w.cell? ⟨b, 12 + v * 8, none⟩ = some (.bool (s.peers v).told) := by
  rw [Blk.cell h]
  match v, hv with
  | 0, _ | 1, _ | 2, _ | 3, _ | 4, _ | 5, _ | 6, _ | 7, _ | 8, _ => rfl
theorem Cd.p_floor (h : Cd w b s) (v : Nat) (hv : v < 9) : w.cell? ⟨b, 12 + v * 8 + 1, none⟩ = some (.int .i64 (s.peers v).floor) := by
  rw [Blk.cell h]
  match v, hv with
  | 0, _ | 1, _ | 2, _ | 3, _ | 4, _ | 5, _ | 6, _ | 7, _ | 8, _ => rfl
theorem Cd.p_top (h : Cd w b s) (v : Nat) (hv : v < 9) : w.cell? ⟨b, 12 + v * 8 + 2, none⟩ = some (.int .i64 (s.peers v).top) := by
  rw [Blk.cell h]
  match v, hv with
  | 0, _ | 1, _ | 2, _ | 3, _ | 4, _ | 5, _ | 6, _ | 7, _ | 8, _ => rfl
theorem Cd.p_has (h : Cd w b s) (v : Nat) (hv : v < 9) : w.cell? ⟨b, 12 + v * 8 + 3, none⟩ = some (.int .i64 (s.peers v).has) := by
  rw [Blk.cell h]
  match v, hv with
  | 0, _ | 1, _ | 2, _ | 3, _ | 4, _ | 5, _ | 6, _ | 7, _ | 8, _ => rfl
theorem Cd.p_mark (h : Cd w b s) (v : Nat) (hv : v < 9) : w.cell? ⟨b, 12 + v * 8 + 4, none⟩ = some (.string (s.peers v).mark) := by
  rw [Blk.cell h]
  match v, hv with
  | 0, _ | 1, _ | 2, _ | 3, _ | 4, _ | 5, _ | 6, _ | 7, _ | 8, _ => rfl
theorem Cd.p_whole (h : Cd w b s) (v : Nat) (hv : v < 9) : w.cell? ⟨b, 12 + v * 8 + 5, none⟩ = some (.bool (s.peers v).whole) := by
  rw [Blk.cell h]
  match v, hv with
  | 0, _ | 1, _ | 2, _ | 3, _ | 4, _ | 5, _ | 6, _ | 7, _ | 8, _ => rfl
theorem Cd.p_cursor (h : Cd w b s) (v : Nat) (hv : v < 9) : w.cell? ⟨b, 12 + v * 8 + 6, none⟩ = some (.int .i64 (s.peers v).cursor) := by
  rw [Blk.cell h]
  match v, hv with
  | 0, _ | 1, _ | 2, _ | 3, _ | 4, _ | 5, _ | 6, _ | 7, _ | 8, _ => rfl
theorem Cd.p_pack (h : Cd w b s) (v : Nat) (hv : v < 9) : w.cell? ⟨b, 12 + v * 8 + 7, none⟩ = some (ptr (s.peers v).pack) := by
  rw [Blk.cell h]
  match v, hv with
  | 0, _ | 1, _ | 2, _ | 3, _ | 4, _ | 5, _ | 6, _ | 7, _ | 8, _ => rfl
theorem Cd.s_id (h : Cd w b s) (x : Int) : Cd (w.setCell ⟨b, 0, none⟩ (.int .i64 x)) b { s with id := x } := Blk.set h 0 _
theorem Cd.s_n (h : Cd w b s) (x : Int) : Cd (w.setCell ⟨b, 1, none⟩ (.int .i64 x)) b { s with n := x } := Blk.set h 1 _
theorem Cd.s_book (h : Cd w b s) (x : Option Nat) : Cd (w.setCell ⟨b, 2, none⟩ (ptr x)) b { s with book := x } := Blk.set h 2 _
theorem Cd.s_ballot (h : Cd w b s) (x : Int) : Cd (w.setCell ⟨b, 3, none⟩ (.int .i64 x)) b { s with ballot := x } := Blk.set h 3 _
theorem Cd.s_phase (h : Cd w b s) (x : Int) : Cd (w.setCell ⟨b, 4, none⟩ (.int .i64 x)) b { s with phase := x } := Blk.set h 4 _
theorem Cd.s_floor (h : Cd w b s) (x : Int) : Cd (w.setCell ⟨b, 5, none⟩ (.int .i64 x)) b { s with floor := x } := Blk.set h 5 _
theorem Cd.s_top (h : Cd w b s) (x : Int) : Cd (w.setCell ⟨b, 6, none⟩ (.int .i64 x)) b { s with top := x } := Blk.set h 6 _
theorem Cd.s_chosen (h : Cd w b s) (x : Value) : Cd (w.setCell ⟨b, 7, none⟩ (x)) b { s with chosen := x } := Blk.set h 7 _
theorem Cd.s_images (h : Cd w b s) (x : Value) : Cd (w.setCell ⟨b, 8, none⟩ (x)) b { s with images := x } := Blk.set h 8 _
theorem Cd.s_promised (h : Cd w b s) (x : Option Nat) : Cd (w.setCell ⟨b, 9, none⟩ (ptr x)) b { s with promised := x } := Blk.set h 9 _
theorem Cd.s_promises (h : Cd w b s) (x : Value) : Cd (w.setCell ⟨b, 10, none⟩ (x)) b { s with promises := x } := Blk.set h 10 _
theorem Cd.s_again (h : Cd w b s) (x : Value) : Cd (w.setCell ⟨b, 11, none⟩ (x)) b { s with again := x } := Blk.set h 11 _
theorem Cd.s_job (h : Cd w b s) (x : Option Nat) : Cd (w.setCell ⟨b, 84, none⟩ (ptr x)) b { s with job := x } := Blk.set h 84 _
theorem Cd.s_fetch (h : Cd w b s) (x : Option Nat) : Cd (w.setCell ⟨b, 85, none⟩ (ptr x)) b { s with fetch := x } := Blk.set h 85 _
theorem Cd.s_call (h : Cd w b s) (x : Option Nat) : Cd (w.setCell ⟨b, 86, none⟩ (ptr x)) b { s with call := x } := Blk.set h 86 _
theorem Cd.s_left (h : Cd w b s) (x : Int) : Cd (w.setCell ⟨b, 87, none⟩ (.int .i64 x)) b { s with left := x } := Blk.set h 87 _
theorem Cd.s_read (h : Cd w b s) (x : Int) : Cd (w.setCell ⟨b, 88, none⟩ (.int .i64 x)) b { s with read := x } := Blk.set h 88 _
theorem Cd.s_yes (h : Cd w b s) (x : Option Nat) : Cd (w.setCell ⟨b, 89, none⟩ (ptr x)) b { s with yes := x } := Blk.set h 89 _
theorem Cd.s_pruned (h : Cd w b s) (x : Option Nat) : Cd (w.setCell ⟨b, 90, none⟩ (ptr x)) b { s with pruned := x } := Blk.set h 90 _
theorem Cd.s_answer (h : Cd w b s) (x : Option Nat) : Cd (w.setCell ⟨b, 91, none⟩ (ptr x)) b { s with answer := x } := Blk.set h 91 _
def CS.setPeer (s : CS) (v : Nat) (p : Pr) : CS := { s with peers := fun k => if k = v then p else s.peers k }
theorem Cd.t_told (h : Cd w b s) (v : Nat) (hv : v < 9) (x : Bool) : Cd (w.setCell ⟨b, 12 + v * 8, none⟩ (.bool x)) b (s.setPeer v { s.peers v with told := x }) := by
  have := Blk.set h (12 + v * 8) (.bool x)
  match v, hv with
  | 0, _ | 1, _ | 2, _ | 3, _ | 4, _ | 5, _ | 6, _ | 7, _ | 8, _ => exact this
theorem Cd.t_floor (h : Cd w b s) (v : Nat) (hv : v < 9) (x : Int) : Cd (w.setCell ⟨b, 12 + v * 8 + 1, none⟩ (.int .i64 x)) b (s.setPeer v { s.peers v with floor := x }) := by
  have := Blk.set h (12 + v * 8 + 1) (.int .i64 x)
  match v, hv with
  | 0, _ | 1, _ | 2, _ | 3, _ | 4, _ | 5, _ | 6, _ | 7, _ | 8, _ => exact this
theorem Cd.t_top (h : Cd w b s) (v : Nat) (hv : v < 9) (x : Int) : Cd (w.setCell ⟨b, 12 + v * 8 + 2, none⟩ (.int .i64 x)) b (s.setPeer v { s.peers v with top := x }) := by
  have := Blk.set h (12 + v * 8 + 2) (.int .i64 x)
  match v, hv with
  | 0, _ | 1, _ | 2, _ | 3, _ | 4, _ | 5, _ | 6, _ | 7, _ | 8, _ => exact this
theorem Cd.t_has (h : Cd w b s) (v : Nat) (hv : v < 9) (x : Int) : Cd (w.setCell ⟨b, 12 + v * 8 + 3, none⟩ (.int .i64 x)) b (s.setPeer v { s.peers v with has := x }) := by
  have := Blk.set h (12 + v * 8 + 3) (.int .i64 x)
  match v, hv with
  | 0, _ | 1, _ | 2, _ | 3, _ | 4, _ | 5, _ | 6, _ | 7, _ | 8, _ => exact this
theorem Cd.t_mark (h : Cd w b s) (v : Nat) (hv : v < 9) (x : ByteArray) : Cd (w.setCell ⟨b, 12 + v * 8 + 4, none⟩ (.string x)) b (s.setPeer v { s.peers v with mark := x }) := by
  have := Blk.set h (12 + v * 8 + 4) (.string x)
  match v, hv with
  | 0, _ | 1, _ | 2, _ | 3, _ | 4, _ | 5, _ | 6, _ | 7, _ | 8, _ => exact this
theorem Cd.t_whole (h : Cd w b s) (v : Nat) (hv : v < 9) (x : Bool) : Cd (w.setCell ⟨b, 12 + v * 8 + 5, none⟩ (.bool x)) b (s.setPeer v { s.peers v with whole := x }) := by
  have := Blk.set h (12 + v * 8 + 5) (.bool x)
  match v, hv with
  | 0, _ | 1, _ | 2, _ | 3, _ | 4, _ | 5, _ | 6, _ | 7, _ | 8, _ => exact this
theorem Cd.t_cursor (h : Cd w b s) (v : Nat) (hv : v < 9) (x : Int) : Cd (w.setCell ⟨b, 12 + v * 8 + 6, none⟩ (.int .i64 x)) b (s.setPeer v { s.peers v with cursor := x }) := by
  have := Blk.set h (12 + v * 8 + 6) (.int .i64 x)
  match v, hv with
  | 0, _ | 1, _ | 2, _ | 3, _ | 4, _ | 5, _ | 6, _ | 7, _ | 8, _ => exact this
theorem Cd.t_pack (h : Cd w b s) (v : Nat) (hv : v < 9) (x : Option Nat) : Cd (w.setCell ⟨b, 12 + v * 8 + 7, none⟩ (ptr x)) b (s.setPeer v { s.peers v with pack := x }) := by
  have := Blk.set h (12 + v * 8 + 7) (ptr x)
  match v, hv with
  | 0, _ | 1, _ | 2, _ | 3, _ | 4, _ | 5, _ | 6, _ | 7, _ | 8, _ => exact this
end
@[simp] theorem CS.setPeer_twice (s : CS) (v : Nat) (p q : Pr) : (s.setPeer v p).setPeer v q = s.setPeer v q := by
  unfold CS.setPeer
  congr 1
  funext k
  simp only
  split <;> rfl
@[simp] theorem CS.peers_setPeer (s : CS) (v : Nat) (p : Pr) : (s.setPeer v p).peers v = p := by simp [CS.setPeer]
theorem Cd.drewN {w : World} {b : Nat} {s : CS} (h : Cd w b s) (n : Nat) : Cd (w.drewN n) b s := h
end Go.Proofs.YtcbecbalhnomcaaGreatDoor.Co
