/- The message that a coordinator sends to a vault. -/
import Derived.Test.YtcbecbalhnomcaaGreatDoorCoNew
import Derived.StillTailTactics
import Derived.Deep.RegionHeld
namespace Go.Proofs.YtcbecbalhnomcaaGreatDoor.Co
open Go.RowKit Go.Proofs.YtcbecbalhnomcaaGreatDoorW.PrintWords

/-- a message's fields -/
structure Mg where
  kind : Int
  frm : Int
  to_ : Int
  ballot : Int
  gen : Int
  basis : Int
  floor : Int
  top : Int
  read : Int
  mark : ByteArray
  at_ : Int
  of_ : Int
  text : ByteArray
  list : Value
def mcells (m : Mg) : Array Value := #[.int .i64 m.kind, .int .i64 m.frm, .int .i64 m.to_, .int .i64 m.ballot, .int .i64 m.gen, .int .i64 m.basis, .int .i64 m.floor, .int .i64 m.top, .int .i64 m.read, .string m.mark, .int .i64 m.at_, .int .i64 m.of_, .string m.text, m.list]
def Mg.bare (kind frm to_ ballot : Int) : Mg := ⟨kind, frm, to_, ballot, 0, 0, 0, 0, 0, ⟨#[]⟩, 0, 0, ⟨#[]⟩, .slice none 0 0⟩

set_option maxRecDepth 100000 in
theorem to_at (b : Nat) (s : CS) (v k : Int) (w : World) (h : Cd w b s) : Calls Tryz.prog 79 #[.pointer (some ⟨b, 0, none⟩), .int .i64 v, .int .i64 k] w fun e w' => e = .returned (.agg (mcells (Mg.bare k s.id v s.ballot))) ∧ Hid (Below w.heap.size w w') := by
  have B0 : Hid (Below w.heap.size w (w.alloc (.cells (mcells (Mg.bare 0 0 0 0)) 27))) := (Below.refl _ w).alloc (Nat.le_refl _) _
  have K0 : Hid (Blk (w.alloc (.cells (mcells (Mg.bare 0 0 0 0)) 27)) w.heap.size (mcells (Mg.bare 0 0 0 0)) 27) := Blk.new _ _ _
  have C0 : Hid (Cd (w.alloc (.cells (mcells (Mg.bare 0 0 0 0)) 27)) b s) := h.same (Below.heap_alloc _ _ _ h.lt)
  clear h
  go_enter Tryz.func79, Tryz.ntmps79
  go_upto_region 1 with (fail)
  change Code.wp _ _ _ _ (w.alloc (.cells (mcells (Mg.bare 0 0 0 0)) 27))
  generalize w.alloc (.cells (mcells (Mg.bare 0 0 0 0)) 27) = W0 at *
  generalize hg : w.heap.size = g at *
  have HG : Hid (w.heap.size = g) := hg
  clear hg
  have c0 := C0.out.c_id
  have c1 := C0.out.c_ballot
  go_still_tail 11, (by kernel_rfl)
  change wpList _ _ _ _ _ W0.drew
  have k0 : W0.cell? ⟨g, 0, none⟩ = some (.int .i64 0) := K0.out.cell 0
  have f0 : W0.frozen? ⟨g, 0, none⟩ = false := K0.out.free 0
  have k1 : W0.cell? ⟨g, 1, none⟩ = some (.int .i64 0) := K0.out.cell 1
  have f1 : W0.frozen? ⟨g, 1, none⟩ = false := K0.out.free 1
  have k2 : W0.cell? ⟨g, 2, none⟩ = some (.int .i64 0) := K0.out.cell 2
  have f2 : W0.frozen? ⟨g, 2, none⟩ = false := K0.out.free 2
  have k3 : W0.cell? ⟨g, 3, none⟩ = some (.int .i64 0) := K0.out.cell 3
  have f3 : W0.frozen? ⟨g, 3, none⟩ = false := K0.out.free 3
  have k4 : W0.cell? ⟨g, 4, none⟩ = some (.int .i64 0) := K0.out.cell 4
  have f4 : W0.frozen? ⟨g, 4, none⟩ = false := K0.out.free 4
  have k5 : W0.cell? ⟨g, 5, none⟩ = some (.int .i64 0) := K0.out.cell 5
  have f5 : W0.frozen? ⟨g, 5, none⟩ = false := K0.out.free 5
  have k6 : W0.cell? ⟨g, 6, none⟩ = some (.int .i64 0) := K0.out.cell 6
  have f6 : W0.frozen? ⟨g, 6, none⟩ = false := K0.out.free 6
  have k7 : W0.cell? ⟨g, 7, none⟩ = some (.int .i64 0) := K0.out.cell 7
  have f7 : W0.frozen? ⟨g, 7, none⟩ = false := K0.out.free 7
  have k8 : W0.cell? ⟨g, 8, none⟩ = some (.int .i64 0) := K0.out.cell 8
  have f8 : W0.frozen? ⟨g, 8, none⟩ = false := K0.out.free 8
  have k9 : W0.cell? ⟨g, 9, none⟩ = some (.string ⟨#[]⟩) := K0.out.cell 9
  have f9 : W0.frozen? ⟨g, 9, none⟩ = false := K0.out.free 9
  have k10 : W0.cell? ⟨g, 10, none⟩ = some (.int .i64 0) := K0.out.cell 10
  have f10 : W0.frozen? ⟨g, 10, none⟩ = false := K0.out.free 10
  have k11 : W0.cell? ⟨g, 11, none⟩ = some (.int .i64 0) := K0.out.cell 11
  have f11 : W0.frozen? ⟨g, 11, none⟩ = false := K0.out.free 11
  have k12 : W0.cell? ⟨g, 12, none⟩ = some (.string ⟨#[]⟩) := K0.out.cell 12
  have f12 : W0.frozen? ⟨g, 12, none⟩ = false := K0.out.free 12
  have k13 : W0.cell? ⟨g, 13, none⟩ = some (.slice none 0 0) := K0.out.cell 13
  have f13 : W0.frozen? ⟨g, 13, none⟩ = false := K0.out.free 13
  go_wp2
  exact bodyPost_ret (v := .agg (mcells (Mg.bare k s.id v s.ballot))) (by simp [results, Tryz.results79, go_sem, mcells, Mg.bare, *]) rfl ⟨rfl, by (rw [HG.out]; refine Below.drew ?_; (iterate 14 (refine bset ?_ (Nat.le_refl _) _)); exact B0.out)⟩
end Go.Proofs.YtcbecbalhnomcaaGreatDoor.Co
