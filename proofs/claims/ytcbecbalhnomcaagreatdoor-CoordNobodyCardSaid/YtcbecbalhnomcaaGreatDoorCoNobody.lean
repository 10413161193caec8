/- The law on a coordinator that nobody made. -/
import Derived.Test.YtcbecbalhnomcaaGreatDoorCoAwake
import Derived.Test.YtcbecbalhnomcaaGreatDoorCoOpen
namespace Go.Proofs.YtcbecbalhnomcaaGreatDoor.Co
open Go.RowKit Go.Proofs.YtcbecbalhnomcaaGreatDoorW.PrintWords

set_option maxHeartbeats 1000000 in
theorem nobody_law (k g : Int) (fs : Value) (m : Mg) (w : World) : Calls Tryz.prog 4 #[.agg (kcells k g fs), .agg (mcells m)] w fun e w' => e = .returned (.bool true) ∧ Below w.heap.size w w' := by
  have B0 : Hid (Below w.heap.size w ((w.alloc (.cells (kcells k g fs) 30)).alloc (.cells (mcells m) 27))) := ((Below.refl _ w).alloc (Nat.le_refl _) _).alloc (by simp) _
  have KB : Hid (Blk ((w.alloc (.cells (kcells k g fs) 30)).alloc (.cells (mcells m) 27)) w.heap.size (kcells k g fs) 30) := (Blk.new w _ _).same (Below.heap_alloc _ _ _ (by simp))
  have MB : Hid (Blk ((w.alloc (.cells (kcells k g fs) 30)).alloc (.cells (mcells m) 27)) (w.heap.size + 1) (mcells m) 27) := by
    have := Blk.new (w.alloc (.cells (kcells k g fs) 30)) (mcells m) 27
    rw [show (w.alloc (.cells (kcells k g fs) 30)).heap.size = w.heap.size + 1 from by simp] at this
    exact this
  have hm := fun W => handle_nil m W
  have hk := fun W => ask_nil k g fs W
  unfold mcells at hm
  unfold kcells at hk
  go_enter Tryz.func4, Tryz.ntmps4
  go_upto_region 1 with (fail)
  change Code.wp _ _ _ _ ((w.alloc (.cells (kcells k g fs) 30)).alloc (.cells (mcells m) 27))
  generalize (w.alloc (.cells (kcells k g fs) 30)).alloc (.cells (mcells m) 27) = W0 at *
  generalize hg : w.heap.size = g0 at *
  have HG : Hid (w.heap.size = g0) := hg
  clear hg
  have k0 : W0.cell? ⟨g0, 0, none⟩ = some (.int .i64 k) := KB.out.cell 0
  have k1 : W0.cell? ⟨g0, 1, none⟩ = some (.int .i64 g) := KB.out.cell 1
  have k2 : W0.cell? ⟨g0, 2, none⟩ = some fs := KB.out.cell 2
  have m0 : W0.cell? ⟨g0 + 1, 0, none⟩ = some (.int .i64 m.kind) := MB.out.cell 0
  have m1 : W0.cell? ⟨g0 + 1, 1, none⟩ = some (.int .i64 m.frm) := MB.out.cell 1
  have m2 : W0.cell? ⟨g0 + 1, 2, none⟩ = some (.int .i64 m.to_) := MB.out.cell 2
  have m3 : W0.cell? ⟨g0 + 1, 3, none⟩ = some (.int .i64 m.ballot) := MB.out.cell 3
  have m4 : W0.cell? ⟨g0 + 1, 4, none⟩ = some (.int .i64 m.gen) := MB.out.cell 4
  have m5 : W0.cell? ⟨g0 + 1, 5, none⟩ = some (.int .i64 m.basis) := MB.out.cell 5
  have m6 : W0.cell? ⟨g0 + 1, 6, none⟩ = some (.int .i64 m.floor) := MB.out.cell 6
  have m7 : W0.cell? ⟨g0 + 1, 7, none⟩ = some (.int .i64 m.top) := MB.out.cell 7
  have m8 : W0.cell? ⟨g0 + 1, 8, none⟩ = some (.int .i64 m.read) := MB.out.cell 8
  have m9 : W0.cell? ⟨g0 + 1, 9, none⟩ = some (.string m.mark) := MB.out.cell 9
  have m10 : W0.cell? ⟨g0 + 1, 10, none⟩ = some (.int .i64 m.at_) := MB.out.cell 10
  have m11 : W0.cell? ⟨g0 + 1, 11, none⟩ = some (.int .i64 m.of_) := MB.out.cell 11
  have m12 : W0.cell? ⟨g0 + 1, 12, none⟩ = some (.string m.text) := MB.out.cell 12
  have m13 : W0.cell? ⟨g0 + 1, 13, none⟩ = some m.list := MB.out.cell 13
  go_upto_region 3 with (go_at_call 17; (with_reducible refine (hm _).mono ?_); rintro e w1 ⟨rfl, h1⟩)
  clear k0 k1 k2 m0 m1 m2 m3 m4 m5 m6 m7 m8 m9 m10 m11 m12 m13
  have K1 : Hid (Blk w1 g0 (kcells k g fs) 30) := KB.out.same (h1.out.block g0 KB.out.lt)
  go_wp2_with (first
    | (go_at_call 16; (with_reducible refine (take_nil _).mono ?_); rintro e w2 ⟨rfl, h2⟩
       have K2 : Hid (Blk w2 g0 (kcells k g fs) 30) := K1.out.same (h2.out.block g0 K1.out.lt)
       have l2 : g0 < w2.heap.size := K2.out.lt
       have k0 : w2.cell? ⟨g0, 0, none⟩ = some (.int .i64 k) := K2.out.cell 0
       have k1 : w2.cell? ⟨g0, 1, none⟩ = some (.int .i64 g) := K2.out.cell 1
       have k2 : w2.cell? ⟨g0, 2, none⟩ = some fs := K2.out.cell 2
       unfold acells)
    | (go_at_call 23; (with_reducible refine (known_nil _).mono ?_); rintro e w' ⟨rfl, rfl⟩)
    | (go_at_call 14; (with_reducible refine (hk _).mono ?_); rintro e w3 ⟨rfl, h3⟩
       have y0 : w3.cell? ⟨w2.heap.size, 0, none⟩ = some (.int .i64 0) := (h3.out.cell (p := ⟨w2.heap.size, 0, none⟩) (by simp)).trans (Blk.cell (Blk.new w2 _ _) 0)
       clear k0 k1 k2)
    | (go_at_call 21; (with_reducible refine (tick_nil _).mono ?_); rintro e w' ⟨rfl, rfl⟩)
    | (go_at_call 18; (with_reducible refine (ballot_nil _).mono ?_); rintro e w' ⟨rfl, rfl⟩)
    | (go_at_call 22; (with_reducible refine (leads_nil _).mono ?_); rintro e w' ⟨rfl, rfl⟩)
    | (go_at_call 19; (with_reducible refine (off_nil _).mono ?_); rintro e w' ⟨rfl, rfl⟩)
    | (go_at_call 20; (with_reducible refine (awake_calls _).mono ?_); rintro e w4 ⟨rfl, h4⟩))
  go_ret
  refine ⟨rfl, ?_⟩
  rw [HG.out]
  have s1 := h1.out.size
  have s2 := h2.out.size
  have s3 := h3.out.size
  have s0 : g0 ≤ W0.heap.size := Nat.le_of_lt KB.out.lt
  have t3 : w2.heap.size ≤ w3.heap.size := Nat.le_trans (by simp) s3
  exact (((B0.out.trans (h1.out.mono s0)).trans (h2.out.mono (by omega))).trans (((Below.refl _ w2).alloc (Nat.le_refl _) _).trans (h3.out.mono (by simp)) |>.mono (by omega))).trans (h4.out.mono (by omega))
theorem nobody_row (z0 : Int × Int × Value × List Fi) (z1 : Mg × List En) (w : World) (_ : KC w z0.1 z0.2.1 z0.2.2.1 z0.2.2.2) (_ : MC w z1.1 z1.2) :
    Calls Tryz.prog 4 #[.agg (kcells z0.1 z0.2.1 z0.2.2.1), .agg (mcells z1.1)] w fun e w' => e = .returned (.bool true) ∧ Below w.heap.size w w' := nobody_law _ _ _ _ w
end Go.Proofs.YtcbecbalhnomcaaGreatDoor.Co
