/- How far a vault is: what a coordinator takes in. -/
import Derived.Test.YtcbecbalhnomcaaGreatDoorCoRows
namespace Go.Proofs.YtcbecbalhnomcaaGreatDoor.Co
open Go.RowKit Go.Proofs.YtcbecbalhnomcaaGreatDoorW.PrintWords

def Pr.far (p : Pr) (fl tp : Int) : Pr :=
  let q := if !p.told || decide (tp > p.top) then { p with top := tp, pack := none, whole := false } else p
  { q with told := true, floor := max q.floor fl }

set_option maxHeartbeats 1000000 in
set_option maxRecDepth 100000 in
theorem far_at (b : Nat) (s : CS) (m : Mg) (v : Nat) (w : World) (h : Cd w b s) (hv : v < 9) (hf : m.frm = v) :
    Calls Tryz.prog 40 #[.pointer (some ⟨b, 0, none⟩), .agg (mcells m)] w fun e w' => e = .returned (.tuple #[]) ∧ Hid (Cd w' b (s.setPeer v ((s.peers v).far m.floor m.top)) ∧ Mod (· = b) w w') := by
  have B0 : Hid (Mod (· = b) w (w.alloc (.cells (mcells m) 27))) := (Mod.refl _ w).alloc _
  have MB : Hid (Blk (w.alloc (.cells (mcells m) 27)) w.heap.size (mcells m) 27) := Blk.new _ _ _
  have C0 : Hid (Cd (w.alloc (.cells (mcells m) 27)) b s) := h.same (Below.heap_alloc _ _ _ h.lt)
  have NE : Hid (w.heap.size ≠ b) := fun e => by have := h.lt; omega
  clear h
  go_enter Tryz.func40, Tryz.ntmps40
  go_upto_region 1 with (fail)
  change Code.wp _ _ _ _ (w.alloc (.cells (mcells m) 27))
  generalize w.alloc (.cells (mcells m) 27) = W0 at *
  generalize w.heap.size = g at *
  have m1 : W0.cell? ⟨g, 1, none⟩ = some (.int .i64 v) := by rw [← hf]; exact MB.out.cell 1
  have m6 : W0.cell? ⟨g, 6, none⟩ = some (.int .i64 m.floor) := MB.out.cell 6
  have m7 : W0.cell? ⟨g, 7, none⟩ = some (.int .i64 m.top) := MB.out.cell 7
  have hv1 : (v : Int) < 9 := by omega
  have hv0 : 0 ≤ (v : Int) := by omega
  clear hf
  go_quiet (fail)
  have p0 := C0.out.p_told v hv
  have p1 := C0.out.p_floor v hv
  have p2 := C0.out.p_top v hv
  have p5 := C0.out.p_whole v hv
  have p7 := C0.out.p_pack v hv
  have f0 := C0.out.free (12 + v * 8)
  have f1 := C0.out.free (12 + v * 8 + 1)
  have f2 := C0.out.free (12 + v * 8 + 2)
  have f5 := C0.out.free (12 + v * 8 + 5)
  have f7 := C0.out.free (12 + v * 8 + 7)
  obtain ⟨q, hq⟩ : ∃ q, s.peers v = q := ⟨_, rfl⟩
  rw [hq] at p0 p1 p2 p5 p7
  have HQ : Hid (s.peers v = q) := hq
  clear hq
  obtain ⟨told, fl, tp, has, mk, whole, cursor, pack⟩ := q
  simp only at p0 p1 p2 p5 p7
  cases told
  · go_wp2
    go_quiet (fail)
    go_upto_region 5 with (fail)
    rename_i n1
    generalize hn : (n1 + nq) = n2
    have C1 : Hid (Cd (((((W0.drewN n2).setCell ⟨b, 12 + v * 8 + 2, none⟩ (.int .i64 m.top)).setCell ⟨b, 12 + v * 8 + 7, none⟩ (.pointer none)).setCell ⟨b, 12 + v * 8 + 5, none⟩ (.bool false)).setCell ⟨b, 12 + v * 8, none⟩ (.bool true)) b (s.setPeer v ⟨true, fl, m.top, has, mk, false, cursor, none⟩)) := by
      have := ((((C0.out.drewN n2).t_top v hv m.top).t_pack v hv none).t_whole v hv false).t_told v hv true
      show Cd _ _ _
      simpa [HQ.out] using this
    have M1 : Hid (Mod (· = b) W0 (((((W0.drewN n2).setCell ⟨b, 12 + v * 8 + 2, none⟩ (.int .i64 m.top)).setCell ⟨b, 12 + v * 8 + 7, none⟩ (.pointer none)).setCell ⟨b, 12 + v * 8 + 5, none⟩ (.bool false)).setCell ⟨b, 12 + v * 8, none⟩ (.bool true))) := by (show Mod _ _ _; repeat (first | refine Mod.put ?_ _ | exact (Mod.refl _ _).drewN _))
    have g1 : (((((W0.drewN n2).setCell ⟨b, 12 + v * 8 + 2, none⟩ (.int .i64 m.top)).setCell ⟨b, 12 + v * 8 + 7, none⟩ (.pointer none)).setCell ⟨b, 12 + v * 8 + 5, none⟩ (.bool false)).setCell ⟨b, 12 + v * 8, none⟩ (.bool true)).cell? ⟨g, 6, none⟩ = some (.int .i64 m.floor) := by (have := NE.out; simp [World.cell?_setCell_far, this.symm, m6])
    change Code.wp _ _ _ _ (((((W0.drewN n2).setCell ⟨b, 12 + v * 8 + 2, none⟩ (.int .i64 m.top)).setCell ⟨b, 12 + v * 8 + 7, none⟩ (.pointer none)).setCell ⟨b, 12 + v * 8 + 5, none⟩ (.bool false)).setCell ⟨b, 12 + v * 8, none⟩ (.bool true))
    generalize ((((W0.drewN n2).setCell ⟨b, 12 + v * 8 + 2, none⟩ (.int .i64 m.top)).setCell ⟨b, 12 + v * 8 + 7, none⟩ (.pointer none)).setCell ⟨b, 12 + v * 8 + 5, none⟩ (.bool false)).setCell ⟨b, 12 + v * 8, none⟩ (.bool true) = W1 at *
    have q1 := C1.out.p_floor v hv
    have e1 := C1.out.free (12 + v * 8 + 1)
    simp only [CS.peers_setPeer] at q1
    clear p0 p1 p2 p5 p7 f0 f1 f2 f5 f7 m1 m6 m7
    go_still_tail 10, (by kernel_rfl)
    change wpList _ _ _ _ _ W1.drew
    go_wp2
    all_goals
      go_end0
      refine ⟨rfl, ?_, ((B0.out.trans M1.out).drew).put _⟩
      have hfin := (C1.out.drewN 1).t_floor v hv (max fl m.floor)
      rw [CS.setPeer_twice, CS.peers_setPeer] at hfin
      have hF : (s.peers v).far m.floor m.top = ⟨true, max fl m.floor, m.top, has, mk, false, cursor, none⟩ := by rw [HQ.out]; simp [Pr.far]
      rw [hF]
      first
        | (rw [show max fl m.floor = m.floor from by omega] at hfin ⊢; exact hfin)
        | (rw [show max fl m.floor = fl from by omega] at hfin ⊢; exact hfin)
  · by_cases hgt : m.top > tp
    · go_wp2
      go_quiet (fail)
      go_upto_region 5 with (fail)
      rename_i n1
      generalize hn : (n1 + nq) = n2
      have C1 : Hid (Cd (((((W0.drewN n2).setCell ⟨b, 12 + v * 8 + 2, none⟩ (.int .i64 m.top)).setCell ⟨b, 12 + v * 8 + 7, none⟩ (.pointer none)).setCell ⟨b, 12 + v * 8 + 5, none⟩ (.bool false)).setCell ⟨b, 12 + v * 8, none⟩ (.bool true)) b (s.setPeer v ⟨true, fl, m.top, has, mk, false, cursor, none⟩)) := by
        have := ((((C0.out.drewN n2).t_top v hv m.top).t_pack v hv none).t_whole v hv false).t_told v hv true
        show Cd _ _ _
        simpa [HQ.out] using this
      have M1 : Hid (Mod (· = b) W0 (((((W0.drewN n2).setCell ⟨b, 12 + v * 8 + 2, none⟩ (.int .i64 m.top)).setCell ⟨b, 12 + v * 8 + 7, none⟩ (.pointer none)).setCell ⟨b, 12 + v * 8 + 5, none⟩ (.bool false)).setCell ⟨b, 12 + v * 8, none⟩ (.bool true))) := by (show Mod _ _ _; repeat (first | refine Mod.put ?_ _ | exact (Mod.refl _ _).drewN _))
      have g1 : (((((W0.drewN n2).setCell ⟨b, 12 + v * 8 + 2, none⟩ (.int .i64 m.top)).setCell ⟨b, 12 + v * 8 + 7, none⟩ (.pointer none)).setCell ⟨b, 12 + v * 8 + 5, none⟩ (.bool false)).setCell ⟨b, 12 + v * 8, none⟩ (.bool true)).cell? ⟨g, 6, none⟩ = some (.int .i64 m.floor) := by (have := NE.out; simp [World.cell?_setCell_far, this.symm, m6])
      change Code.wp _ _ _ _ (((((W0.drewN n2).setCell ⟨b, 12 + v * 8 + 2, none⟩ (.int .i64 m.top)).setCell ⟨b, 12 + v * 8 + 7, none⟩ (.pointer none)).setCell ⟨b, 12 + v * 8 + 5, none⟩ (.bool false)).setCell ⟨b, 12 + v * 8, none⟩ (.bool true))
      generalize ((((W0.drewN n2).setCell ⟨b, 12 + v * 8 + 2, none⟩ (.int .i64 m.top)).setCell ⟨b, 12 + v * 8 + 7, none⟩ (.pointer none)).setCell ⟨b, 12 + v * 8 + 5, none⟩ (.bool false)).setCell ⟨b, 12 + v * 8, none⟩ (.bool true) = W1 at *
      have q1 := C1.out.p_floor v hv
      have e1 := C1.out.free (12 + v * 8 + 1)
      simp only [CS.peers_setPeer] at q1
      clear p0 p1 p2 p5 p7 f0 f1 f2 f5 f7 m1 m6 m7
      go_still_tail 10, (by kernel_rfl)
      change wpList _ _ _ _ _ W1.drew
      go_wp2
      all_goals
        go_end0
        refine ⟨rfl, ?_, ((B0.out.trans M1.out).drew).put _⟩
        have hfin := (C1.out.drewN 1).t_floor v hv (max fl m.floor)
        rw [CS.setPeer_twice, CS.peers_setPeer] at hfin
        have hF : (s.peers v).far m.floor m.top = ⟨true, max fl m.floor, m.top, has, mk, false, cursor, none⟩ := by rw [HQ.out]; simp [Pr.far, hgt]
        rw [hF]
        first
          | (rw [show max fl m.floor = m.floor from by omega] at hfin ⊢; exact hfin)
          | (rw [show max fl m.floor = fl from by omega] at hfin ⊢; exact hfin)
    · have hgt' : decide (m.top > tp) = false := decide_eq_false hgt
      go_wp2
      go_quiet (fail)
      go_upto_region 5 with (fail)
      rename_i n1
      generalize hn : (n1 + nq) = n2
      have C1 : Hid (Cd ((W0.drewN n2).setCell ⟨b, 12 + v * 8, none⟩ (.bool true)) b (s.setPeer v ⟨true, fl, tp, has, mk, whole, cursor, pack⟩)) := by
        have := (C0.out.drewN n2).t_told v hv true
        show Cd _ _ _
        simpa [HQ.out] using this
      have M1 : Hid (Mod (· = b) W0 ((W0.drewN n2).setCell ⟨b, 12 + v * 8, none⟩ (.bool true))) := by (show Mod _ _ _; repeat (first | refine Mod.put ?_ _ | exact (Mod.refl _ _).drewN _))
      have g1 : ((W0.drewN n2).setCell ⟨b, 12 + v * 8, none⟩ (.bool true)).cell? ⟨g, 6, none⟩ = some (.int .i64 m.floor) := by (have := NE.out; simp [World.cell?_setCell_far, this.symm, m6])
      change Code.wp _ _ _ _ ((W0.drewN n2).setCell ⟨b, 12 + v * 8, none⟩ (.bool true))
      generalize (W0.drewN n2).setCell ⟨b, 12 + v * 8, none⟩ (.bool true) = W1 at *
      have q1 := C1.out.p_floor v hv
      have e1 := C1.out.free (12 + v * 8 + 1)
      simp only [CS.peers_setPeer] at q1
      clear p0 p1 p2 p5 p7 f0 f1 f2 f5 f7 m1 m6 m7
      go_still_tail 10, (by kernel_rfl)
      change wpList _ _ _ _ _ W1.drew
      go_wp2
      all_goals
        go_end0
        refine ⟨rfl, ?_, ((B0.out.trans M1.out).drew).put _⟩
        have hfin := (C1.out.drewN 1).t_floor v hv (max fl m.floor)
        rw [CS.setPeer_twice, CS.peers_setPeer] at hfin
        have hF : (s.peers v).far m.floor m.top = ⟨true, max fl m.floor, tp, has, mk, whole, cursor, pack⟩ := by rw [HQ.out]; simp [Pr.far, show ¬ (tp < m.top) from by omega]
        rw [hF]
        first
          | (rw [show max fl m.floor = m.floor from by omega] at hfin ⊢; exact hfin)
          | (rw [show max fl m.floor = fl from by omega] at hfin ⊢; exact hfin)
end Go.Proofs.YtcbecbalhnomcaaGreatDoor.Co
