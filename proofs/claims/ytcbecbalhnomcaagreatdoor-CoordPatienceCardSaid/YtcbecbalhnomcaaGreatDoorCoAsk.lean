/- A call is asked; ticks go on with one; its answer is taken. -/
import Derived.Test.YtcbecbalhnomcaaGreatDoorCoCall
namespace Go.Proofs.YtcbecbalhnomcaaGreatDoor.Co
open Go.RowKit Go.Proofs.YtcbecbalhnomcaaGreatDoorW.PrintWords

set_option maxHeartbeats 1000000 in
theorem take_yes (b ab : Nat) (s : CS) (e g f : Int) (A1 A2 : Option Addr) (n1 c1 n2 c2 : Nat) (w : World) (h : Cd w b s) (hn : s.n ≠ 0) (ha : s.answer = some ab) (hA : Blk w ab (acells e g f (.slice A1 n1 c1) (.slice A2 n2 c2)) 47) :
    Calls Tryz.prog 16 #[.pointer (some ⟨b, 0, none⟩)] w fun e' w' => e' = .returned (.tuple #[.agg (acells e g f (.slice A1 n1 c1) (.slice A2 n2 c2)), .bool true]) ∧ Hid (Cd w' b { s with answer := none } ∧ Mod (· = b) w w') := by
  have hz : ∀ W, Hid (Below W.heap.size W (W.alloc (.cells (acells 0 0 0 (.slice none 0 0) (.slice none 0 0)) 47))) := fun W => (Below.refl _ W).alloc (Nat.le_refl _) _
  have C0 : Hid (Cd (w.alloc (.cells (acells 0 0 0 (.slice none 0 0) (.slice none 0 0)) 47)) b s) := h.same (Below.heap_alloc _ _ _ h.lt)
  have A0 : Hid (Blk (w.alloc (.cells (acells 0 0 0 (.slice none 0 0) (.slice none 0 0)) 47)) ab (acells e g f (.slice A1 n1 c1) (.slice A2 n2 c2)) 47) := hA.same (Below.heap_alloc _ _ _ hA.lt)
  have R0 : Hid (Blk (w.alloc (.cells (acells 0 0 0 (.slice none 0 0) (.slice none 0 0)) 47)) w.heap.size (acells 0 0 0 (.slice none 0 0) (.slice none 0 0)) 47) := Blk.new w _ _
  have M0 : Hid (Mod (· = b) w (w.alloc (.cells (acells 0 0 0 (.slice none 0 0) (.slice none 0 0)) 47))) := (Mod.refl _ w).alloc _
  have NE : Hid (w.heap.size ≠ b) := fun e => by have := h.lt; omega
  have hnn := fun W (hC : Cd W b s) => none_at b s W hC hn
  have HA : Hid (s.answer = some ab) := ha
  clear h hA ha hn
  go_enter Tryz.func16, Tryz.ntmps16
  go_upto_region 1 with (fail)
  change Code.wp _ _ _ _ (w.alloc (.cells (acells 0 0 0 (.slice none 0 0) (.slice none 0 0)) 47))
  generalize w.alloc (.cells (acells 0 0 0 (.slice none 0 0) (.slice none 0 0)) 47) = W0 at *
  generalize hgg : w.heap.size = r0 at *
  have HG : Hid (w.heap.size ≤ r0) := by show _ ≤ _; omega
  clear hgg
  have c91 := C0.out.c_answer
  rw [HA.out, ptr_some] at c91
  have a0 : W0.cell? ⟨ab, 0, none⟩ = some (.int .i64 e) := A0.out.cell 0
  have a1 : W0.cell? ⟨ab, 1, none⟩ = some (.int .i64 g) := A0.out.cell 1
  have a2 : W0.cell? ⟨ab, 2, none⟩ = some (.int .i64 f) := A0.out.cell 2
  have a3 : W0.cell? ⟨ab, 3, none⟩ = some (.slice A1 n1 c1) := A0.out.cell 3
  have a4 : W0.cell? ⟨ab, 4, none⟩ = some (.slice A2 n2 c2) := A0.out.cell 4
  have hnn := hnn W0 C0.out
  go_upto_region 4 with (go_at_call 33; (with_reducible refine hnn.mono ?_); rintro e' w' ⟨rfl, rfl⟩)
  have B1 : Hid (Below W0.heap.size W0 (W0.alloc (.cells (acells e g f (.slice A1 n1 c1) (.slice A2 n2 c2)) 47))) := (Below.refl _ W0).alloc (Nat.le_refl _) _
  have L1 : Hid (Blk (W0.alloc (.cells (acells e g f (.slice A1 n1 c1) (.slice A2 n2 c2)) 47)) W0.heap.size (acells e g f (.slice A1 n1 c1) (.slice A2 n2 c2)) 47) := Blk.new W0 _ _
  have C1 : Hid (Cd (W0.alloc (.cells (acells e g f (.slice A1 n1 c1) (.slice A2 n2 c2)) 47)) b s) := C0.out.same (B1.out.block b C0.out.lt)
  have R1 : Hid (Blk (W0.alloc (.cells (acells e g f (.slice A1 n1 c1) (.slice A2 n2 c2)) 47)) r0 (acells 0 0 0 (.slice none 0 0) (.slice none 0 0)) 47) := R0.out.same (B1.out.block r0 R0.out.lt)
  have M1 : Hid (Mod (· = b) w (W0.alloc (.cells (acells e g f (.slice A1 n1 c1) (.slice A2 n2 c2)) 47))) := M0.out.alloc _
  have N1 : Hid (W0.heap.size ≠ b ∧ W0.heap.size ≠ r0) := ⟨fun x => by have := C0.out.lt; omega, fun x => by have := R0.out.lt; omega⟩
  clear c91 a0 a1 a2 a3 a4 hnn B1 hz
  change Code.wp _ _ _ _ (W0.alloc (.cells (acells e g f (.slice A1 n1 c1) (.slice A2 n2 c2)) 47))
  generalize W0.alloc (.cells (acells e g f (.slice A1 n1 c1) (.slice A2 n2 c2)) 47) = W1 at *
  generalize W0.heap.size = l0 at *
  have c91 := C1.out.c_answer
  rw [HA.out, ptr_some] at c91
  have f91 := C1.out.free 91
  go_upto_region 5 with (fail)
  have hk : ∀ k, k ≠ b → (W1.setCell ⟨b, 91, none⟩ (.pointer none)).heap[k]? = W1.heap[k]? := fun _ h => Below.heap_setCell _ _ _ _ h
  have C2 : Hid (Cd (W1.setCell ⟨b, 91, none⟩ (.pointer none)) b { s with answer := none }) := C1.out.s_answer none
  have L2 : Hid (Blk (W1.setCell ⟨b, 91, none⟩ (.pointer none)) l0 (acells e g f (.slice A1 n1 c1) (.slice A2 n2 c2)) 47) := L1.out.same (hk _ N1.out.1)
  have R2 : Hid (Blk (W1.setCell ⟨b, 91, none⟩ (.pointer none)) r0 (acells 0 0 0 (.slice none 0 0) (.slice none 0 0)) 47) := R1.out.same (hk _ NE.out)
  have M2 : Hid (Mod (· = b) w (W1.setCell ⟨b, 91, none⟩ (.pointer none))) := M1.out.put _
  clear c91 f91 hk
  generalize W1.setCell ⟨b, 91, none⟩ (.pointer none) = W2 at *
  have a0 : W2.cell? ⟨l0, 0, none⟩ = some (.int .i64 e) := L2.out.cell 0
  have a1 : W2.cell? ⟨l0, 1, none⟩ = some (.int .i64 g) := L2.out.cell 1
  have a2 : W2.cell? ⟨l0, 2, none⟩ = some (.int .i64 f) := L2.out.cell 2
  have a3 : W2.cell? ⟨l0, 3, none⟩ = some (.slice A1 n1 c1) := L2.out.cell 3
  have a4 : W2.cell? ⟨l0, 4, none⟩ = some (.slice A2 n2 c2) := L2.out.cell 4
  have r0' : W2.cell? ⟨r0, 0, none⟩ = some (.int .i64 0) := R2.out.cell 0
  have r1' : W2.cell? ⟨r0, 1, none⟩ = some (.int .i64 0) := R2.out.cell 1
  have r2' : W2.cell? ⟨r0, 2, none⟩ = some (.int .i64 0) := R2.out.cell 2
  have r3' : W2.cell? ⟨r0, 3, none⟩ = some (.slice none 0 0) := R2.out.cell 3
  have r4' : W2.cell? ⟨r0, 4, none⟩ = some (.slice none 0 0) := R2.out.cell 4
  have g0 := R2.out.free 0
  have g1 := R2.out.free 1
  have g2 := R2.out.free 2
  have g3 := R2.out.free 3
  have g4 := R2.out.free 4
  go_wp2
  have R3 : Hid (Blk (((((W2.setCell ⟨r0, 0, none⟩ (.int .i64 e)).setCell ⟨r0, 1, none⟩ (.int .i64 g)).setCell ⟨r0, 2, none⟩ (.int .i64 f)).setCell ⟨r0, 3, none⟩ (.slice A1 n1 c1)).setCell ⟨r0, 4, none⟩ (.slice A2 n2 c2)) r0 (acells e g f (.slice A1 n1 c1) (.slice A2 n2 c2)) 47) := ((((R2.out.set 0 _).set 1 _).set 2 _).set 3 _).set 4 _
  have hk : ∀ (w' : World) i v, (w'.setCell ⟨r0, i, none⟩ v).heap[b]? = w'.heap[b]? := fun _ _ _ => Below.heap_setCell _ _ _ _ (fun x => NE.out x.symm)
  have C3 : Hid (Cd (((((W2.setCell ⟨r0, 0, none⟩ (.int .i64 e)).setCell ⟨r0, 1, none⟩ (.int .i64 g)).setCell ⟨r0, 2, none⟩ (.int .i64 f)).setCell ⟨r0, 3, none⟩ (.slice A1 n1 c1)).setCell ⟨r0, 4, none⟩ (.slice A2 n2 c2)) b { s with answer := none }) := C2.out.same ((hk _ _ _).trans ((hk _ _ _).trans ((hk _ _ _).trans ((hk _ _ _).trans (hk _ _ _)))))
  have M3 : Hid (Mod (· = b) w (((((W2.setCell ⟨r0, 0, none⟩ (.int .i64 e)).setCell ⟨r0, 1, none⟩ (.int .i64 g)).setCell ⟨r0, 2, none⟩ (.int .i64 f)).setCell ⟨r0, 3, none⟩ (.slice A1 n1 c1)).setCell ⟨r0, 4, none⟩ (.slice A2 n2 c2))) := ((((M2.out.setNew (p := ⟨r0, 0, none⟩) HG.out _).setNew (p := ⟨r0, 1, none⟩) HG.out _).setNew (p := ⟨r0, 2, none⟩) HG.out _).setNew (p := ⟨r0, 3, none⟩) HG.out _).setNew (p := ⟨r0, 4, none⟩) HG.out _
  change bodyPost _ _ _ _ _ (((((W2.setCell ⟨r0, 0, none⟩ (.int .i64 e)).setCell ⟨r0, 1, none⟩ (.int .i64 g)).setCell ⟨r0, 2, none⟩ (.int .i64 f)).setCell ⟨r0, 3, none⟩ (.slice A1 n1 c1)).setCell ⟨r0, 4, none⟩ (.slice A2 n2 c2))
  generalize (((((W2.setCell ⟨r0, 0, none⟩ (.int .i64 e)).setCell ⟨r0, 1, none⟩ (.int .i64 g)).setCell ⟨r0, 2, none⟩ (.int .i64 f)).setCell ⟨r0, 3, none⟩ (.slice A1 n1 c1)).setCell ⟨r0, 4, none⟩ (.slice A2 n2 c2)) = W3 at *
  clear hk r0' r1' r2' r3' r4' a0 a1 a2 a3 a4 g0 g1 g2 g3 g4
  have q0 : W3.cell? ⟨r0, 0, none⟩ = some (.int .i64 e) := R3.out.cell 0
  have q1 : W3.cell? ⟨r0, 1, none⟩ = some (.int .i64 g) := R3.out.cell 1
  have q2 : W3.cell? ⟨r0, 2, none⟩ = some (.int .i64 f) := R3.out.cell 2
  have q3 : W3.cell? ⟨r0, 3, none⟩ = some (.slice A1 n1 c1) := R3.out.cell 3
  have q4 : W3.cell? ⟨r0, 4, none⟩ = some (.slice A2 n2 c2) := R3.out.cell 4
  exact bodyPost_ret (v := .tuple #[.agg (acells e g f (.slice A1 n1 c1) (.slice A2 n2 c2)), .bool true]) (by simp [results, Tryz.results16, go_sem, acells, q0, q1, q2, q3, q4]) rfl ⟨rfl, C3.out, M3.out⟩

def CS.tick (s : CS) : CS := { s with left := s.left - 1 }
set_option maxHeartbeats 1000000 in
theorem tick_wait (b t n kb : Nat) (S : Nat → Bool) (s : CS) (w : World) (h : Cd w b s) (hp : s.promised = some t) (tal : Tal w t n S) (hn : s.n = n) (h0 : n ≠ 0) (hph : s.phase = 1) (hcall : s.call = some kb) (hl : 1 < s.left) (hl2 : s.left ≤ 1000) :
    Calls Tryz.prog 21 #[.pointer (some ⟨b, 0, none⟩)] w fun e w' => ∃ v, e = .returned v ∧ Hid (Cd w' b s.tick ∧ Mod (· = b) w w') := by
  have hno := none_at b s w h (by omega)
  have C1 : Hid (Cd (w.setCell ⟨b, 87, none⟩ (.int .i64 (s.left - 1))) b s.tick) := h.s_left _
  have M1 : Hid (Mod (· = b) w (w.setCell ⟨b, 87, none⟩ (.int .i64 (s.left - 1)))) := (Mod.refl _ w).put _
  have T1 : Tal (w.setCell ⟨b, 87, none⟩ (.int .i64 (s.left - 1))) t n S := tal.same (Below.heap_setCell _ _ _ _ (Blk.ne tal.blk h (by decide)))
  have hprep := prepare_at b t n S s.tick _ C1.out hp T1 hn
  have h1 := h.c_phase
  rw [hph] at h1
  have h2 := h.c_call
  rw [hcall, ptr_some] at h2
  have h3 := h.c_left
  have f3 := h.free 87
  have i1 : wrap64 (s.left - 1) = s.left - 1 := w64 (by omega) (by omega)
  have i2 : ¬ s.left - 1 ≤ 0 := by omega
  clear h hn tal hph hcall hp
  go_enter Tryz.func21, Tryz.ntmps21
  go_wp2_with (first
    | (go_at_call 33; (with_reducible refine hno.mono ?_); rintro e w' ⟨rfl, rfl⟩)
    | (go_at_call 47; (with_reducible refine hprep.mono ?_); rintro e w2 ⟨v, rfl, hh⟩))
  go_ret
  exact ⟨_, rfl, C1.out.same (hh.out.2.block b C1.out.lt), M1.out.trans (Mod.ofBelow hh.out.2)⟩
set_option maxHeartbeats 1000000 in
theorem tick_last (b t n kb : Nat) (S : Nat → Bool) (s : CS) (w : World) (h : Cd w b s) (hp : s.promised = some t) (tal : Tal w t n S) (hn : s.n = n) (h0 : n ≠ 0) (hph : s.phase = 1) (hcall : s.call = some kb) (hj : s.job = none) (hl : s.left = 1) :
    Calls Tryz.prog 21 #[.pointer (some ⟨b, 0, none⟩)] w fun e w' => ∃ v, e = .returned v ∧ Hid (∃ ab, Cd w' b (s.tick.done ab) ∧ Blk w' ab (acells 17 0 0 (.slice none 0 0) (.slice none 0 0)) 47 ∧ Mod (· = b) w w') := by
  have hno := none_at b s w h (by omega)
  have C1 : Hid (Cd (w.setCell ⟨b, 87, none⟩ (.int .i64 0)) b s.tick) := (by show Cd _ _ _; rw [show s.tick = { s with left := 0 } from by simp [CS.tick, hl]]; exact h.s_left 0)
  have M1 : Hid (Mod (· = b) w (w.setCell ⟨b, 87, none⟩ (.int .i64 0))) := (Mod.refl _ w).put _
  have T1 : Hid (Tal (w.setCell ⟨b, 87, none⟩ (.int .i64 0)) t n S) := tal.same (Below.heap_setCell _ _ _ _ (Blk.ne tal.blk h (by decide)))
  have hend := end_at b kb s.tick 17 0 0 none none 0 0 0 0 _ C1.out hcall hj
  have hprep : ∀ w2, Hid (Cd w2 b (s.tick.done (w.setCell ⟨b, 87, none⟩ (.int .i64 0)).heap.size) ∧ Blk w2 (w.setCell ⟨b, 87, none⟩ (.int .i64 0)).heap.size (acells 17 0 0 (.slice none 0 0) (.slice none 0 0)) 47 ∧ Mod (· = b) (w.setCell ⟨b, 87, none⟩ (.int .i64 0)) w2) →
      Calls Tryz.prog 47 #[.pointer (some ⟨b, 0, none⟩)] w2 fun e w' => ∃ v, e = .returned v ∧ Hid (Below w2.heap.size w2 w') := fun w2 hh =>
    (prepare_at b t n S _ w2 hh.out.1 hp (T1.out.same (hh.out.2.2.block t T1.out.blk.lt (Blk.ne T1.out.blk C1.out (by decide)))) hn).mono fun e w' ⟨v, h1, h2⟩ => ⟨v, h1, h2.out.2⟩
  have h1 := h.c_phase
  rw [hph] at h1
  have h1' : ∀ w2, Hid (Cd w2 b (s.tick.done (w.setCell ⟨b, 87, none⟩ (.int .i64 0)).heap.size) ∧ Blk w2 (w.setCell ⟨b, 87, none⟩ (.int .i64 0)).heap.size (acells 17 0 0 (.slice none 0 0) (.slice none 0 0)) 47 ∧ Mod (· = b) (w.setCell ⟨b, 87, none⟩ (.int .i64 0)) w2) → w2.cell? ⟨b, 4, none⟩ = some (.int .i64 1) := fun w2 hh => by rw [← hph]; exact hh.out.1.c_phase
  have h2 := h.c_call
  rw [hcall, ptr_some] at h2
  have h3 := h.c_left
  have f3 := h.free 87
  rw [hl] at h3
  unfold acells at hend hprep h1'
  clear h hn tal hph hcall hp hl
  go_enter Tryz.func21, Tryz.ntmps21
  go_wp2_with (first
    | (go_at_call 33; (with_reducible refine hno.mono ?_); rintro e w' ⟨rfl, rfl⟩)
    | (go_at_call 36; (with_reducible refine hend.mono ?_); rintro e w2 ⟨rfl, hh⟩; have h1'' := h1' _ hh)
    | (go_at_call 47; (with_reducible refine (hprep _ hh).mono ?_); rintro e w3 ⟨v, rfl, h5⟩))
  go_ret
  refine ⟨_, rfl, _, hh.out.1.same (h5.out.block b hh.out.1.lt), hh.out.2.1.same (h5.out.block _ hh.out.2.1.lt), (M1.out.trans hh.out.2.2).trans (Mod.ofBelow h5.out)⟩
end Go.Proofs.YtcbecbalhnomcaaGreatDoor.Co
