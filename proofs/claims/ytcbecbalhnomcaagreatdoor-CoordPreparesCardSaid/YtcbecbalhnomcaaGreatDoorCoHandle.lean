/- A coordinator that asks for promises handles one. -/
import Derived.Test.YtcbecbalhnomcaaGreatDoorCoPromise
namespace Go.Proofs.YtcbecbalhnomcaaGreatDoor.Co
open Go.RowKit Go.Proofs.YtcbecbalhnomcaaGreatDoorW.PrintWords

set_option maxHeartbeats 1000000 in
theorem promise_same (b t n : Nat) (S : Nat → Bool) (s : CS) (m : Mg) (v : Nat) (w : World) (h : Cd w b s) (hp : s.promised = some t) (tal : Tal w t n S) (hv : v < n) (hf : m.frm = v) (hS : S v = true) :
    Calls Tryz.prog 38 #[.pointer (some ⟨b, 0, none⟩), .agg (mcells m)] w fun e w' => e = .returned (.tuple #[]) ∧ Hid (Below w.heap.size w w') := by
  have B0 : Hid (Below w.heap.size w (w.alloc (.cells (mcells m) 27))) := (Below.refl _ w).alloc (Nat.le_refl _) _
  have m1 : (w.alloc (.cells (mcells m) 27)).cell? ⟨w.heap.size, 1, none⟩ = some (.int .i64 v) := by rw [← hf]; exact (Blk.new w (mcells m) 27).cell 1
  have C0 : Cd (w.alloc (.cells (mcells m) 27)) b s := h.same (Below.heap_alloc _ _ _ h.lt)
  have T0 : Hid (Tal (w.alloc (.cells (mcells m) 27)) t n S) := tal.same (Below.heap_alloc _ _ _ tal.blk.lt)
  have c9 := C0.c_promised
  rw [hp, ptr_some] at c9
  clear h tal hf C0 hp
  go_enter Tryz.func38, Tryz.ntmps38
  go_upto_region 1 with (fail)
  change Code.wp _ _ _ _ (w.alloc (.cells (mcells m) 27))
  generalize w.alloc (.cells (mcells m) 27) = W0 at *
  generalize hg : w.heap.size = g at *
  have HG : Hid (w.heap.size = g) := hg
  clear hg
  have hh := fun k => has_at t n S v (W0.drewN k) (T0.out.same rfl) hv
  rw [hS] at hh
  go_quiet ((go_at_call 66; exact quiet0 (hh _)))
  clear hh
  go_wp2
  exact bodyPost_ret (v := .tuple #[]) (by simp [results, Tryz.results38, go_sem]) rfl ⟨rfl, by rw [HG.out]; exact pw_below_drewN B0.out _⟩

set_option maxHeartbeats 1000000 in
theorem handle_promise (b : Nat) (s : CS) (m : Mg) (v : Nat) (A0 : Option Addr) (n0 c0 : Nat) (w : World) (Q : World → Ending → World → Prop) (h : Cd w b s) (hn : s.n ≠ 0) (hph : s.phase = 1) (hv : (v : Int) < s.n) (hf : m.frm = v)
    (hto : m.to_ = s.id) (hk : m.kind = 2) (hb : m.ballot = s.ballot) (hl : m.list = .slice A0 n0 c0)
    (hp : ∀ w', Below w.heap.size w w' → Calls Tryz.prog 38 #[.pointer (some ⟨b, 0, none⟩), .agg (mcells m)] w' fun e w'' => e = .returned (.tuple #[]) ∧ Hid (Q w' e w'')) :
    Calls Tryz.prog 17 #[.pointer (some ⟨b, 0, none⟩), .agg (mcells m)] w fun e w'' => e = .returned (.tuple #[]) ∧ Hid (∃ w', Below w.heap.size w w' ∧ Q w' e w'') := by
  have B0 : Hid (Below w.heap.size w (w.alloc (.cells (mcells m) 27))) := (Below.refl _ w).alloc (Nat.le_refl _) _
  have MB : Hid (Blk (w.alloc (.cells (mcells m) 27)) w.heap.size (mcells m) 27) := Blk.new _ _ _
  have C0 : Hid (Cd (w.alloc (.cells (mcells m) 27)) b s) := h.same (Below.heap_alloc _ _ _ h.lt)
  have HN : Hid (s.n ≠ 0) := hn
  have HP : Hid (∀ w', Below w.heap.size w w' → Calls Tryz.prog 38 #[.pointer (some ⟨b, 0, none⟩), .agg (mcells m)] w' fun e w'' => e = .returned (.tuple #[]) ∧ Hid (Q w' e w'')) := hp
  have HM : Hid (m.frm = v ∧ m.to_ = s.id ∧ m.kind = 2 ∧ m.ballot = s.ballot ∧ m.list = .slice A0 n0 c0 ∧ s.phase = 1) := ⟨hf, hto, hk, hb, hl, hph⟩
  clear h hn hp hf hto hk hb hl hph
  go_enter Tryz.func17, Tryz.ntmps17
  go_upto_region 1 with (fail)
  change Code.wp _ _ _ _ (w.alloc (.cells (mcells m) 27))
  generalize w.alloc (.cells (mcells m) 27) = W0 at *
  generalize hg : w.heap.size = g at *
  have HG : Hid (w.heap.size = g) := hg
  clear hg
  have hh := fun k => none_at b s (W0.drewN k) (C0.out.same rfl) HN.out
  obtain ⟨e1, e2, e3, e4, e5, e6⟩ := HM.out
  have m0 : W0.cell? ⟨g, 0, none⟩ = some (.int .i64 m.kind) := MB.out.cell 0
  have m1 : W0.cell? ⟨g, 1, none⟩ = some (.int .i64 m.frm) := MB.out.cell 1
  have m2 : W0.cell? ⟨g, 2, none⟩ = some (.int .i64 m.to_) := MB.out.cell 2
  have m3 : W0.cell? ⟨g, 3, none⟩ = some (.int .i64 m.ballot) := MB.out.cell 3
  have m4 : W0.cell? ⟨g, 4, none⟩ = some (.int .i64 m.gen) := MB.out.cell 4
  have m5 : W0.cell? ⟨g, 5, none⟩ = some (.int .i64 m.basis) := MB.out.cell 5
  have m6 : W0.cell? ⟨g, 6, none⟩ = some (.int .i64 m.floor) := MB.out.cell 6
  have m7 : W0.cell? ⟨g, 7, none⟩ = some (.int .i64 m.top) := MB.out.cell 7
  have m8 : W0.cell? ⟨g, 8, none⟩ = some (.int .i64 m.read) := MB.out.cell 8
  have m9 : W0.cell? ⟨g, 9, none⟩ = some (.string m.mark) := MB.out.cell 9
  have m10 : W0.cell? ⟨g, 10, none⟩ = some (.int .i64 m.at_) := MB.out.cell 10
  have m11 : W0.cell? ⟨g, 11, none⟩ = some (.int .i64 m.of_) := MB.out.cell 11
  have m12 : W0.cell? ⟨g, 12, none⟩ = some (.string m.text) := MB.out.cell 12
  have m13 : W0.cell? ⟨g, 13, none⟩ = some (m.list) := MB.out.cell 13
  have c4 := C0.out.c_phase
  have cid := C0.out.c_id
  have cn := C0.out.c_n
  have cb := C0.out.c_ballot
  rw [e6] at c4
  rw [e1] at m1
  rw [e2] at m2
  rw [e3] at m0
  rw [e4] at m3
  rw [e5] at m13
  have hp := fun k => HP.out (W0.drewN k) (pw_below_drewN B0.out k)
  unfold mcells at hp
  rw [e1, e2, e3, e4, e5] at hp
  have x1 : ¬ (v : Int) < 0 := by omega
  have x2 : ¬ (v : Int) ≥ s.n := by omega
  clear e1 e2 e3 e4 e5 e6
  go_quiet ((go_at_call 33; exact quiet0 (hh _)))
  clear hh
  go_upto_region 6 with (fail)
  go_quiet (fail)
  go_wp2_with (go_at_call 38; (with_reducible refine (hp _).mono ?_); rintro e w2 ⟨rfl, h2⟩)
  exact bodyPost_ret (v := .tuple #[]) (by simp [results, Tryz.results17, go_sem]) rfl ⟨rfl, _, by rw [HG.out]; exact pw_below_drewN B0.out _, h2.out⟩
end Go.Proofs.YtcbecbalhnomcaaGreatDoor.Co
