/- What a coordinator tells of itself; and that one that nobody made does nothing. -/
import Derived.Test.YtcbecbalhnomcaaGreatDoorCoTo
namespace Go.Proofs.YtcbecbalhnomcaaGreatDoor.Co
open Go.RowKit Go.Proofs.YtcbecbalhnomcaaGreatDoorW.PrintWords

/-! of one that nobody made -/
theorem ballot_nil (w : World) : Calls Tryz.prog 18 #[.pointer none] w fun e w' => e = .returned (.int .i64 0) ∧ w = w' := by
  go_enter Tryz.func18, Tryz.ntmps18
  go_wp2_with (go_at_call 33; (with_reducible refine (none_nil _).mono ?_); rintro e w' ⟨rfl, rfl⟩)
  go_ret
  exact ⟨rfl, rfl⟩
theorem leads_nil (w : World) : Calls Tryz.prog 22 #[.pointer none] w fun e w' => e = .returned (.bool false) ∧ w = w' := by
  go_enter Tryz.func22, Tryz.ntmps22
  go_wp2_with (go_at_call 33; (with_reducible refine (none_nil _).mono ?_); rintro e w' ⟨rfl, rfl⟩)
  go_ret
  exact ⟨rfl, rfl⟩
theorem off_nil (w : World) : Calls Tryz.prog 19 #[.pointer none] w fun e w' => e = .returned (.bool true) ∧ w = w' := by
  go_enter Tryz.func19, Tryz.ntmps19
  go_wp2_with (go_at_call 33; (with_reducible refine (none_nil _).mono ?_); rintro e w' ⟨rfl, rfl⟩)
  go_ret
  exact ⟨rfl, rfl⟩
theorem known_nil (w : World) : Calls Tryz.prog 23 #[.pointer none] w fun e w' => e = .returned (.tuple #[.int .i64 0, .int .i64 0]) ∧ w = w' := by
  go_enter Tryz.func23, Tryz.ntmps23
  go_wp2_with (go_at_call 33; (with_reducible refine (none_nil _).mono ?_); rintro e w' ⟨rfl, rfl⟩)
  go_ret2
  exact ⟨rfl, rfl⟩
theorem tick_nil (w : World) : Calls Tryz.prog 21 #[.pointer none] w fun e w' => e = .returned (.slice none 0 0) ∧ w = w' := by
  go_enter Tryz.func21, Tryz.ntmps21
  go_wp2_with (go_at_call 33; (with_reducible refine (none_nil _).mono ?_); rintro e w' ⟨rfl, rfl⟩)
  go_ret
  exact ⟨rfl, rfl⟩
theorem handle_nil (m : Mg) (w : World) : Calls Tryz.prog 17 #[.pointer none, .agg (mcells m)] w fun e w' => e = .returned (.tuple #[]) ∧ Hid (Below w.heap.size w w') := by
  go_enter Tryz.func17, Tryz.ntmps17
  go_upto_region 1 with (fail)
  have hb : Hid (Below w.heap.size w (w.alloc (.cells (mcells m) 27))) := (Below.refl _ w).alloc (Nat.le_refl _) _
  change Code.wp _ _ _ _ (w.alloc (.cells (mcells m) 27))
  generalize w.alloc (.cells (mcells m) 27) = W0 at *
  go_quiet ((go_at_call 33; exact quiet0 (none_nil _)))
  go_wp2
  exact bodyPost_ret (v := .tuple #[]) (by simp [results, Tryz.results17, go_sem]) rfl ⟨rfl, pw_below_drewN hb.out _⟩

/-- an answer's cells -/
def acells (e g f : Int) (fs ms : Value) : Array Value := #[.int .i64 e, .int .i64 g, .int .i64 f, fs, ms]
theorem take_nil (w : World) : Calls Tryz.prog 16 #[.pointer none] w fun e w' => e = .returned (.tuple #[.agg (acells 0 0 0 (.slice none 0 0) (.slice none 0 0)), .bool false]) ∧ Hid (Below w.heap.size w w') := by
  have hb : Hid (Below w.heap.size w (w.alloc (.cells (acells 0 0 0 (.slice none 0 0) (.slice none 0 0)) 47))) := (Below.refl _ w).alloc (Nat.le_refl _) _
  go_enter Tryz.func16, Tryz.ntmps16
  go_wp2_with (go_at_call 33; (with_reducible refine (none_nil _).mono ?_); rintro e w' ⟨rfl, rfl⟩)
  exact bodyPost_ret (v := .tuple #[.agg (acells 0 0 0 (.slice none 0 0) (.slice none 0 0)), .bool false]) (by simp [results, Tryz.results16, go_sem, acells]) rfl ⟨rfl, hb⟩
/-- a call's cells -/
def kcells (k g : Int) (fs : Value) : Array Value := #[.int .i64 k, .int .i64 g, fs]
theorem ask_nil (k g : Int) (fs : Value) (w : World) : Calls Tryz.prog 14 #[.pointer none, .agg (kcells k g fs)] w fun e w' => e = .returned (.int .i64 16) ∧ Hid (Below w.heap.size w w') := by
  have hb : Hid (Below w.heap.size w (w.alloc (.cells (kcells k g fs) 30))) := (Below.refl _ w).alloc (Nat.le_refl _) _
  go_enter Tryz.func14, Tryz.ntmps14
  go_wp2_with (go_at_call 33; (with_reducible refine (none_nil _).mono ?_); rintro e w' ⟨rfl, rfl⟩)
  go_ret
  exact ⟨rfl, hb⟩

/-! of one in memory -/
section
variable (b : Nat) (s : CS) (w : World) (h : Cd w b s) (hn : s.n ≠ 0)
include h hn
theorem ballot_at : Calls Tryz.prog 18 #[.pointer (some ⟨b, 0, none⟩)] w fun e w' => e = .returned (.int .i64 s.ballot) ∧ w = w' := by
  have h0 := none_at b s w h hn
  have h1 := h.c_ballot
  clear h hn
  go_enter Tryz.func18, Tryz.ntmps18
  go_wp2_with (go_at_call 33; (with_reducible refine h0.mono ?_); rintro e w' ⟨rfl, rfl⟩)
  go_ret
  exact ⟨rfl, rfl⟩
theorem leads_at : Calls Tryz.prog 22 #[.pointer (some ⟨b, 0, none⟩)] w fun e w' => e = .returned (.bool (s.phase == 2)) ∧ w = w' := by
  have h0 := none_at b s w h hn
  have h1 := h.c_phase
  clear h hn
  go_enter Tryz.func22, Tryz.ntmps22
  go_wp2_with (go_at_call 33; (with_reducible refine h0.mono ?_); rintro e w' ⟨rfl, rfl⟩)
  go_ret
  exact ⟨rfl, rfl⟩
theorem off_at : Calls Tryz.prog 19 #[.pointer (some ⟨b, 0, none⟩)] w fun e w' => e = .returned (.bool (s.phase == 0)) ∧ w = w' := by
  have h0 := none_at b s w h hn
  have h1 := h.c_phase
  clear h hn
  go_enter Tryz.func19, Tryz.ntmps19
  go_wp2_with (go_at_call 33; (with_reducible refine h0.mono ?_); rintro e w' ⟨rfl, rfl⟩)
  go_ret
  exact ⟨rfl, rfl⟩
theorem known_at : Calls Tryz.prog 23 #[.pointer (some ⟨b, 0, none⟩)] w fun e w' => e = .returned (.tuple #[.int .i64 s.floor, .int .i64 s.top]) ∧ Drawn0 w w' := by
  have h0 := none_at b s w h hn
  have h1 := h.c_floor
  have h2 := h.c_top
  clear h hn
  go_enter Tryz.func23, Tryz.ntmps23
  go_wp2_with (go_at_call 33; (with_reducible refine h0.mono ?_); rintro e w' ⟨rfl, rfl⟩)
  go_quiet (fail)
  go_wp2
  go_ret2
  exact ⟨rfl, _, rfl⟩
theorem take_no (ha : s.answer = none) : Calls Tryz.prog 16 #[.pointer (some ⟨b, 0, none⟩)] w fun e w' => e = .returned (.tuple #[.agg (acells 0 0 0 (.slice none 0 0) (.slice none 0 0)), .bool false]) ∧ Hid (Below w.heap.size w w') := by
  have hb : Hid (Below w.heap.size w (w.alloc (.cells (acells 0 0 0 (.slice none 0 0) (.slice none 0 0)) 47))) := (Below.refl _ w).alloc (Nat.le_refl _) _
  have hc : Cd (w.alloc (.cells (acells 0 0 0 (.slice none 0 0) (.slice none 0 0)) 47)) b s := h.same (Below.heap_alloc _ _ _ h.lt)
  have h0 := none_at b s _ hc hn
  have h1 := hc.c_answer
  have h2 := h.c_answer
  rw [ha, ptr_none] at h1 h2
  unfold acells at h0 h1
  clear h hn hc
  go_enter Tryz.func16, Tryz.ntmps16
  go_wp2_with (go_at_call 33; (with_reducible refine h0.mono ?_); rintro e w' ⟨rfl, rfl⟩)
  exact bodyPost_ret (v := .tuple #[.agg (acells 0 0 0 (.slice none 0 0) (.slice none 0 0)), .bool false]) (by simp [results, Tryz.results16, go_sem, acells]) rfl ⟨rfl, hb⟩
end
end Go.Proofs.YtcbecbalhnomcaaGreatDoor.Co
