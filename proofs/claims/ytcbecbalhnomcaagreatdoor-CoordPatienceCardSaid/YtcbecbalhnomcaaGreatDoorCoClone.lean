/- A list of files is copied; a call is asked. -/
import Derived.Test.YtcbecbalhnomcaaGreatDoorCoAsk
namespace Go.Proofs.YtcbecbalhnomcaaGreatDoor.Co
open Go.RowKit Go.Proofs.YtcbecbalhnomcaaGreatDoorW.PrintWords

set_option maxRecDepth 100000 in
theorem clone_nil (n c : Nat) (w : World) : Calls Tryz.prog 34 #[.slice none n c] w fun e w' => e = .returned (.slice none 0 0) ∧ w = w' := by
  have q28 : ∀ (w : World) (a : Option Addr) (n c n' c' : Nat), (binOp .eql 28 (.slice a n c) (.slice none n' c')).run Tryz.prog w = .ok (.bool a.isNone) w := fun w a n c n' c' => Lib.run_eql_slice_nil w _ _ a n c n' c' Tryz.underlying28
  go_enter Tryz.func34, Tryz.ntmps34
  go_wp2
  go_ret
  exact ⟨rfl, rfl⟩
theorem file_KM (w W : World) (base : Nat) (ok : Nat → Prop) (x : Fi) (cs : List Value) (h : kFi.K w x cs) : kFi.M W base ok x cs := by
  obtain ⟨c0, c1, rfl, k0, d0, d1, rfl, k1, k2⟩ := h
  exact ⟨c0, _, rfl, k0, d0, d1, rfl, k1, k2⟩
theorem files_none (W : World) : Kd.R kFi 93 (W.alloc (.cells #[] 93)) W.heap.size (fun _ => True) (.slice (some ⟨W.heap.size, 0, none⟩) 0 0) ([] : List Fi) := by
  have h := World.ownsRow_lit (base := W.heap.size) (e := 93) (size := 3) W #[] 0 (Nat.le_refl _) (by simp [maxLen]) (by simp)
  exact ⟨fun _ _ => trivial, [], (by simpa using h : (W.alloc (.cells #[] 93)).ownsRow W.heap.size 93 3 (.slice (some ⟨W.heap.size, 0, none⟩) 0 0) 0 []), Reps.none _ _⟩
theorem info_file : (Tryz.prog.info? 93).map (fun i => (i.zero, i.size, i.bytes)) = some (some (.agg #[.string ⟨#[]⟩, .int .i64 0, .string ⟨#[]⟩]), 3, 40) := by kernel_rfl
set_option maxRecDepth 100000 in
theorem clone_files (ad : Addr) (c : Nat) (l : List Fi) (w : World) (hC : Kd.C kFi w (some ad) l.length l) (hl : l.length ≤ 1000000) :
    Calls Tryz.prog 34 #[.slice (some ad) l.length c] w fun e w' => ∃ A' c', e = .returned (.slice A' l.length c') ∧ Hid (Kd.C kFi w' A' l.length l ∧ l.length ≤ c' ∧ Below w.heap.size w w') := by
  have B0 : Hid (Below w.heap.size w (w.alloc (.cells #[] 93))) := (Below.refl _ w).alloc (Nat.le_refl _) _
  have HC : Hid (Kd.C kFi (w.alloc (.cells #[] 93)) (some ad) l.length l) := Kd.C_below hC B0.out
  have HO := files_none w
  have HB : Hid (w.heap.size ≤ (w.alloc (.cells #[] 93)).heap.size) := by show _ ≤ _; simp
  clear hC
  have q28 : ∀ (w : World) (a : Option Addr) (n c n' c' : Nat), (binOp .eql 28 (.slice a n c) (.slice none n' c')).run Tryz.prog w = .ok (.bool a.isNone) w := fun w a n c n' c' => Lib.run_eql_slice_nil w _ _ a n c n' c' Tryz.underlying28
  go_enter Tryz.func34, Tryz.ntmps34
  go_wp2_with (
    (with_reducible refine gate_builtin (b := .append) (xs := #[.tmp 5, .tmp 6]) rfl ?_); at_builtin
    refine Kd.R_append_rows kFi (Rr := kFi.K (w.alloc (.cells #[] 93))) (w0 := w) w.heap.size rfl (.tmp 5) (.tmp 6) 28 93 (.agg #[.string ⟨#[]⟩, .int .i64 0, .string ⟨#[]⟩]) 40 rfl Tryz.underlying28 info_file rfl (by decide) (by decide) (.slice (some ⟨w.heap.size, 0, none⟩) 0 0) [] l (some ad) l.length c (fun _ => True) (fun _ => False) rfl rfl HO HC.out (fun x cs h => file_KM _ _ _ _ x cs h) (fun k hk => hk.elim) (fun _ _ => trivial) B0.out HB.out (by simp; omega) ?_
    intro v1 w1 ho hb hg hat
    rw [List.nil_append] at ho
    obtain ⟨A', c', rfl, h1, h2⟩ := Kd.R_reads ho
    have R1 : Hid (Kd.C kFi w1 A' l.length l ∧ l.length ≤ c' ∧ Below w.heap.size w w1) := ⟨h2, h1, hb⟩
    clear ho hb hg hat h1 h2)
  go_ret
  exact ⟨_, _, rfl, R1⟩
theorem clone_any (A : Option Addr) (c : Nat) (l : List Fi) (w : World) (hC : Kd.C kFi w A l.length l) (hl : l.length ≤ 1000000) :
    Calls Tryz.prog 34 #[.slice A l.length c] w fun e w' => ∃ A' c', e = .returned (.slice A' l.length c') ∧ Hid (Kd.C kFi w' A' l.length l ∧ l.length ≤ c' ∧ Below w.heap.size w w') := by
  cases A with
  | some ad => exact clone_files ad c l w hC hl
  | none =>
    obtain rfl : l = [] := by
      rcases l with _ | ⟨x, l⟩
      · rfl
      · obtain ⟨ad, e, _⟩ := hC.2.2 (by simp)
        cases e
    refine (clone_nil 0 c w).mono ?_
    rintro e w' ⟨rfl, rfl⟩
    exact ⟨none, 0, rfl, hC, Nat.le_refl _, Below.refl _ _⟩
end Go.Proofs.YtcbecbalhnomcaaGreatDoor.Co
