/- A call is asked, ends, and its answer is taken. -/
import Derived.Test.YtcbecbalhnomcaaGreatDoorImage
import Derived.Test.YtcbecbalhnomcaaGreatDoorHeld
import Derived.Test.YtcbecbalhnomcaaGreatDoorCoAwake
namespace Go.Proofs.YtcbecbalhnomcaaGreatDoor.Co
open Go.RowKit Go.Proofs.YtcbecbalhnomcaaGreatDoorW.PrintWords

/-- what is wrong with a call, where e is what is wrong with its tree -/
def rightE (k g e : Int) : Int := if k = 1 then e else if k = 3 ∨ k = 5 then (if g < 0 then 2 else 0) else if k = 2 ∨ k = 4 ∨ k = 6 then 0 else 1
set_option maxHeartbeats 1000000 in
theorem right_calls (k g e : Int) (A : Option Addr) (n c : Nat) (w : World)
    (hi : k = 1 → ∀ w', Below w.heap.size w w' → Calls Tryz.prog 65 #[.slice A n c] w' fun e' w'' => ∃ s, e' = .returned (.tuple #[.string s, .int .i64 e]) ∧ Hid (Below w'.heap.size w' w'')) :
    Calls Tryz.prog 35 #[.agg (kcells k g (.slice A n c))] w fun e' w' => e' = .returned (.int .i64 (rightE k g e)) ∧ Hid (Below w.heap.size w w') := by
  have B0 : Hid (Below w.heap.size w (w.alloc (.cells (kcells k g (.slice A n c)) 30))) := (Below.refl _ w).alloc (Nat.le_refl _) _
  have KB : Hid (Blk (w.alloc (.cells (kcells k g (.slice A n c)) 30)) w.heap.size (kcells k g (.slice A n c)) 30) := Blk.new w _ _
  have HI : Hid (k = 1 → Calls Tryz.prog 65 #[.slice A n c] (w.alloc (.cells (kcells k g (.slice A n c)) 30)) fun e' w'' => ∃ s, e' = .returned (.tuple #[.string s, .int .i64 e]) ∧ Hid (Below (w.alloc (.cells (kcells k g (.slice A n c)) 30)).heap.size (w.alloc (.cells (kcells k g (.slice A n c)) 30)) w'')) := fun h => hi h _ B0.out
  clear hi
  go_enter Tryz.func35, Tryz.ntmps35
  go_upto_region 1 with (fail)
  change Code.wp _ _ _ _ (w.alloc (.cells (kcells k g (.slice A n c)) 30))
  generalize w.alloc (.cells (kcells k g (.slice A n c)) 30) = W0 at *
  generalize hgg : w.heap.size = gg at *
  have HG : Hid (w.heap.size = gg) := hgg
  clear hgg
  have k0 : W0.cell? ⟨gg, 0, none⟩ = some (.int .i64 k) := KB.out.cell 0
  have k1 : W0.cell? ⟨gg, 1, none⟩ = some (.int .i64 g) := KB.out.cell 1
  have k2 : W0.cell? ⟨gg, 2, none⟩ = some (.slice A n c) := KB.out.cell 2
  have BW : Hid (Below w.heap.size w W0) := by show Below _ _ _; rw [HG.out]; exact B0.out
  clear B0
  by_cases h1 : k = 1
  · have hi := HI.out h1
    subst h1
    go_wp2_with (go_at_call 65; (with_reducible refine hi.mono ?_); rintro e' w1 ⟨s, rfl, h2⟩)
    go_ret
    exact ⟨by simp [rightE], BW.out.trans (h2.out.mono (by rw [HG.out]; exact Nat.le_of_lt KB.out.lt))⟩
  clear HI
  by_cases h3 : k = 3
  · subst h3
    by_cases hg : g < 0
    · go_wp2
      go_ret
      exact ⟨by simp [rightE, hg], BW.out⟩
    · go_wp2
      go_ret
      exact ⟨by simp [rightE, hg], BW.out⟩
  by_cases h5 : k = 5
  · subst h5
    by_cases hg : g < 0
    · go_wp2
      go_ret
      exact ⟨by simp [rightE, hg], BW.out⟩
    · go_wp2
      go_ret
      exact ⟨by simp [rightE, hg], BW.out⟩
  by_cases h2 : k = 2
  · subst h2
    go_wp2
    go_ret
    exact ⟨by simp [rightE], BW.out⟩
  by_cases h4 : k = 4
  · subst h4
    go_wp2
    go_ret
    exact ⟨by simp [rightE], BW.out⟩
  by_cases h6 : k = 6
  · subst h6
    go_wp2
    go_ret
    exact ⟨by simp [rightE], BW.out⟩
  have b1 : (k == 1) = false := by simpa using h1
  have b2 : (k == 2) = false := by simpa using h2
  have b3 : (k == 3) = false := by simpa using h3
  have b4 : (k == 4) = false := by simpa using h4
  have b5 : (k == 5) = false := by simpa using h5
  have b6 : (k == 6) = false := by simpa using h6
  go_wp2
  go_ret
  exact ⟨by simp [rightE, h1, h2, h3, h4, h5, h6], BW.out⟩

/-- a call's end -/
def CS.done (s : CS) (ab : Nat) : CS := { s with call := none, yes := none, pruned := none, answer := some ab }
set_option maxHeartbeats 1000000 in
theorem end_at (b kb : Nat) (s : CS) (e g f : Int) (A1 A2 : Option Addr) (n1 c1 n2 c2 : Nat) (w : World) (h : Cd w b s) (hc : s.call = some kb) (hj : s.job = none) :
    Calls Tryz.prog 36 #[.pointer (some ⟨b, 0, none⟩), .agg (acells e g f (.slice A1 n1 c1) (.slice A2 n2 c2))] w fun e' w' => e' = .returned (.tuple #[]) ∧
      Hid (Cd w' b (s.done w.heap.size) ∧ Blk w' w.heap.size (acells e g f (.slice A1 n1 c1) (.slice A2 n2 c2)) 47 ∧ Mod (· = b) w w') := by
  have hb := h.lt
  have C0 : Hid (Cd (w.alloc (.cells (acells e g f (.slice A1 n1 c1) (.slice A2 n2 c2)) 47)) b s) := h.same (Below.heap_alloc _ _ _ h.lt)
  have A0 : Hid (Blk (w.alloc (.cells (acells e g f (.slice A1 n1 c1) (.slice A2 n2 c2)) 47)) w.heap.size (acells e g f (.slice A1 n1 c1) (.slice A2 n2 c2)) 47) := Blk.new w _ _
  have M0 : Hid (Mod (· = b) w (w.alloc (.cells (acells e g f (.slice A1 n1 c1) (.slice A2 n2 c2)) 47))) := (Mod.refl _ w).alloc _
  have NE : Hid (w.heap.size ≠ b) := fun e => by omega
  clear h hb
  go_enter Tryz.func36, Tryz.ntmps36
  go_upto_region 1 with (fail)
  change Code.wp _ _ _ _ (w.alloc (.cells (acells e g f (.slice A1 n1 c1) (.slice A2 n2 c2)) 47))
  generalize w.alloc (.cells (acells e g f (.slice A1 n1 c1) (.slice A2 n2 c2)) 47) = W0 at *
  generalize hgg : w.heap.size = gg at *
  have HG : Hid (w.heap.size = gg) := hgg
  clear hgg
  have c86 := C0.out.c_call
  rw [hc, ptr_some] at c86
  have c89 := C0.out.c_yes
  have c90 := C0.out.c_pruned
  have c91 := C0.out.c_answer
  have c84 := C0.out.c_job
  rw [hj, ptr_none] at c84
  have f86 := C0.out.free 86
  have f89 := C0.out.free 89
  have f90 := C0.out.free 90
  have f91 := C0.out.free 91
  clear hc hj
  go_wp2
  go_end0
  have hk : ∀ (w' : World) i v, (w'.setCell ⟨b, i, none⟩ v).heap[gg]? = w'.heap[gg]? := fun _ _ _ => Below.heap_setCell _ _ _ _ NE.out
  refine ⟨rfl, ?_, ?_, (((M0.out.put _).put _).put _).put _⟩
  · rw [HG.out]
    exact (((C0.out.s_call none).s_yes none).s_pruned none).s_answer (some gg)
  · rw [HG.out]
    exact A0.out.same ((hk _ _ _).trans ((hk _ _ _).trans ((hk _ _ _).trans (hk _ _ _))))
end Go.Proofs.YtcbecbalhnomcaaGreatDoor.Co
