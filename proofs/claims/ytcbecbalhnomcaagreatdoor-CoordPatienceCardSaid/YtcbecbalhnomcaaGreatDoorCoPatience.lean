/- The law of a call to which no vault says anything. -/
import Derived.Test.YtcbecbalhnomcaaGreatDoorCoAsk2
import Derived.Test.YtcbecbalhnomcaaGreatDoorCoFresh
namespace Go.Proofs.YtcbecbalhnomcaaGreatDoor.Co
open Go.RowKit Go.Proofs.YtcbecbalhnomcaaGreatDoorW.PrintWords Go.Proofs.YtcbecbalhnomcaaGreatDoor.Build

set_option maxRecDepth 100000 in
theorem paths_nil (w : World) : Calls Tryz.prog 117 #[.slice none 0 0] w fun e w' => e = .returned (.int .i64 0) ∧ w = w' := by
  go_enter Tryz.func117, Tryz.ntmps117
  go_wp2
  go_loopw [12] (fun i wr => i = .int .i64 0 ∧ wr = w) (fun _ _ => 0)
  case atStart => exact ⟨rfl, rfl⟩
  case round =>
    obtain ⟨rfl, rfl⟩ := hrel
    go_wp2
    go_ret
    exact ⟨rfl, rfl⟩
set_option maxRecDepth 100000 in
theorem check_nil (w : World) : Calls Tryz.prog 96 #[.slice none 0 0] w fun e w' => e = .returned (.int .i64 0) ∧ Hid (Below w.heap.size w w') := by
  go_enter Tryz.func96, Tryz.ntmps96
  go_upto_region 3 with (fail)
  go_loopw [3, 11] (fun v i wr => v = .slice none 0 0 ∧ i = .int .i64 0 ∧ wr = w) (fun _ _ _ => 0)
  case atStart => exact ⟨rfl, rfl, rfl⟩
  case round =>
    obtain ⟨rfl, rfl, rfl⟩ := hrel
    go_upto_region 11 with (go_at_call 117; (with_reducible refine (paths_nil _).mono ?_); rintro e w' ⟨rfl, rfl⟩)
    go_loopw [28] (fun i wq => i = .int .i64 0 ∧ wq = wr) (fun _ _ => 0)
    case atStart => exact ⟨rfl, rfl⟩
    case round =>
      obtain ⟨rfl, rfl⟩ := hrel
      go_wp2
      go_ret
      exact ⟨rfl, Below.refl _ _⟩
theorem image_nil (w : World) : Calls Tryz.prog 65 #[.slice none 0 0] w fun e w' => ∃ s, e = .returned (.tuple #[.string s, .int .i64 0]) ∧ Hid (Below w.heap.size w w') :=
  image_ok none 0 [] w ⟨rfl, by simp, fun h => absurd h (by simp)⟩ ⟨by simp, by simp⟩ (check_nil w)

/-- a coordinator that nobody has promised anything to, in a law's world -/
structure Pat (w0 w : World) (p b t bk : Nat) (s : CS) : Prop where
  wd : Blk w p (wcells b bk 2 5 (.slice none 0 0) (.slice none 0 0) 0) 42
  cd : Cd w b s
  tal : Tal w t 5 (fun _ => false)
  below : Below w0.heap.size w0 w
  low : w0.heap.size ≤ b
theorem Pat.mod {w0 w w' : World} {p b t bk : Nat} {s s' : CS} (h : Pat w0 w p b t bk s) (hm : Mod (· = b) w w') (hc : Cd w' b s') : Pat w0 w' p b t bk s' :=
  ⟨h.wd.same (hm.block _ h.wd.lt (Blk.ne h.wd h.cd (by decide))), hc, h.tal.same (hm.block _ h.tal.blk.lt (Blk.ne h.tal.blk h.cd (by decide))), h.below.trans (hm.below (fun _ hk => hk ▸ h.low) h.below.size), h.low⟩
theorem Pat.bel {w0 w w' : World} {p b t bk : Nat} {s : CS} (h : Pat w0 w p b t bk s) (hm : Below w.heap.size w w') : Pat w0 w' p b t bk s :=
  h.mod (Mod.ofBelow hm) (h.cd.same (hm.block _ h.cd.lt))
theorem Pat.c {w0 w : World} {p b t bk : Nat} {s : CS} (h : Pat w0 w p b t bk s) : w.cell? ⟨p, 0, none⟩ = some (.pointer (some ⟨b, 0, none⟩)) := h.wd.cell 0
def CS.wait (s : CS) (kb j : Nat) : CS := { s with call := some kb, left := 40 - j }
theorem CS.wait_tick (s : CS) (kb j : Nat) : (s.wait kb j).tick = s.wait kb (j + 1) := by
  simp only [CS.wait, CS.tick]
  congr 1
  omega
theorem patience_bad (kind before : Int) (w : World) (h : kind < 1 ∨ kind > 6 ∨ before < 0 ∨ before > 100) :
    Calls Tryz.prog 7 #[.int .i64 kind, .int .i64 before] w fun e w' => e = .returned (.bool true) ∧ Below w.heap.size w w' := by
  rcases (by omega : kind < 1 ∨ (¬ kind < 1 ∧ kind > 6) ∨ (¬ kind < 1 ∧ ¬ kind > 6 ∧ before < 0) ∨ (¬ kind < 1 ∧ ¬ kind > 6 ∧ ¬ before < 0 ∧ before > 100)) with h1 | ⟨h1, h2⟩ | ⟨h1, h2, h3⟩ | ⟨h1, h2, h3, h4⟩
  all_goals
    clear h
    go_enter Tryz.func7, Tryz.ntmps7
    go_wp2_with (go_at_call 20; (with_reducible refine (awake_calls _).mono ?_); rintro e w4 ⟨rfl, h4⟩)
    go_ret
    exact ⟨rfl, h4⟩
set_option maxRecDepth 100000 in
set_option maxHeartbeats 4000000 in
theorem patience_ok (kind : Int) (before : Nat) (w : World) (h1 : 1 ≤ kind) (h2 : kind ≤ 6) (h4 : before ≤ 100) :
    Calls Tryz.prog 7 #[.int .i64 kind, .int .i64 before] w fun e w' => e = .returned (.bool true) ∧ Below w.heap.size w w' := by
  have hfr := fresh_ok 2 5 3 w (by decide) (by decide) (by decide) (by decide) (by decide) (by decide)
  have hr : Hid (rightE kind 0 0 = 0) := by
    show _ = _
    unfold rightE
    split
    · rfl
    · split
      · rfl
      · rw [if_pos (by omega)]
  have k1 : ¬ kind < 1 := by omega
  have k2 : ¬ kind > 6 := by omega
  have k3 : ¬ (before : Int) < 0 := by omega
  have k4 : ¬ (before : Int) > 100 := by omega
  go_enter Tryz.func7, Tryz.ntmps7
  go_upto_region 7 with (go_at_call 12; (with_reducible refine hfr.mono ?_); rintro e w1 ⟨p, rfl, hf⟩)
  obtain ⟨b, t, bk, mk, f⟩ := hf.out
  generalize hs0 : CS.init 2 5 (3 * 4 + 2) bk t = s0 at *
  have S0 : Hid (s0.n = 5 ∧ s0.promised = some t ∧ s0.phase = 1 ∧ s0.job = none ∧ s0.call = none ∧ s0.answer = none) := by subst hs0; exact ⟨rfl, rfl, rfl, rfl, rfl, rfl⟩
  have st0 : Hid (Pat w w1 p b t bk s0) := ⟨f.wd, hs0 ▸ f.cd, f.tal, f.below, f.low.2.1⟩
  clear hfr hf f hs0
  go_loopw [6] (fun i wr => ∃ j : Nat, j ≤ before ∧ i = .int .i64 j ∧ Hid (Pat w wr p b t bk s0)) (fun i _ => before - (intOf i).toNat)
  case atStart => exact ⟨0, by omega, rfl, st0⟩
  case round =>
    obtain ⟨j, hj, rfl, st⟩ := hrel
    clear st0
    have wc := st.out.c
    by_cases hlt : (j : Int) < (before : Int)
    · have htk := tick_prep b t 5 (fun _ => false) s0 wr st.out.cd S0.out.2.1 st.out.tal S0.out.1 (by decide) S0.out.2.2.1 S0.out.2.2.2.2.1
      go_wp2_with (go_at_call 21; (with_reducible refine htk.mono ?_); rintro e w2 ⟨v, rfl, hh⟩)
      go_roundw
      case rel => exact ⟨j + 1, by omega, by go_num, st.out.bel hh.out.2⟩
      case measure => simp [intOf]; omega
    · have hask := ask_at b s0 kind 0 0 none 0 [] wr st.out.cd (by rw [S0.out.1]; decide) (by rw [S0.out.2.2.1]; decide) S0.out.2.2.2.2.1 S0.out.2.2.2.2.2 S0.out.2.2.2.1 ⟨rfl, by simp, fun h => absurd h (by simp)⟩ (by simp) (fun _ w' _ => image_nil w')
      simp only [List.length_nil] at hask
      unfold kcells at hask
      go_upto_region 12 with (go_at_call 14; (with_reducible refine hask.mono ?_); rintro e w2 ⟨rfl, hh⟩)
      obtain ⟨kb, m2, y2, _⟩ := hh.out
      have st2 : Hid (Pat w w2 p b t bk (s0.wait kb 0)) := st.out.mod m2 (y2 hr.out).1
      clear hask hh m2 y2 wc
      go_loopw [7] (fun i wr => ∃ j : Nat, j ≤ 39 ∧ i = .int .i64 j ∧ Hid (Pat w wr p b t bk (s0.wait kb j))) (fun i _ => 39 - (intOf i).toNat)
      case atStart => exact ⟨0, by omega, rfl, st2⟩
      case round =>
        obtain ⟨j, hj, rfl, st⟩ := hrel
        clear st2
        have wc := st.out.c
        by_cases hlt : (j : Int) < 39
        · have htk := tick_wait b t 5 kb (fun _ => false) (s0.wait kb j) wr st.out.cd S0.out.2.1 st.out.tal S0.out.1 (by decide) S0.out.2.2.1 rfl (by show 1 < (40 : Int) - j; omega) (by show (40 : Int) - j ≤ 1000; omega)
          rw [CS.wait_tick] at htk
          go_wp2_with (first
            | (go_at_call 21; (with_reducible refine htk.mono ?_); rintro e w3 ⟨v, rfl, hh⟩
               have st3 : Hid (Pat w w3 p b t bk (s0.wait kb (j + 1))) := st.out.mod hh.out.2 hh.out.1
               have wc3 := st3.out.c
               have htake := take_no b _ w3 st3.out.cd (by show s0.n ≠ 0; rw [S0.out.1]; decide) S0.out.2.2.2.2.2
               unfold acells at htake)
            | (go_at_call 16; (with_reducible refine htake.mono ?_); rintro e w4 ⟨rfl, h4⟩))
          go_roundw
          case rel => exact ⟨j + 1, by omega, by go_num, (st3.out.bel h4.out).bel ((Below.refl _ _).alloc (Nat.le_refl _) _)⟩
          case measure => simp [intOf]; omega
        · obtain rfl : j = 39 := by omega
          have htk := tick_last b t 5 kb (fun _ => false) (s0.wait kb 39) wr st.out.cd S0.out.2.1 st.out.tal S0.out.1 (by decide) S0.out.2.2.1 rfl S0.out.2.2.2.1 rfl
          go_upto_region 19 with (go_at_call 21; (with_reducible refine htk.mono ?_); rintro e w3 ⟨v, rfl, hh⟩)
          obtain ⟨ab, hc3, ha3, hm3⟩ := hh.out
          have st3 : Hid (Pat w w3 p b t bk ((s0.wait kb 39).tick.done ab)) := st.out.mod hm3 hc3
          have wc3 := st3.out.c
          have htake := take_yes b ab _ 17 0 0 none none 0 0 0 0 w3 st3.out.cd (by show s0.n ≠ 0; rw [S0.out.1]; decide) rfl ha3
          unfold acells at htake
          clear hh htk wc hc3 ha3 hm3
          go_upto_region 20 with (go_at_call 16; (with_reducible refine htake.mono ?_); rintro e w4 ⟨rfl, h4⟩)
          have st4 : Hid (Pat w w4 p b t bk { (s0.wait kb 39).tick.done ab with answer := none }) := st3.out.mod h4.out.2 h4.out.1
          have st5 : Hid (Pat w (w4.alloc (.cells (acells 17 0 0 (.slice none 0 0) (.slice none 0 0)) 47)) p b t bk { (s0.wait kb 39).tick.done ab with answer := none }) := st4.out.bel ((Below.refl _ _).alloc (Nat.le_refl _) _)
          have X5 : Hid (Blk (w4.alloc (.cells (acells 17 0 0 (.slice none 0 0) (.slice none 0 0)) 47)) w4.heap.size (acells 17 0 0 (.slice none 0 0) (.slice none 0 0)) 47) := Blk.new _ _ _
          clear h4 htake wc3 st4
          change Code.wp _ _ _ _ (w4.alloc (.cells (acells 17 0 0 (.slice none 0 0) (.slice none 0 0)) 47))
          generalize w4.alloc (.cells (acells 17 0 0 (.slice none 0 0) (.slice none 0 0)) 47) = W5 at *
          generalize w4.heap.size = x5 at *
          have wc5 := st5.out.c
          have htake := take_no b _ W5 st5.out.cd (by show s0.n ≠ 0; rw [S0.out.1]; decide) rfl
          unfold acells at htake
          go_wp2_with (first
            | (go_at_call 16; (with_reducible refine htake.mono ?_); rintro e w6 ⟨rfl, h6⟩
               have e6 : w6.cell? ⟨x5, 0, none⟩ = some (.int .i64 17) := by (rw [(X5.out.same (h6.out.block x5 X5.out.lt)).cell]; rfl)
               have l6 : x5 < w6.heap.size := (X5.out.same (h6.out.block x5 X5.out.lt)).lt
               have bel6 : Hid (Below w.heap.size w w6) := st5.out.below.trans (h6.out.mono st5.out.below.size))
            | (go_at_call 20; (with_reducible refine (awake_calls _).mono ?_); rintro e w7 ⟨rfl, h7⟩))
          go_ret
          exact ⟨rfl, (bel6.out.alloc bel6.out.size _).trans (h7.out.mono (Nat.le_trans bel6.out.size (by simp)))⟩
theorem patience_law (kind before : Int) (w : World) (_ : (Lit.int .i64 kind).wf = true) (_ : (Lit.int .i64 before).wf = true) :
    Calls Tryz.prog 7 #[.int .i64 kind, .int .i64 before] w fun e w' => e = .returned (.bool true) ∧ Below w.heap.size w w' := by
  by_cases h : kind < 1 ∨ kind > 6 ∨ before < 0 ∨ before > 100
  · exact patience_bad kind before w h
  · obtain ⟨m, rfl⟩ := Int.eq_ofNat_of_zero_le (by omega : 0 ≤ before)
    exact patience_ok kind m w (by omega) (by omega) (by omega)
end Go.Proofs.YtcbecbalhnomcaaGreatDoor.Co
