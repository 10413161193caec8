/- The law of which coordinators there are, and how they begin. -/
import Derived.Test.YtcbecbalhnomcaaGreatDoorCoAwake
namespace Go.Proofs.YtcbecbalhnomcaaGreatDoor.Co
open Go.RowKit Go.Proofs.YtcbecbalhnomcaaGreatDoorW.PrintWords

set_option maxRecDepth 100000 in
set_option maxHeartbeats 2000000 in
theorem news_bad (id n stamp : Int) (w : World) (h : id < 0 ∨ id > 3 ∨ n < 1 ∨ n > 9 ∨ stamp < 1 ∨ stamp > 1099511627776) :
    Calls Tryz.prog 5 #[.int .i64 id, .int .i64 n, .int .i64 stamp] w fun e w' => e = .returned (.bool true) ∧ Below w.heap.size w w' := by
  have hid := ideal_calls w
  have hb1 := fun w1 => new_bad id n stamp (.pointer (some ⟨w.heap.size + 1, 0, none⟩)) w1 (by omega)
  have hb2 := fun w1 => new_bad 0 1 1 (.pointer none) w1 (by simp)
  have hoff := fun w1 => off_nil w1
  have haw := fun w1 => awake_calls w1
  have H : Hid (id < 0 ∨ id > 3 ∨ n < 1 ∨ n > 9 ∨ stamp < 1 ∨ stamp > 1099511627776) := h
  clear h
  go_enter Tryz.func5, Tryz.ntmps5
  go_upto_region 3 with (first
    | (go_at_call 25; (with_reducible refine hid.mono ?_); rintro e w1 ⟨rfl, hb⟩)
    | (go_at_call 24; (with_reducible refine (hb1 _).mono ?_); rintro e w' ⟨rfl, rfl⟩)
    | (go_at_call 24; (with_reducible refine (hb2 _).mono ?_); rintro e w' ⟨rfl, rfl⟩))
  have h := H.out
  rcases (by omega : id < 0 ∨ (¬ id < 0 ∧ id > 3) ∨ (¬ id < 0 ∧ ¬ id > 3 ∧ n < 1) ∨ (¬ id < 0 ∧ ¬ id > 3 ∧ ¬ n < 1 ∧ n > 9) ∨ (¬ id < 0 ∧ ¬ id > 3 ∧ ¬ n < 1 ∧ ¬ n > 9 ∧ stamp < 1) ∨ (¬ id < 0 ∧ ¬ id > 3 ∧ ¬ n < 1 ∧ ¬ n > 9 ∧ ¬ stamp < 1 ∧ stamp > 1099511627776)) with h1 | ⟨h1, h2⟩ | ⟨h1, h2, h3⟩ | ⟨h1, h2, h3, h4⟩ | ⟨h1, h2, h3, h4, h5⟩ | ⟨h1, h2, h3, h4, h5, h6⟩
  all_goals
    clear h
    go_wp2_with (first
      | (go_at_call 19; (with_reducible refine (hoff _).mono ?_); rintro e w' ⟨rfl, rfl⟩)
      | (go_at_call 20; (with_reducible refine (haw _).mono ?_); rintro e w4 ⟨rfl, h4⟩))
    go_ret
    exact ⟨rfl, hb.out.2.2.1.trans (h4.out.mono hb.out.2.2.1.size)⟩
set_option maxRecDepth 100000 in
set_option maxHeartbeats 2000000 in
theorem news_ok (id n stamp : Int) (w : World) (h1 : 0 ≤ id) (h2 : id ≤ 3) (h3 : 1 ≤ n) (h4 : n ≤ 9) (h5 : 1 ≤ stamp) (h6 : stamp ≤ 1099511627776) :
    Calls Tryz.prog 5 #[.int .i64 id, .int .i64 n, .int .i64 stamp] w fun e w' => e = .returned (.bool true) ∧ Below w.heap.size w w' := by
  have hid := ideal_calls w
  have hnew := fun w1 (hb : Bk w1 (w.heap.size + 1) w.heap.size) => new_ok id n stamp _ _ w1 hb h1 h2 h3 h4 h5 h6
  have hb2 := fun w1 => new_bad 0 1 1 (.pointer none) w1 (by simp)
  have g1 : ¬ id < 0 := by omega
  have g2 : ¬ id > 3 := by omega
  have g3 : ¬ n < 1 := by omega
  have g4 : ¬ n > 9 := by omega
  have g5 : ¬ stamp < 1 := by omega
  have g6 : ¬ stamp > 1099511627776 := by omega
  have e1 : stamp * 4 + id = 4 * stamp + id := by omega
  rw [e1] at hnew
  have hbd : 4 * stamp + id ≤ 9223372036854775807 := by omega
  have haw := fun w1 => awake_calls w1
  have hn0 : Hid (n ≠ 0) := by show n ≠ 0; omega
  have hself : ((4 * stamp + id : Int) == 4 * stamp + id) = true := by simp
  clear e1
  go_enter Tryz.func5, Tryz.ntmps5
  go_upto_region 3 with (first
    | (go_at_call 25; (with_reducible refine hid.mono ?_); rintro e w1 ⟨rfl, hb⟩)
    | (go_at_call 24; (with_reducible refine (hb2 _).mono ?_); rintro e w' ⟨rfl, rfl⟩)
    | (go_at_call 24; (with_reducible refine (hnew _ hb.out.1).mono ?_); rintro e w2 ⟨b, t, rfl, hn⟩))
  have C2 : Hid (∀ w', Below w2.heap.size w2 w' → Cd w' b (CS.init id n (4 * stamp + id) (w.heap.size + 1) t)) := fun w' hb => hn.out.1.same (hb.block b hn.out.1.lt)
  have BB : Hid (Below w2.heap.size w2 w2) := Below.refl _ _
  have hkn := fun w' hb => known_at b _ w' (C2.out w' hb) hn0.out
  have htk := fun w' hb => take_no b _ w' (C2.out w' hb) hn0.out rfl
  have hbl := fun w' hb => ballot_at b _ w' (C2.out w' hb) hn0.out
  have hld := fun w' hb => leads_at b _ w' (C2.out w' hb) hn0.out
  have hof := fun w' hb => off_at b _ w' (C2.out w' hb) hn0.out
  simp only [CS.init] at hkn hbl hld hof
  go_wp2_with (first
    | (go_at_call 23; (with_reducible refine (hkn _ BB.out).mono ?_); rintro e w3 ⟨rfl, hd⟩
       have B3 : Hid (Below w2.heap.size w2 w3) := hd.below
       clear hd)
    | (go_at_call 16; (with_reducible refine (htk _ B3.out).mono ?_); rintro e w4 ⟨rfl, h4⟩
       have B4 : Hid (Below w2.heap.size w2 (w4.alloc (.cells (acells 0 0 0 (.slice none 0 0) (.slice none 0 0)) 47))) := ((B3.out.trans (h4.out.mono B3.out.size)).alloc (Nat.le_trans B3.out.size h4.out.size) _)
       unfold acells at B4
       unfold acells)
    | (go_at_call 18; (with_reducible refine (hbl _ B4.out).mono ?_); rintro e w' ⟨rfl, rfl⟩)
    | (go_at_call 22; (with_reducible refine (hld _ B4.out).mono ?_); rintro e w' ⟨rfl, rfl⟩)
    | (go_at_call 19; (with_reducible refine (hof _ B4.out).mono ?_); rintro e w' ⟨rfl, rfl⟩)
    | (go_at_call 20; (with_reducible refine (haw _).mono ?_); rintro e w5 ⟨rfl, h5⟩))
  go_ret
  have s1 := hb.out.2.2.1.size
  have s2 := hn.out.2.2.1.size
  exact ⟨rfl, ((hb.out.2.2.1.trans (hn.out.2.2.1.mono s1)).trans (B4.out.mono (by omega))).trans (h5.out.mono (Nat.le_trans (by omega) B4.out.size))⟩
theorem news_law (id n stamp : Int) (w : World) (_ : (Lit.int .i64 id).wf = true) (_ : (Lit.int .i64 n).wf = true) (_ : (Lit.int .i64 stamp).wf = true) :
    Calls Tryz.prog 5 #[.int .i64 id, .int .i64 n, .int .i64 stamp] w fun e w' => e = .returned (.bool true) ∧ Below w.heap.size w w' := by
  by_cases h : id < 0 ∨ id > 3 ∨ n < 1 ∨ n > 9 ∨ stamp < 1 ∨ stamp > 1099511627776
  · exact news_bad id n stamp w h
  · exact news_ok id n stamp w (by omega) (by omega) (by omega) (by omega) (by omega) (by omega)
end Go.Proofs.YtcbecbalhnomcaaGreatDoor.Co
