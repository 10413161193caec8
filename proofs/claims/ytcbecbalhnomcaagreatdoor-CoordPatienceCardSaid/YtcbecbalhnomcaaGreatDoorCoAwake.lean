/- A tick of a coordinator that asks for promises and has no call; the example that each law asks for at its end; a coordinator that nobody made. -/
import Derived.Test.YtcbecbalhnomcaaGreatDoorCoPrep
namespace Go.Proofs.YtcbecbalhnomcaaGreatDoor.Co
open Go.RowKit Go.Proofs.YtcbecbalhnomcaaGreatDoorW.PrintWords

theorem tick_prep (b t n : Nat) (S : Nat → Bool) (s : CS) (w : World) (h : Cd w b s) (hp : s.promised = some t) (tal : Tal w t n S) (hn : s.n = n) (h0 : n ≠ 0) (hph : s.phase = 1) (hcall : s.call = none) :
    Calls Tryz.prog 21 #[.pointer (some ⟨b, 0, none⟩)] w fun e w' => ∃ v, e = .returned v ∧ Hid (Ms w' w.heap.size v (asked s.id s.ballot S n) ∧ Below w.heap.size w w') := by
  have hno := none_at b s w h (by omega)
  have hprep := prepare_at b t n S s w h hp tal hn
  have h1 := h.c_phase
  rw [hph] at h1
  have h2 := h.c_call
  rw [hcall, ptr_none] at h2
  clear h hp hn tal hph hcall
  go_enter Tryz.func21, Tryz.ntmps21
  go_wp2_with (first
    | (go_at_call 33; (with_reducible refine hno.mono ?_); rintro e w' ⟨rfl, rfl⟩)
    | (go_at_call 47; (with_reducible refine hprep.mono ?_); rintro e w2 ⟨v, rfl, hh⟩))
  go_ret
  exact ⟨_, rfl, hh⟩

theorem awake_calls (w : World) : Calls Tryz.prog 20 #[] w fun e w' => e = .returned (.bool true) ∧ Hid (Below w.heap.size w w') := by
  have hid := ideal_calls w
  have hnew : ∀ w1, Bk w1 (w.heap.size + 1) w.heap.size → Calls Tryz.prog 24 #[.int .i64 1, .int .i64 3, .int .i64 1, .pointer (some ⟨w.heap.size + 1, 0, none⟩)] w1 fun e w' => ∃ b t, e = .returned (.tuple #[.pointer (some ⟨b, 0, none⟩), .int .i64 0]) ∧ Hid (Newly w1 w' 1 3 5 (w.heap.size + 1) b t) :=
    fun w1 h => new_ok 1 3 1 _ _ w1 h (by decide) (by decide) (by decide) (by decide) (by decide) (by decide)
  have htick : ∀ w2 w3 b t bk, Hid (Newly w2 w3 1 3 5 bk b t) → Calls Tryz.prog 21 #[.pointer (some ⟨b, 0, none⟩)] w3 fun e w' => ∃ v, e = .returned v ∧ Hid (Ms w' w3.heap.size v [Mg.bare 1 1 0 5, Mg.bare 1 1 1 5, Mg.bare 1 1 2 5] ∧ Below w3.heap.size w3 w') :=
    fun w2 w3 b t bk h => tick_prep b t 3 (fun _ => false) (CS.init 1 3 5 bk t) w3 h.out.1 rfl h.out.2.1 rfl (by decide) rfl rfl
  go_enter Tryz.func20, Tryz.ntmps20
  go_upto_region 3 with (first
    | (go_at_call 25; (with_reducible refine hid.mono ?_); rintro e w1 ⟨rfl, hb⟩)
    | (go_at_call 24; (with_reducible refine (hnew _ hb.out.1).mono ?_); rintro e w2 ⟨b, t, rfl, hn⟩)
    | (go_at_call 21; (with_reducible refine (htick _ _ _ _ _ hn).mono ?_); rintro e w3 ⟨v, rfl, hm⟩
       obtain ⟨g, c, rfl, _, hc, hcell⟩ := Ms.cell hm.out.1 (by decide)
       have c0 : w3.cell? ⟨g, 0, none⟩ = some (.int .i64 1) := hcell 0 (by decide) 0 (by decide)
       have c1 : w3.cell? ⟨g, 3, none⟩ = some (.int .i64 5) := hcell 0 (by decide) 3 (by decide)
       have c2 : w3.cell? ⟨g, 30, none⟩ = some (.int .i64 2) := hcell 2 (by decide) 2 (by decide)
       simp only [List.length_cons, List.length_nil, Nat.zero_add, Nat.reduceAdd]
       clear hcell))
  go_wp2
  go_ret
  exact ⟨rfl, (hb.out.2.2.1.trans (hn.out.2.2.1.mono hb.out.2.2.1.size)).trans (hm.out.2.mono (Nat.le_trans hb.out.2.2.1.size hn.out.2.2.1.size))⟩
end Go.Proofs.YtcbecbalhnomcaaGreatDoor.Co
