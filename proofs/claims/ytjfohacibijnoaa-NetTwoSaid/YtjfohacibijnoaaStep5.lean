/- What a step of the script does, by kinds: bending where nothing is bent. -/
import Derived.Test.YtjfohacibijnoaaStep1
import Derived.WalkSpells
import Derived.BigQuiet
namespace Go.Proofs.Ytjfohacibijnoaa.Net
open Go.RowKit Go.Proofs.YtjfohacibijnoaaW.PrintWords

theorem below_drewN {B : Nat} (w : World) (q : Nat) : Below B w (w.drewN q) := ⟨rfl, rfl, rfl, Nat.le_refl _, fun _ _ => rfl⟩
set_option maxRecDepth 100000 in
set_option maxHeartbeats 4000000 in
theorem step_bend_out (N M Y : Int) (T : ByteArray) (b c : Nat) (v lv : Value) (L : List ByteArray) (x y : Int) (w : World) (st : Sc w b c v L x y lv) (hN : ¬ (0 ≤ N ∧ N < L.length)) :
    Calls Try.prog 17 #[.pointer (some ⟨b, 0, none⟩), lv, .agg (opv 4 N M Y T)] w fun e w' => ∃ lv', e = .returned (.tuple #[lv', .bool true]) ∧ Hid (Stp w b c v lv w' lv' L x y) := by
  obtain ⟨A, c0, rfl, hc0, hC⟩ := id st.lst
  have hlen : L.length ≤ 9223372036854775807 := hC.2.1
  have B0 : Below w.heap.size w (w.alloc (.cells (opv 4 N M Y T) 40)) := (Below.refl _ w).alloc (Nat.le_refl _) _
  have O0 : Hid (Opc (w.alloc (.cells (opv 4 N M Y T) 40)) w.heap.size 4 N M Y T) := ⟨Blk.new _ _ _⟩
  have S0 : Hid (Sc (w.alloc (.cells (opv 4 N M Y T) 40)) b c v L x y (.slice A L.length c0)) := st.below B0
  have G0 : Hid (¬ Foot b c v w.heap.size) := fun h => by have := st.at_.foot_lt _ h; omega
  have ST : Hid (Sc w b c v L x y (.slice A L.length c0)) := st
  have BW : Hid (Below w.heap.size w (w.alloc (.cells (opv 4 N M Y T) 40))) := B0
  clear st B0 hC
  go_enter Try.func17, Try.ntmps17
  go_upto_region 1 with (fail)
  change Code.wp _ _ _ _ (w.alloc (.cells (opv 4 N M Y T) 40))
  generalize w.alloc (.cells (opv 4 N M Y T) 40) = W0 at *
  generalize hg : w.heap.size = g at *
  have HG : Hid (w.heap.size = g) := hg
  clear hg
  have BW' : Hid (Below w.heap.size w W0) := by rw [HG.out]; exact BW
  clear BW
  obtain ⟨o0, o1, o2, o3, o4⟩ := O0.out.c
  have htk := bend_no_at _ N W0 (peek_no b c v L x y N W0 S0.out.at_ (by omega)) M Y
  by_cases t0 : (T.size : Int) > 200
  all_goals by_cases n0 : N ≥ 0
  all_goals by_cases n1 : N < (L.length : Int)
  all_goals try (exfalso; omega)
  all_goals
    have t2 : (T.size : Int) > 200 → (200 : Int) ≤ (T.size : Int) := fun h => by omega
    try have t3 := t2 t0
    clear t2
    go_wp2_with (first
      | (go_at_call 20; (with_reducible refine htk.mono ?_); rintro e w2 ⟨rfl, rfl⟩))
    go_quiet (fail)
    go_wp2
    go_ret2
    exact ⟨_, rfl, stp_same ST.out BW'.out S0.out.at_.did (below_drewN _ _)⟩

set_option maxRecDepth 100000 in
set_option maxHeartbeats 4000000 in
theorem step_bend_far (N M Y : Int) (T : ByteArray) (b c : Nat) (v lv : Value) (L : List ByteArray) (x y : Int) (w : World) (st : Sc w b c v L x y lv) (hN : 0 ≤ N ∧ N < L.length) (hM : ∀ h : N.toNat < L.length, ¬ (0 ≤ M ∧ M < (L[N.toNat].size : Int))) :
    Calls Try.prog 17 #[.pointer (some ⟨b, 0, none⟩), lv, .agg (opv 4 N M Y T)] w fun e w' => ∃ lv', e = .returned (.tuple #[lv', .bool true]) ∧ Hid (Stp w b c v lv w' lv' L x y) := by
  obtain ⟨i, rfl⟩ := Int.eq_ofNat_of_zero_le hN.1
  have hi : i < L.length := by omega
  have n0 : (i : Int) ≥ 0 := by omega
  have n1 : (i : Int) < (L.length : Int) := by omega
  have n2 : 0 ≤ (i : Int) := by omega
  obtain ⟨A, c0, rfl, hc0, hC⟩ := id st.lst
  have hlen : L.length ≤ 9223372036854775807 := hC.2.1
  have B0 : Below w.heap.size w (w.alloc (.cells (opv 4 i M Y T) 40)) := (Below.refl _ w).alloc (Nat.le_refl _) _
  have O0 : Hid (Opc (w.alloc (.cells (opv 4 i M Y T) 40)) w.heap.size 4 i M Y T) := ⟨Blk.new _ _ _⟩
  have S0 : Hid (Sc (w.alloc (.cells (opv 4 i M Y T) 40)) b c v L x y (.slice A L.length c0)) := st.below B0
  have G0 : Hid (¬ Foot b c v w.heap.size) := fun h => by have := st.at_.foot_lt _ h; omega
  have ST : Hid (Sc w b c v L x y (.slice A L.length c0)) := st
  have BW : Hid (Below w.heap.size w (w.alloc (.cells (opv 4 i M Y T) 40))) := B0
  obtain ⟨ad, rfl, _⟩ := C_str hC i hi
  clear st B0 hC
  go_enter Try.func17, Try.ntmps17
  go_upto_region 1 with (fail)
  change Code.wp _ _ _ _ (w.alloc (.cells (opv 4 i M Y T) 40))
  generalize w.alloc (.cells (opv 4 i M Y T) 40) = W0 at *
  generalize hg : w.heap.size = g at *
  have HG : Hid (w.heap.size = g) := hg
  clear hg
  have BW' : Hid (Below w.heap.size w W0) := by rw [HG.out]; exact BW
  clear BW
  obtain ⟨o0, o1, o2, o3, o4⟩ := O0.out.c
  have lc0 := S0.out.lst.cell i hi
  have htk := bend_far b c v L x y i M Y W0 S0.out.at_ hi (by have := hM hi; simp only [Int.toNat_natCast] at this; omega)
  have hMi : ¬ (0 ≤ M ∧ M < (L[i].size : Int)) := by have := hM hi; simpa using this
  clear hM
  generalize L[i] = s at *
  by_cases m0 : M ≥ 0
  all_goals by_cases m1 : M < (s.size : Int)
  all_goals try (exfalso; omega)
  all_goals by_cases t0 : (T.size : Int) > 200
  all_goals
    have t2 : (T.size : Int) > 200 → (200 : Int) ≤ (T.size : Int) := fun h => by omega
    try have t3 := t2 t0
    clear t2
    have m2 : ¬ M ≥ 0 → decide (M ≥ 0) = false := fun h => decide_eq_false h
    try have m3 := m2 m0
    clear m2
    have m4 : ¬ M < (s.size : Int) → decide (M < (s.size : Int)) = false := fun h => decide_eq_false h
    try have m5 := m4 m1
    clear m4
    go_wp2_with (first
      | (go_at_call 20; (with_reducible refine htk.mono ?_); rintro e w2 ⟨rfl, rfl⟩))
    go_quiet (fail)
    go_wp2
    go_ret2
    exact ⟨_, rfl, stp_same ST.out BW'.out S0.out.at_.did (below_drewN _ _)⟩

end Go.Proofs.Ytjfohacibijnoaa.Net
