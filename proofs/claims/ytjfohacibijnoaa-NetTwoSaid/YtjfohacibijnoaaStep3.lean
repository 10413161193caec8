/- What a step of the script does, by kinds: looking, taking, dropping. -/
import Derived.Test.YtjfohacibijnoaaStep1
import Derived.WalkSpells
import Derived.BigQuiet
namespace Go.Proofs.Ytjfohacibijnoaa.Net
open Go.RowKit Go.Proofs.YtjfohacibijnoaaW.PrintWords

set_option maxRecDepth 100000 in
set_option maxHeartbeats 4000000 in
theorem step_peek_in (N M Y : Int) (T : ByteArray) (b c : Nat) (v lv : Value) (L : List ByteArray) (x y : Int) (w : World) (st : Sc w b c v L x y lv) (hN : 0 ≤ N ∧ N < L.length) :
    Calls Try.prog 17 #[.pointer (some ⟨b, 0, none⟩), lv, .agg (opv 7 N M Y T)] w fun e w' => ∃ lv', e = .returned (.tuple #[lv', .bool true]) ∧ Hid (Stp w b c v lv w' lv' L x y) := by
  obtain ⟨i, rfl⟩ := Int.eq_ofNat_of_zero_le hN.1
  have hi : i < L.length := by omega
  have n0 : (i : Int) ≥ 0 := by omega
  have n1 : (i : Int) < (L.length : Int) := by omega
  have n2 : 0 ≤ (i : Int) := by omega
  obtain ⟨A, c0, rfl, hc0, hC⟩ := id st.lst
  have hlen : L.length ≤ 9223372036854775807 := hC.2.1
  have B0 : Below w.heap.size w (w.alloc (.cells (opv 7 i M Y T) 40)) := (Below.refl _ w).alloc (Nat.le_refl _) _
  have O0 : Hid (Opc (w.alloc (.cells (opv 7 i M Y T) 40)) w.heap.size 7 i M Y T) := ⟨Blk.new _ _ _⟩
  have S0 : Hid (Sc (w.alloc (.cells (opv 7 i M Y T) 40)) b c v L x y (.slice A L.length c0)) := st.below B0
  have G0 : Hid (¬ Foot b c v w.heap.size) := fun h => by have := st.at_.foot_lt _ h; omega
  have ST : Hid (Sc w b c v L x y (.slice A L.length c0)) := st
  have BW : Hid (Below w.heap.size w (w.alloc (.cells (opv 7 i M Y T) 40))) := B0
  obtain ⟨ad, rfl, _⟩ := C_str hC i hi
  clear st B0 hC
  go_enter Try.func17, Try.ntmps17
  go_upto_region 1 with (fail)
  change Code.wp _ _ _ _ (w.alloc (.cells (opv 7 i M Y T) 40))
  generalize w.alloc (.cells (opv 7 i M Y T) 40) = W0 at *
  generalize hg : w.heap.size = g at *
  have HG : Hid (w.heap.size = g) := hg
  clear hg
  have BW' : Hid (Below w.heap.size w W0) := by rw [HG.out]; exact BW
  clear BW
  obtain ⟨o0, o1, o2, o3, o4⟩ := O0.out.c
  have lc0 := S0.out.lst.cell i hi
  have hpk := peek_at b c v L x y i W0 S0.out.at_ hi
  generalize L[i] = s at *
  by_cases t0 : (T.size : Int) > 200
  all_goals
    have t2 : (T.size : Int) > 200 → (200 : Int) ≤ (T.size : Int) := fun h => by omega
    try have t3 := t2 t0
    clear t2
    go_wp2_with (first
      | (go_at_call 19; (with_reducible refine hpk.mono ?_); rintro e w2 ⟨rfl, rfl⟩))
    go_ret2
    exact ⟨_, rfl, stp_same ST.out BW'.out S0.out.at_.did (Below.refl _ _)⟩

set_option maxRecDepth 100000 in
set_option maxHeartbeats 4000000 in
theorem step_peek_out (N M Y : Int) (T : ByteArray) (b c : Nat) (v lv : Value) (L : List ByteArray) (x y : Int) (w : World) (st : Sc w b c v L x y lv) (hN : ¬ (0 ≤ N ∧ N < L.length)) :
    Calls Try.prog 17 #[.pointer (some ⟨b, 0, none⟩), lv, .agg (opv 7 N M Y T)] w fun e w' => ∃ lv', e = .returned (.tuple #[lv', .bool true]) ∧ Hid (Stp w b c v lv w' lv' L x y) := by
  obtain ⟨A, c0, rfl, hc0, hC⟩ := id st.lst
  have hlen : L.length ≤ 9223372036854775807 := hC.2.1
  have B0 : Below w.heap.size w (w.alloc (.cells (opv 7 N M Y T) 40)) := (Below.refl _ w).alloc (Nat.le_refl _) _
  have O0 : Hid (Opc (w.alloc (.cells (opv 7 N M Y T) 40)) w.heap.size 7 N M Y T) := ⟨Blk.new _ _ _⟩
  have S0 : Hid (Sc (w.alloc (.cells (opv 7 N M Y T) 40)) b c v L x y (.slice A L.length c0)) := st.below B0
  have G0 : Hid (¬ Foot b c v w.heap.size) := fun h => by have := st.at_.foot_lt _ h; omega
  have ST : Hid (Sc w b c v L x y (.slice A L.length c0)) := st
  have BW : Hid (Below w.heap.size w (w.alloc (.cells (opv 7 N M Y T) 40))) := B0
  clear st B0 hC
  go_enter Try.func17, Try.ntmps17
  go_upto_region 1 with (fail)
  change Code.wp _ _ _ _ (w.alloc (.cells (opv 7 N M Y T) 40))
  generalize w.alloc (.cells (opv 7 N M Y T) 40) = W0 at *
  generalize hg : w.heap.size = g at *
  have HG : Hid (w.heap.size = g) := hg
  clear hg
  have BW' : Hid (Below w.heap.size w W0) := by rw [HG.out]; exact BW
  clear BW
  obtain ⟨o0, o1, o2, o3, o4⟩ := O0.out.c
  have hpk := peek_no b c v L x y N W0 S0.out.at_ (by omega)
  by_cases t0 : (T.size : Int) > 200
  all_goals by_cases n0 : N ≥ 0
  all_goals by_cases n1 : N < (L.length : Int)
  all_goals try (exfalso; omega)
  all_goals
    have t2 : (T.size : Int) > 200 → (200 : Int) ≤ (T.size : Int) := fun h => by omega
    try have t3 := t2 t0
    clear t2
    go_wp2_with (first
      | (go_at_call 19; (with_reducible refine hpk.mono ?_); rintro e w2 ⟨rfl, rfl⟩))
    go_ret2
    exact ⟨_, rfl, stp_same ST.out BW'.out S0.out.at_.did (Below.refl _ _)⟩

set_option maxRecDepth 100000 in
set_option maxHeartbeats 4000000 in
theorem step_take_in (N M Y : Int) (T : ByteArray) (b c : Nat) (v lv : Value) (L : List ByteArray) (x y : Int) (w : World) (st : Sc w b c v L x y lv) (hN : 0 ≤ N ∧ N < L.length) (hL : L.length ≤ 1000000) :
    Calls Try.prog 17 #[.pointer (some ⟨b, 0, none⟩), lv, .agg (opv 1 N M Y T)] w fun e w' => ∃ lv', e = .returned (.tuple #[lv', .bool true]) ∧ Hid (Stp w b c v lv w' lv' (L.eraseIdx N.toNat) x y) := by
  obtain ⟨i, rfl⟩ := Int.eq_ofNat_of_zero_le hN.1
  have hi : i < L.length := by omega
  have n0 : (i : Int) ≥ 0 := by omega
  have n1 : (i : Int) < (L.length : Int) := by omega
  have n2 : 0 ≤ (i : Int) := by omega
  obtain ⟨A, c0, rfl, hc0, hC⟩ := id st.lst
  have hlen : L.length ≤ 9223372036854775807 := hC.2.1
  have B0 : Below w.heap.size w (w.alloc (.cells (opv 1 i M Y T) 40)) := (Below.refl _ w).alloc (Nat.le_refl _) _
  have O0 : Hid (Opc (w.alloc (.cells (opv 1 i M Y T) 40)) w.heap.size 1 i M Y T) := ⟨Blk.new _ _ _⟩
  have S0 : Hid (Sc (w.alloc (.cells (opv 1 i M Y T) 40)) b c v L x y (.slice A L.length c0)) := st.below B0
  have G0 : Hid (¬ Foot b c v w.heap.size) := fun h => by have := st.at_.foot_lt _ h; omega
  have ST : Hid (Sc w b c v L x y (.slice A L.length c0)) := st
  have BW : Hid (Below w.heap.size w (w.alloc (.cells (opv 1 i M Y T) 40))) := B0
  obtain ⟨ad, rfl, _⟩ := C_str hC i hi
  clear st B0 hC
  go_enter Try.func17, Try.ntmps17
  go_upto_region 1 with (fail)
  change Code.wp _ _ _ _ (w.alloc (.cells (opv 1 i M Y T) 40))
  generalize w.alloc (.cells (opv 1 i M Y T) 40) = W0 at *
  generalize hg : w.heap.size = g at *
  have HG : Hid (w.heap.size = g) := hg
  clear hg
  have BW' : Hid (Below w.heap.size w W0) := by rw [HG.out]; exact BW
  clear BW
  obtain ⟨o0, o1, o2, o3, o4⟩ := O0.out.c
  have lc0 := S0.out.lst.cell i hi
  have hpk := peek_at b c v L x y i W0 S0.out.at_ hi
  have htk := take_at b c v L x y i W0 S0.out.at_ hi
  by_cases t0 : (T.size : Int) > 200
  all_goals
    have t2 : (T.size : Int) > 200 → (200 : Int) ≤ (T.size : Int) := fun h => by omega
    try have t3 := t2 t0
    clear t2
    go_wp2_with (first
      | (go_at_call 19; (with_reducible refine hpk.mono ?_); rintro e w2 ⟨rfl, rfl⟩)
      | (go_at_call 10; (with_reducible refine htk.mono ?_); rintro e w2 ⟨rfl, d⟩; have D2 : Hid (Did W0 b c v w2 (L.eraseIdx i) x y) := d; clear d; have l2 : Hid (Lst w2 (.slice (some ad) L.length c0) L) := S0.out.did D2.out; have p2 : Hid (Opc w2 g 1 i M Y T) := O0.out.did G0.out D2.out; obtain ⟨q0, q1, q2, q3, q4⟩ := p2.out.c; have lc2 := l2.out.cell i hi)
      | (go_at_call 23; (with_reducible refine (without_at _ L i _ l2.out hL).mono ?_); rintro e w3 ⟨v3, rfl, h3⟩))
    go_ret2
    exact ⟨_, rfl, stp_new ST.out BW'.out D2.out h3.out.2.2 h3.out.1 h3.out.2.1⟩

set_option maxRecDepth 100000 in
set_option maxHeartbeats 4000000 in
theorem step_take_out (N M Y : Int) (T : ByteArray) (b c : Nat) (v lv : Value) (L : List ByteArray) (x y : Int) (w : World) (st : Sc w b c v L x y lv) (hN : ¬ (0 ≤ N ∧ N < L.length)) :
    Calls Try.prog 17 #[.pointer (some ⟨b, 0, none⟩), lv, .agg (opv 1 N M Y T)] w fun e w' => ∃ lv', e = .returned (.tuple #[lv', .bool true]) ∧ Hid (Stp w b c v lv w' lv' L x y) := by
  obtain ⟨A, c0, rfl, hc0, hC⟩ := id st.lst
  have hlen : L.length ≤ 9223372036854775807 := hC.2.1
  have B0 : Below w.heap.size w (w.alloc (.cells (opv 1 N M Y T) 40)) := (Below.refl _ w).alloc (Nat.le_refl _) _
  have O0 : Hid (Opc (w.alloc (.cells (opv 1 N M Y T) 40)) w.heap.size 1 N M Y T) := ⟨Blk.new _ _ _⟩
  have S0 : Hid (Sc (w.alloc (.cells (opv 1 N M Y T) 40)) b c v L x y (.slice A L.length c0)) := st.below B0
  have G0 : Hid (¬ Foot b c v w.heap.size) := fun h => by have := st.at_.foot_lt _ h; omega
  have ST : Hid (Sc w b c v L x y (.slice A L.length c0)) := st
  have BW : Hid (Below w.heap.size w (w.alloc (.cells (opv 1 N M Y T) 40))) := B0
  clear st B0 hC
  go_enter Try.func17, Try.ntmps17
  go_upto_region 1 with (fail)
  change Code.wp _ _ _ _ (w.alloc (.cells (opv 1 N M Y T) 40))
  generalize w.alloc (.cells (opv 1 N M Y T) 40) = W0 at *
  generalize hg : w.heap.size = g at *
  have HG : Hid (w.heap.size = g) := hg
  clear hg
  have BW' : Hid (Below w.heap.size w W0) := by rw [HG.out]; exact BW
  clear BW
  obtain ⟨o0, o1, o2, o3, o4⟩ := O0.out.c
  have hpk := peek_no b c v L x y N W0 S0.out.at_ (by omega)
  have htk := take_no_at _ N W0 hpk
  by_cases t0 : (T.size : Int) > 200
  all_goals by_cases n0 : N ≥ 0
  all_goals by_cases n1 : N < (L.length : Int)
  all_goals try (exfalso; omega)
  all_goals
    have t2 : (T.size : Int) > 200 → (200 : Int) ≤ (T.size : Int) := fun h => by omega
    try have t3 := t2 t0
    clear t2
    go_wp2_with (first
      | (go_at_call 19; (with_reducible refine hpk.mono ?_); rintro e w2 ⟨rfl, rfl⟩)
      | (go_at_call 10; (with_reducible refine htk.mono ?_); rintro e w2 ⟨rfl, rfl⟩))
    go_ret2
    exact ⟨_, rfl, stp_same ST.out BW'.out S0.out.at_.did (Below.refl _ _)⟩

set_option maxRecDepth 100000 in
set_option maxHeartbeats 4000000 in
theorem step_drop_in (N M Y : Int) (T : ByteArray) (b c : Nat) (v lv : Value) (L : List ByteArray) (x y : Int) (w : World) (st : Sc w b c v L x y lv) (hN : 0 ≤ N ∧ N < L.length) (hL : L.length ≤ 1000000) :
    Calls Try.prog 17 #[.pointer (some ⟨b, 0, none⟩), lv, .agg (opv 2 N M Y T)] w fun e w' => ∃ lv', e = .returned (.tuple #[lv', .bool true]) ∧ Hid (Stp w b c v lv w' lv' (L.eraseIdx N.toNat) x y) := by
  obtain ⟨i, rfl⟩ := Int.eq_ofNat_of_zero_le hN.1
  have hi : i < L.length := by omega
  have n0 : (i : Int) ≥ 0 := by omega
  have n1 : (i : Int) < (L.length : Int) := by omega
  have n2 : 0 ≤ (i : Int) := by omega
  obtain ⟨A, c0, rfl, hc0, hC⟩ := id st.lst
  have hlen : L.length ≤ 9223372036854775807 := hC.2.1
  have B0 : Below w.heap.size w (w.alloc (.cells (opv 2 i M Y T) 40)) := (Below.refl _ w).alloc (Nat.le_refl _) _
  have O0 : Hid (Opc (w.alloc (.cells (opv 2 i M Y T) 40)) w.heap.size 2 i M Y T) := ⟨Blk.new _ _ _⟩
  have S0 : Hid (Sc (w.alloc (.cells (opv 2 i M Y T) 40)) b c v L x y (.slice A L.length c0)) := st.below B0
  have G0 : Hid (¬ Foot b c v w.heap.size) := fun h => by have := st.at_.foot_lt _ h; omega
  have ST : Hid (Sc w b c v L x y (.slice A L.length c0)) := st
  have BW : Hid (Below w.heap.size w (w.alloc (.cells (opv 2 i M Y T) 40))) := B0
  obtain ⟨ad, rfl, _⟩ := C_str hC i hi
  clear st B0 hC
  go_enter Try.func17, Try.ntmps17
  go_upto_region 1 with (fail)
  change Code.wp _ _ _ _ (w.alloc (.cells (opv 2 i M Y T) 40))
  generalize w.alloc (.cells (opv 2 i M Y T) 40) = W0 at *
  generalize hg : w.heap.size = g at *
  have HG : Hid (w.heap.size = g) := hg
  clear hg
  have BW' : Hid (Below w.heap.size w W0) := by rw [HG.out]; exact BW
  clear BW
  obtain ⟨o0, o1, o2, o3, o4⟩ := O0.out.c
  have lc0 := S0.out.lst.cell i hi
  have htk := drop_at b c v L x y i W0 S0.out.at_ hi
  by_cases t0 : (T.size : Int) > 200
  all_goals
    have t2 : (T.size : Int) > 200 → (200 : Int) ≤ (T.size : Int) := fun h => by omega
    try have t3 := t2 t0
    clear t2
    go_wp2_with (first
      | (go_at_call 16; (with_reducible refine htk.mono ?_); rintro e w2 ⟨rfl, d⟩; have D2 : Hid (Did W0 b c v w2 (L.eraseIdx i) x y) := d; clear d; have l2 : Hid (Lst w2 (.slice (some ad) L.length c0) L) := S0.out.did D2.out; have p2 : Hid (Opc w2 g 2 i M Y T) := O0.out.did G0.out D2.out; obtain ⟨q0, q1, q2, q3, q4⟩ := p2.out.c; have lc2 := l2.out.cell i hi)
      | (go_at_call 23; (with_reducible refine (without_at _ L i _ l2.out hL).mono ?_); rintro e w3 ⟨v3, rfl, h3⟩))
    go_ret2
    exact ⟨_, rfl, stp_new ST.out BW'.out D2.out h3.out.2.2 h3.out.1 h3.out.2.1⟩

set_option maxRecDepth 100000 in
set_option maxHeartbeats 4000000 in
theorem step_drop_out (N M Y : Int) (T : ByteArray) (b c : Nat) (v lv : Value) (L : List ByteArray) (x y : Int) (w : World) (st : Sc w b c v L x y lv) (hN : ¬ (0 ≤ N ∧ N < L.length)) :
    Calls Try.prog 17 #[.pointer (some ⟨b, 0, none⟩), lv, .agg (opv 2 N M Y T)] w fun e w' => ∃ lv', e = .returned (.tuple #[lv', .bool true]) ∧ Hid (Stp w b c v lv w' lv' L x y) := by
  obtain ⟨A, c0, rfl, hc0, hC⟩ := id st.lst
  have hlen : L.length ≤ 9223372036854775807 := hC.2.1
  have B0 : Below w.heap.size w (w.alloc (.cells (opv 2 N M Y T) 40)) := (Below.refl _ w).alloc (Nat.le_refl _) _
  have O0 : Hid (Opc (w.alloc (.cells (opv 2 N M Y T) 40)) w.heap.size 2 N M Y T) := ⟨Blk.new _ _ _⟩
  have S0 : Hid (Sc (w.alloc (.cells (opv 2 N M Y T) 40)) b c v L x y (.slice A L.length c0)) := st.below B0
  have G0 : Hid (¬ Foot b c v w.heap.size) := fun h => by have := st.at_.foot_lt _ h; omega
  have ST : Hid (Sc w b c v L x y (.slice A L.length c0)) := st
  have BW : Hid (Below w.heap.size w (w.alloc (.cells (opv 2 N M Y T) 40))) := B0
  clear st B0 hC
  go_enter Try.func17, Try.ntmps17
  go_upto_region 1 with (fail)
  change Code.wp _ _ _ _ (w.alloc (.cells (opv 2 N M Y T) 40))
  generalize w.alloc (.cells (opv 2 N M Y T) 40) = W0 at *
  generalize hg : w.heap.size = g at *
  have HG : Hid (w.heap.size = g) := hg
  clear hg
  have BW' : Hid (Below w.heap.size w W0) := by rw [HG.out]; exact BW
  clear BW
  obtain ⟨o0, o1, o2, o3, o4⟩ := O0.out.c
  have htk := drop_no_at _ N W0 (peek_no b c v L x y N W0 S0.out.at_ (by omega))
  by_cases t0 : (T.size : Int) > 200
  all_goals by_cases n0 : N ≥ 0
  all_goals by_cases n1 : N < (L.length : Int)
  all_goals try (exfalso; omega)
  all_goals
    have t2 : (T.size : Int) > 200 → (200 : Int) ≤ (T.size : Int) := fun h => by omega
    try have t3 := t2 t0
    clear t2
    go_wp2_with (first
      | (go_at_call 16; (with_reducible refine htk.mono ?_); rintro e w2 ⟨rfl, rfl⟩))
    go_ret2
    exact ⟨_, rfl, stp_same ST.out BW'.out S0.out.at_.did (Below.refl _ _)⟩

end Go.Proofs.Ytjfohacibijnoaa.Net
