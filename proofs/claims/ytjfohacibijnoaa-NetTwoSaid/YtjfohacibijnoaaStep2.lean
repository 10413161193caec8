/- What a step of the script does, by kinds. -/
import Derived.Test.YtjfohacibijnoaaStep1
import Derived.WalkSpells
import Derived.BigQuiet
namespace Go.Proofs.Ytjfohacibijnoaa.Net
open Go.RowKit Go.Proofs.YtjfohacibijnoaaW.PrintWords

set_option maxRecDepth 100000 in
set_option maxHeartbeats 4000000 in
theorem step_clear (K N M Y : Int) (T : ByteArray) (b c : Nat) (v lv : Value) (L : List ByteArray) (x y : Int) (w : World) (st : Sc w b c v L x y lv)
    (k0 : (K == 0) = false) (k1 : (K == 1) = false) (k2 : (K == 2) = false) (k3 : (K == 3) = false) (k4 : (K == 4) = false) (k5 : (K == 5) = false) (k7 : (K == 7) = false) :
    Calls Try.prog 17 #[.pointer (some ⟨b, 0, none⟩), lv, .agg (opv K N M Y T)] w fun e w' => ∃ lv', e = .returned (.tuple #[lv', .bool true]) ∧ Hid (Stp w b c v lv w' lv' [] x y) := by
  obtain ⟨A, c0, rfl, hc0, hC⟩ := id st.lst
  have hlen : L.length ≤ 9223372036854775807 := hC.2.1
  have B0 : Below w.heap.size w (w.alloc (.cells (opv K N M Y T) 40)) := (Below.refl _ w).alloc (Nat.le_refl _) _
  have O0 : Hid (Opc (w.alloc (.cells (opv K N M Y T) 40)) w.heap.size K N M Y T) := ⟨Blk.new _ _ _⟩
  have S0 : Hid (Sc (w.alloc (.cells (opv K N M Y T) 40)) b c v L x y (.slice A L.length c0)) := st.below B0
  have G0 : Hid (¬ Foot b c v w.heap.size) := fun h => by have := st.at_.foot_lt _ h; omega
  have ST : Hid (Sc w b c v L x y (.slice A L.length c0)) := st
  have BW : Hid (Below w.heap.size w (w.alloc (.cells (opv K N M Y T) 40))) := B0
  clear st B0 hC
  go_enter Try.func17, Try.ntmps17
  go_upto_region 1 with (fail)
  change Code.wp _ _ _ _ (w.alloc (.cells (opv K N M Y T) 40))
  generalize w.alloc (.cells (opv K N M Y T) 40) = W0 at *
  generalize hg : w.heap.size = g at *
  have HG : Hid (w.heap.size = g) := hg
  clear hg
  have BW' : Hid (Below w.heap.size w W0) := by rw [HG.out]; exact BW
  clear BW
  obtain ⟨o0, o1, o2, o3, o4⟩ := O0.out.c
  have hclr := clear_at b c v L x y W0 S0.out.at_
  by_cases t0 : (T.size : Int) > 200
  all_goals by_cases n0 : N ≥ 0
  all_goals by_cases n1 : N < (L.length : Int)
  all_goals try (exfalso; omega)
  all_goals
    have t1 : ¬ (T.size : Int) > 200 → True := fun _ => trivial
    have t2 : (T.size : Int) > 200 → (200 : Int) ≤ (T.size : Int) := fun h => by omega
    try have t3 := t2 t0
    clear t1 t2
    go_wp2_with (go_at_call 12; (with_reducible refine hclr.mono ?_); rintro e w2 ⟨rfl, d⟩; have D2 : Hid (Did W0 b c v w2 [] x y) := d; clear d)
    go_ret2
    exact ⟨_, rfl, stp_new ST.out BW'.out D2.out (Below.refl _ _) (Lst.nil _) (fun k hk => by cases hk)⟩

end Go.Proofs.Ytjfohacibijnoaa.Net
