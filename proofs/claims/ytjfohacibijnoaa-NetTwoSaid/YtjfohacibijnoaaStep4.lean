/- What a step of the script does, by kinds: sending, copying, swapping. -/
import Derived.Test.YtjfohacibijnoaaStep1
import Derived.WalkSpells
import Derived.BigQuiet
namespace Go.Proofs.Ytjfohacibijnoaa.Net
open Go.RowKit Go.Proofs.YtjfohacibijnoaaW.PrintWords

theorem Lst.of_own {w : World} {base : Nat} {v : Value} {L : List ByteArray} (h : w.ownsRow base 9 1 v L.length (encs Value.string L)) : Lst w v L ∧ ∀ k, v.ownBlock = some k → base ≤ k ∧ k < w.heap.size := by
  have hs : Strs w v L := ⟨h.1, h.2.imp id (fun ⟨g, cap, cur, a, _, r⟩ => ⟨g, cap, cur, a, Nat.zero_le _, r⟩)⟩
  refine ⟨?_, fun k hk => ⟨?_, own_lt h k hk⟩⟩
  · obtain ⟨A, c, rfl, h1, h2⟩ := hs.form
    refine ⟨A, c, rfl, h1, C_of_str h2 (fun h0 => ?_)⟩
    obtain ⟨g, cap, cur, e, hb, _, _, _, h5⟩ := hs.row h0
    cases e
    refine ⟨_, rfl, fun i hi => ?_⟩
    rw [show (⟨g, 0, none⟩ : Addr).add i = ⟨g, i, none⟩ from add_plain g i, hb.cell]
    exact h5 i hi
  · rcases h.2 with ⟨rfl, _⟩ | ⟨g, cap, cur, rfl, hg, _⟩
    · cases hk
    · cases hk
      exact hg
theorem own_none (W : World) : (W.alloc (.cells #[] 9)).ownsRow W.heap.size 9 1 (.slice (some ⟨W.heap.size, 0, none⟩) 0 0) ([] : List ByteArray).length (encs Value.string []) := by
  have h := World.ownsRow_lit (base := W.heap.size) (e := 9) (size := 1) W #[] 0 (Nat.le_refl _) (by simp [maxLen]) (by simp)
  simpa [encs] using h
theorem Lst.reads {w : World} {A : Option Addr} {n c : Nat} {L : List ByteArray} (h : Lst w (.slice A n c) L) : ReadsOf Value.string ByteArray.empty w A L.length L := by
  obtain ⟨A', c', e, _, h2⟩ := h
  cases e
  refine ⟨rfl, h2.2.1, fun h0 => ?_⟩
  obtain ⟨ad, rfl, _⟩ := C_str h2 0 h0
  refine ⟨ad, rfl, fun j hj => ?_⟩
  obtain ⟨ad', e', hc⟩ := C_str h2 j hj
  cases e'
  rw [hc, List.getD_eq_getElem?_getD, List.getElem?_eq_getElem hj]
  rfl

set_option maxRecDepth 100000 in
set_option maxHeartbeats 4000000 in
theorem step_send (N M Y : Int) (T : ByteArray) (b c : Nat) (v lv : Value) (L : List ByteArray) (x y : Int) (w : World) (st : Sc w b c v L x y lv) (hL : L.length < 4096) (x0 : 0 ≤ x) (x1 : x ≤ 1000000) :
    Calls Try.prog 17 #[.pointer (some ⟨b, 0, none⟩), lv, .agg (opv 0 N M Y T)] w fun e w' => ∃ lv', e = .returned (.tuple #[lv', .bool true]) ∧ ∃ s, Hid (Stp w b c v lv w' lv' (L ++ [s]) (x + 1) y) := by
  obtain ⟨A, c0, rfl, hc0, hC⟩ := id st.lst
  have hlen : L.length ≤ 9223372036854775807 := hC.2.1
  have B0 : Below w.heap.size w (w.alloc (.cells (opv 0 N M Y T) 40)) := (Below.refl _ w).alloc (Nat.le_refl _) _
  have O0 : Hid (Opc (w.alloc (.cells (opv 0 N M Y T) 40)) w.heap.size 0 N M Y T) := ⟨Blk.new _ _ _⟩
  have S0 : Hid (Sc (w.alloc (.cells (opv 0 N M Y T) 40)) b c v L x y (.slice A L.length c0)) := st.below B0
  have G0 : Hid (¬ Foot b c v w.heap.size) := fun h => by have := st.at_.foot_lt _ h; omega
  have ST : Hid (Sc w b c v L x y (.slice A L.length c0)) := st
  have BW : Hid (Below w.heap.size w (w.alloc (.cells (opv 0 N M Y T) 40))) := B0
  clear st B0 hC
  go_enter Try.func17, Try.ntmps17
  go_upto_region 1 with (fail)
  change Code.wp _ _ _ _ (w.alloc (.cells (opv 0 N M Y T) 40))
  generalize w.alloc (.cells (opv 0 N M Y T) 40) = W0 at *
  generalize hg : w.heap.size = g at *
  have HG : Hid (w.heap.size = g) := hg
  clear hg
  have BW' : Hid (Below w.heap.size w W0) := by rw [HG.out]; exact BW
  clear BW
  obtain ⟨o0, o1, o2, o3, o4⟩ := O0.out.c
  have own0 : Hid ((W0.alloc (.cells #[] 9)).ownsRow W0.heap.size 9 1 (.slice (some ⟨W0.heap.size, 0, none⟩) 0 0) ([] : List ByteArray).length (encs Value.string [])) := own_none W0
  have bel0 : Hid (Below W0.heap.size W0 (W0.alloc (.cells #[] 9))) := (Below.refl _ W0).alloc (Nat.le_refl _) _
  have rd0 : Hid (ReadsOf Value.string ByteArray.empty (W0.alloc (.cells #[] 9)) A L.length L) := (S0.out.below bel0.out).lst.reads
  have hLL : Hid (L.length < 4096) := hL
  have SD : Hid (∀ W2 s, Below W0.heap.size W0 W2 → Calls Try.prog 9 #[.pointer (some ⟨b, 0, none⟩), .string s] W2 fun e w' => e = .returned (.bool true) ∧ Hid (Did W2 b c v w' (L ++ [s]) (x + 1) y)) := fun W2 s hb => send_at b c v L x y s W2 (S0.out.at_.below hb) hL x0 x1
  by_cases t0 : (T.size : Int) > 200
  all_goals by_cases n0 : N ≥ 0
  all_goals by_cases n1 : N < (L.length : Int)
  all_goals try (exfalso; omega)
  all_goals
    have t2 : (T.size : Int) > 200 → (200 : Int) ≤ (T.size : Int) := fun h => by omega
    try have t3 := t2 t0
    clear t2
    go_wp2_with (first
      | ((with_reducible refine gate_builtin (b := .append) (xs := #[.tmp 48, .tmp 49]) rfl ?_); at_builtin
         refine print_append_row_of (w0 := W0) Value.string ByteArray.empty W0.heap.size rfl (.tmp 48) (.tmp 49) 22 9 (.string ⟨#[]⟩) 16 rfl Try.underlying22 info9 rfl (by decide) (fun _ => rfl) _ [] L A L.length c0 rfl rfl own0.out rd0.out bel0.out bel0.out.size (by have := hLL.out; simp; omega) ?_
         intro v1 W1 ho hb hg hat
         rw [List.nil_append] at ho
         have own1 : Hid (W1.ownsRow W0.heap.size 9 1 v1 L.length (encs Value.string L)) := ho
         have bel1 : Hid (Below W0.heap.size W0 W1) := hb
         clear ho hb hg hat)
      | ((with_reducible refine gate_builtin (b := .append) (xs := #[.tmp 50, .tmp 52]) rfl ?_); at_builtin
         refine print_append_of (w0 := W0) Value.string W0.heap.size rfl (.tmp 50) (.tmp 52) 22 9 (.string ⟨#[]⟩) 16 rfl Try.underlying22 info9 rfl (by decide) v1 L _ rfl rfl rfl own1.out bel1.out bel1.out.size (by have := hLL.out; omega) ?_
         intro v2 W2 ho hb hg hat
         have own2 := Lst.of_own ho
         have bel2 : Hid (Below W0.heap.size W0 W2) := hb
         clear ho hb hg hat)
      | (go_at_call 9; (with_reducible refine (SD.out _ _ bel2.out).mono ?_); rintro e w2 ⟨rfl, d⟩))
    go_ret2
    exact ⟨_, rfl, _, stp_first ST.out (BW'.out.trans (bel2.out.mono BW'.out.size)) own2.1 (fun k hk => ⟨Nat.le_trans BW'.out.size (own2.2 k hk).1, (own2.2 k hk).2⟩) d.out⟩

set_option maxRecDepth 100000 in
set_option maxHeartbeats 4000000 in
theorem step_copy_out (N M Y : Int) (T : ByteArray) (b c : Nat) (v lv : Value) (L : List ByteArray) (x y : Int) (w : World) (st : Sc w b c v L x y lv) (hN : ¬ (0 ≤ N ∧ N < L.length)) :
    Calls Try.prog 17 #[.pointer (some ⟨b, 0, none⟩), lv, .agg (opv 3 N M Y T)] w fun e w' => ∃ lv', e = .returned (.tuple #[lv', .bool true]) ∧ Hid (Stp w b c v lv w' lv' L x y) := by
  obtain ⟨A, c0, rfl, hc0, hC⟩ := id st.lst
  have hlen : L.length ≤ 9223372036854775807 := hC.2.1
  have B0 : Below w.heap.size w (w.alloc (.cells (opv 3 N M Y T) 40)) := (Below.refl _ w).alloc (Nat.le_refl _) _
  have O0 : Hid (Opc (w.alloc (.cells (opv 3 N M Y T) 40)) w.heap.size 3 N M Y T) := ⟨Blk.new _ _ _⟩
  have S0 : Hid (Sc (w.alloc (.cells (opv 3 N M Y T) 40)) b c v L x y (.slice A L.length c0)) := st.below B0
  have G0 : Hid (¬ Foot b c v w.heap.size) := fun h => by have := st.at_.foot_lt _ h; omega
  have ST : Hid (Sc w b c v L x y (.slice A L.length c0)) := st
  have BW : Hid (Below w.heap.size w (w.alloc (.cells (opv 3 N M Y T) 40))) := B0
  clear st B0 hC
  go_enter Try.func17, Try.ntmps17
  go_upto_region 1 with (fail)
  change Code.wp _ _ _ _ (w.alloc (.cells (opv 3 N M Y T) 40))
  generalize w.alloc (.cells (opv 3 N M Y T) 40) = W0 at *
  generalize hg : w.heap.size = g at *
  have HG : Hid (w.heap.size = g) := hg
  clear hg
  have BW' : Hid (Below w.heap.size w W0) := by rw [HG.out]; exact BW
  clear BW
  obtain ⟨o0, o1, o2, o3, o4⟩ := O0.out.c
  have htk := copy_no_at _ N W0 (peek_no b c v L x y N W0 S0.out.at_ (by omega))
  by_cases t0 : (T.size : Int) > 200
  all_goals by_cases n0 : N ≥ 0
  all_goals by_cases n1 : N < (L.length : Int)
  all_goals try (exfalso; omega)
  all_goals
    have t2 : (T.size : Int) > 200 → (200 : Int) ≤ (T.size : Int) := fun h => by omega
    try have t3 := t2 t0
    clear t2
    go_wp2_with (first
      | (go_at_call 15; (with_reducible refine htk.mono ?_); rintro e w2 ⟨rfl, rfl⟩))
    go_ret2
    exact ⟨_, rfl, stp_same ST.out BW'.out S0.out.at_.did (Below.refl _ _)⟩

set_option maxRecDepth 100000 in
set_option maxHeartbeats 4000000 in
theorem step_swap_out (N M Y : Int) (T : ByteArray) (b c : Nat) (v lv : Value) (L : List ByteArray) (x y : Int) (w : World) (st : Sc w b c v L x y lv) (hN : ¬ (0 ≤ N ∧ N < L.length)) :
    Calls Try.prog 17 #[.pointer (some ⟨b, 0, none⟩), lv, .agg (opv 5 N M Y T)] w fun e w' => ∃ lv', e = .returned (.tuple #[lv', .bool true]) ∧ Hid (Stp w b c v lv w' lv' L x y) := by
  obtain ⟨A, c0, rfl, hc0, hC⟩ := id st.lst
  have hlen : L.length ≤ 9223372036854775807 := hC.2.1
  have B0 : Below w.heap.size w (w.alloc (.cells (opv 5 N M Y T) 40)) := (Below.refl _ w).alloc (Nat.le_refl _) _
  have O0 : Hid (Opc (w.alloc (.cells (opv 5 N M Y T) 40)) w.heap.size 5 N M Y T) := ⟨Blk.new _ _ _⟩
  have S0 : Hid (Sc (w.alloc (.cells (opv 5 N M Y T) 40)) b c v L x y (.slice A L.length c0)) := st.below B0
  have G0 : Hid (¬ Foot b c v w.heap.size) := fun h => by have := st.at_.foot_lt _ h; omega
  have ST : Hid (Sc w b c v L x y (.slice A L.length c0)) := st
  have BW : Hid (Below w.heap.size w (w.alloc (.cells (opv 5 N M Y T) 40))) := B0
  clear st B0 hC
  go_enter Try.func17, Try.ntmps17
  go_upto_region 1 with (fail)
  change Code.wp _ _ _ _ (w.alloc (.cells (opv 5 N M Y T) 40))
  generalize w.alloc (.cells (opv 5 N M Y T) 40) = W0 at *
  generalize hg : w.heap.size = g at *
  have HG : Hid (w.heap.size = g) := hg
  clear hg
  have BW' : Hid (Below w.heap.size w W0) := by rw [HG.out]; exact BW
  clear BW
  obtain ⟨o0, o1, o2, o3, o4⟩ := O0.out.c
  have htk := swap_no_at _ N W0 (peek_no b c v L x y N W0 S0.out.at_ (by omega)) M
  by_cases t0 : (T.size : Int) > 200
  all_goals by_cases n0 : N ≥ 0
  all_goals by_cases n1 : N < (L.length : Int)
  all_goals try (exfalso; omega)
  all_goals
    have t2 : (T.size : Int) > 200 → (200 : Int) ≤ (T.size : Int) := fun h => by omega
    try have t3 := t2 t0
    clear t2
    go_wp2_with (first
      | (go_at_call 21; (with_reducible refine htk.mono ?_); rintro e w2 ⟨rfl, rfl⟩))
    go_ret2
    exact ⟨_, rfl, stp_same ST.out BW'.out S0.out.at_.did (Below.refl _ _)⟩

set_option maxRecDepth 100000 in
set_option maxHeartbeats 4000000 in
theorem step_swap_out2 (N M Y : Int) (T : ByteArray) (b c : Nat) (v lv : Value) (L : List ByteArray) (x y : Int) (w : World) (st : Sc w b c v L x y lv) (hN : 0 ≤ N ∧ N < L.length) (hM : ¬ (0 ≤ M ∧ M < L.length)) :
    Calls Try.prog 17 #[.pointer (some ⟨b, 0, none⟩), lv, .agg (opv 5 N M Y T)] w fun e w' => ∃ lv', e = .returned (.tuple #[lv', .bool true]) ∧ Hid (Stp w b c v lv w' lv' L x y) := by
  obtain ⟨i, rfl⟩ := Int.eq_ofNat_of_zero_le hN.1
  have hi : i < L.length := by omega
  have n0 : (i : Int) ≥ 0 := by omega
  have n1 : (i : Int) < (L.length : Int) := by omega
  have n2 : 0 ≤ (i : Int) := by omega
  obtain ⟨A, c0, rfl, hc0, hC⟩ := id st.lst
  have hlen : L.length ≤ 9223372036854775807 := hC.2.1
  have B0 : Below w.heap.size w (w.alloc (.cells (opv 5 i M Y T) 40)) := (Below.refl _ w).alloc (Nat.le_refl _) _
  have O0 : Hid (Opc (w.alloc (.cells (opv 5 i M Y T) 40)) w.heap.size 5 i M Y T) := ⟨Blk.new _ _ _⟩
  have S0 : Hid (Sc (w.alloc (.cells (opv 5 i M Y T) 40)) b c v L x y (.slice A L.length c0)) := st.below B0
  have G0 : Hid (¬ Foot b c v w.heap.size) := fun h => by have := st.at_.foot_lt _ h; omega
  have ST : Hid (Sc w b c v L x y (.slice A L.length c0)) := st
  have BW : Hid (Below w.heap.size w (w.alloc (.cells (opv 5 i M Y T) 40))) := B0
  obtain ⟨ad, rfl, _⟩ := C_str hC i hi
  clear st B0 hC
  go_enter Try.func17, Try.ntmps17
  go_upto_region 1 with (fail)
  change Code.wp _ _ _ _ (w.alloc (.cells (opv 5 i M Y T) 40))
  generalize w.alloc (.cells (opv 5 i M Y T) 40) = W0 at *
  generalize hg : w.heap.size = g at *
  have HG : Hid (w.heap.size = g) := hg
  clear hg
  have BW' : Hid (Below w.heap.size w W0) := by rw [HG.out]; exact BW
  clear BW
  obtain ⟨o0, o1, o2, o3, o4⟩ := O0.out.c
  have lc0 := S0.out.lst.cell i hi
  have htk := swap_no2_at _ i M L[i] W0 (peek_at b c v L x y i W0 S0.out.at_ hi) (peek_no b c v L x y M W0 S0.out.at_ (by omega))
  by_cases m0 : M ≥ 0
  all_goals by_cases m1 : M < (L.length : Int)
  all_goals try (exfalso; omega)
  all_goals by_cases t0 : (T.size : Int) > 200
  all_goals
    have t2 : (T.size : Int) > 200 → (200 : Int) ≤ (T.size : Int) := fun h => by omega
    try have t3 := t2 t0
    clear t2
    go_wp2_with (first
      | (go_at_call 21; (with_reducible refine htk.mono ?_); rintro e w2 ⟨rfl, rfl⟩))
    go_ret2
    exact ⟨_, rfl, stp_same ST.out BW'.out S0.out.at_.did (Below.refl _ _)⟩

set_option maxRecDepth 100000 in
set_option maxHeartbeats 4000000 in
theorem step_swap_in (N M Y : Int) (T : ByteArray) (b c : Nat) (v lv : Value) (L : List ByteArray) (x y : Int) (w : World) (st : Sc w b c v L x y lv) (hN : 0 ≤ N ∧ N < L.length) (hM : 0 ≤ M ∧ M < L.length) (hL : L.length ≤ 1000000) :
    Calls Try.prog 17 #[.pointer (some ⟨b, 0, none⟩), lv, .agg (opv 5 N M Y T)] w fun e w' => ∃ lv', e = .returned (.tuple #[lv', .bool true]) ∧ Hid (Stp w b c v lv w' lv' ((L.set N.toNat (L.getD M.toNat ByteArray.empty)).set M.toNat (L.getD N.toNat ByteArray.empty)) x y) := by
  obtain ⟨i, rfl⟩ := Int.eq_ofNat_of_zero_le hN.1
  have hi : i < L.length := by omega
  obtain ⟨k, rfl⟩ := Int.eq_ofNat_of_zero_le hM.1
  have hk : k < L.length := by omega
  have m0 : (k : Int) ≥ 0 := by omega
  have m1 : (k : Int) < (L.length : Int) := by omega
  have n0 : (i : Int) ≥ 0 := by omega
  have n1 : (i : Int) < (L.length : Int) := by omega
  have n2 : 0 ≤ (i : Int) := by omega
  obtain ⟨A, c0, rfl, hc0, hC⟩ := id st.lst
  have hlen : L.length ≤ 9223372036854775807 := hC.2.1
  have B0 : Below w.heap.size w (w.alloc (.cells (opv 5 i k Y T) 40)) := (Below.refl _ w).alloc (Nat.le_refl _) _
  have O0 : Hid (Opc (w.alloc (.cells (opv 5 i k Y T) 40)) w.heap.size 5 i k Y T) := ⟨Blk.new _ _ _⟩
  have S0 : Hid (Sc (w.alloc (.cells (opv 5 i k Y T) 40)) b c v L x y (.slice A L.length c0)) := st.below B0
  have G0 : Hid (¬ Foot b c v w.heap.size) := fun h => by have := st.at_.foot_lt _ h; omega
  have ST : Hid (Sc w b c v L x y (.slice A L.length c0)) := st
  have BW : Hid (Below w.heap.size w (w.alloc (.cells (opv 5 i k Y T) 40))) := B0
  obtain ⟨ad, rfl, _⟩ := C_str hC i hi
  clear st B0 hC
  go_enter Try.func17, Try.ntmps17
  go_upto_region 1 with (fail)
  change Code.wp _ _ _ _ (w.alloc (.cells (opv 5 i k Y T) 40))
  generalize w.alloc (.cells (opv 5 i k Y T) 40) = W0 at *
  generalize hg : w.heap.size = g at *
  have HG : Hid (w.heap.size = g) := hg
  clear hg
  have BW' : Hid (Below w.heap.size w W0) := by rw [HG.out]; exact BW
  clear BW
  obtain ⟨o0, o1, o2, o3, o4⟩ := O0.out.c
  have lc0 := S0.out.lst.cell i hi
  have htk := swap_at b c v L x y i k W0 S0.out.at_ hi hk
  by_cases t0 : (T.size : Int) > 200
  all_goals
    have t2 : (T.size : Int) > 200 → (200 : Int) ≤ (T.size : Int) := fun h => by omega
    try have t3 := t2 t0
    clear t2
    go_wp2_with (first
      | (go_at_call 21; (with_reducible refine htk.mono ?_); rintro e w2 ⟨rfl, d⟩; have D2 : Hid (Did W0 b c v w2 ((L.set i L[k]).set k L[i]) x y) := d; clear d; have l2 : Hid (Lst w2 (.slice (some ad) L.length c0) L) := S0.out.did D2.out; have p2 : Hid (Opc w2 g 5 i k Y T) := O0.out.did G0.out D2.out; obtain ⟨q0, q1, q2, q3, q4⟩ := p2.out.c; have lc2 := l2.out.cell i hi)
      | (go_at_call 25; (with_reducible refine (swapped_at _ L i k _ l2.out hL hi hk).mono ?_); rintro e w3 ⟨v3, rfl, h3⟩))
    go_ret2
    exact ⟨_, rfl, by rw [show (L.getD ((k : Int)).toNat ByteArray.empty) = L[k] from by rw [Int.toNat_natCast, List.getD_eq_getElem?_getD, List.getElem?_eq_getElem hk]; rfl, show (L.getD ((i : Int)).toNat ByteArray.empty) = L[i] from by rw [Int.toNat_natCast, List.getD_eq_getElem?_getD, List.getElem?_eq_getElem hi]; rfl]; exact stp_new ST.out BW'.out D2.out h3.out.2.2 h3.out.1 h3.out.2.1⟩

end Go.Proofs.Ytjfohacibijnoaa.Net
