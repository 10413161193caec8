/- What a step of the script does, by kinds: bending. -/
import Derived.Test.YtjfohacibijnoaaStep6
import Derived.StillTailTactics
namespace Go.Proofs.Ytjfohacibijnoaa.Net
open Go.RowKit Go.Proofs.YtjfohacibijnoaaW.PrintWords

/-- a row of texts of one's own, one of them changed -/
theorem lst_set {W : World} {g cap : Nat} {cur : Array Value} {L : List ByteArray} (hb : Blk W g cur 9) (h2 : L.length ≤ cap) (h3 : cap ≤ 9223372036854775807) (h4 : cur.size = cap) (h5 : ∀ i (hi : i < L.length), cur[i]? = some (.string L[i])) (i : Nat) (_hi : i < L.length) (t : ByteArray) :
    Lst (W.setCell ⟨g, i, none⟩ (.string t)) (.slice (some ⟨g, 0, none⟩) L.length cap) (L.set i t) := by
  refine ⟨_, cap, by rw [List.length_set], by rw [List.length_set]; exact h2, C_of_str (by rw [List.length_set]; omega) (fun _ => ⟨_, rfl, fun j hj => ?_⟩)⟩
  have hj' : j < L.length := by simpa using hj
  have hb8 := hb.set i (.string t)
  rw [show (⟨g, 0, none⟩ : Addr).add j = ⟨g, j, none⟩ from add_plain g j, hb8.cell, Array.getElem?_setIfInBounds]
  by_cases e : i = j
  · subst e
    rw [if_pos rfl, if_pos (by omega)]
    simp
  · rw [if_neg e, h5 j hj']
    simp [e]

set_option linter.unusedSimpArgs false in
set_option maxRecDepth 100000 in
set_option maxHeartbeats 4000000 in
theorem step_bend_in (i k : Nat) (Y : Int) (T : ByteArray) (b c : Nat) (v lv : Value) (L : List ByteArray) (x y : Int) (w : World) (st : Sc w b c v L x y lv) (hi : i < L.length) (hL : L.length < 4096) (s : ByteArray) (hs : L[i] = s) (hb : k < s.size) :
    Calls Try.prog 17 #[.pointer (some ⟨b, 0, none⟩), lv, .agg (opv 4 i k Y T)] w fun e w' => ∃ lv', e = .returned (.tuple #[lv', .bool true]) ∧ Hid (Stp w b c v lv w' lv' (L.set i (bentB s k hb Y)) x y) := by
  have m0 : (k : Int) ≥ 0 := by omega
  have m1 : (k : Int) < (s.size : Int) := by omega
  have m2 : 0 ≤ (k : Int) := by omega
  have n0 : (i : Int) ≥ 0 := by omega
  have n1 : (i : Int) < (L.length : Int) := by omega
  have n2 : 0 ≤ (i : Int) := by omega
  obtain ⟨A, c0, rfl, hc0, hC⟩ := id st.lst
  have hlen : L.length ≤ 9223372036854775807 := hC.2.1
  have B0 : Below w.heap.size w (w.alloc (.cells (opv 4 i k Y T) 40)) := (Below.refl _ w).alloc (Nat.le_refl _) _
  have O0 : Hid (Opc (w.alloc (.cells (opv 4 i k Y T) 40)) w.heap.size 4 i k Y T) := ⟨Blk.new _ _ _⟩
  have S0 : Hid (Sc (w.alloc (.cells (opv 4 i k Y T) 40)) b c v L x y (.slice A L.length c0)) := st.below B0
  have G0 : Hid (¬ Foot b c v w.heap.size) := fun h => by have := st.at_.foot_lt _ h; omega
  have ST : Hid (Sc w b c v L x y (.slice A L.length c0)) := st
  have BW : Hid (Below w.heap.size w (w.alloc (.cells (opv 4 i k Y T) 40))) := B0
  obtain ⟨ad, rfl, _⟩ := C_str hC i hi
  clear st B0 hC
  go_enter Try.func17, Try.ntmps17
  go_upto_region 1 with (fail)
  change Code.wp _ _ _ _ (w.alloc (.cells (opv 4 i k Y T) 40))
  generalize w.alloc (.cells (opv 4 i k Y T) 40) = W0 at *
  generalize hg : w.heap.size = g at *
  have HG : Hid (w.heap.size = g) := hg
  clear hg
  have BW' : Hid (Below w.heap.size w W0) := by rw [HG.out]; exact BW
  clear BW
  obtain ⟨o0, o1, o2, o3, o4⟩ := O0.out.c
  have htk := bend_at b c v L x y i k Y W0 S0.out.at_ hi s hs hb
  have HS : Hid (L[i] = s) := hs
  have lc0 : W0.cell? (ad.add i) = some (.string s) := by rw [← HS.out]; exact S0.out.lst.cell i hi
  clear hs
  by_cases t0 : (T.size : Int) > 200
  all_goals
    have t2 : (T.size : Int) > 200 → (200 : Int) ≤ (T.size : Int) := fun h => by omega
    try have t3 := t2 t0
    clear t2
    go_upto_region 36 with (first
      | (go_at_call 20; (with_reducible refine htk.mono ?_); rintro e w2 ⟨rfl, d⟩; have D2 : Hid (Did W0 b c v w2 (L.set i (bentB s k hb Y)) x y) := d; clear d; have l2 : Hid (Lst w2 (.slice (some ad) L.length c0) L) := S0.out.did D2.out; have p2 : Hid (Opc w2 g 4 i k Y T) := O0.out.did G0.out D2.out; obtain ⟨q0, q1, q2, q3, q4⟩ := p2.out.c; have lc2 : w2.cell? (ad.add i) = some (.string s) := (by rw [← HS.out]; exact l2.out.cell i hi)))
    go_quiet (fail)
    generalize hW3 : World.drewN w2 _ = w3
    have B3 : Hid (Below w2.heap.size w2 w3) := by rw [← hW3]; exact below_drewN _ _
    have l3 : Hid (Lst w3 (.slice (some ad) L.length c0) L) := by rw [← hW3]; exact l2.out
    have p3 : Hid (Opc w3 g 4 i k Y T) := by rw [← hW3]; exact ⟨p2.out.blk⟩
    have lc3 : w3.cell? (ad.add i) = some (.string s) := by rw [← hW3]; exact lc2
    obtain ⟨r0, r1, r2, r3, r4⟩ := p3.out.c
    have gl : Hid (g < w3.heap.size) := p3.out.blk.lt
    clear hW3 q0 q1 q2 q3 q4 lc2 o0 o1 o2 o3 o4 lc0
    have own0 : Hid ((w3.alloc (.cells #[] 9)).ownsRow w3.heap.size 9 1 (.slice (some ⟨w3.heap.size, 0, none⟩) 0 0) ([] : List ByteArray).length (encs Value.string [])) := own_none w3
    have bel0 : Hid (Below w3.heap.size w3 (w3.alloc (.cells #[] 9))) := (Below.refl _ w3).alloc (Nat.le_refl _) _
    have rd0 : Hid (ReadsOf Value.string ByteArray.empty (w3.alloc (.cells #[] 9)) (some ad) L.length L) := (l3.out.same (fun q hq => bel0.out.block q (l3.out.lt (by omega) q hq))).reads
    have hLL : Hid (L.length < 4096) := hL
    go_upto_region 38 with (first
      | ((with_reducible refine gate_builtin (b := .append) (xs := #[.tmp 171, .tmp 172]) rfl ?_); at_builtin
         refine print_append_row_of (w0 := w3) Value.string ByteArray.empty w3.heap.size rfl (.tmp 171) (.tmp 172) 22 9 (.string ⟨#[]⟩) 16 rfl Try.underlying22 info9 rfl (by decide) (fun _ => rfl) _ [] L (some ad) L.length c0 rfl rfl own0.out rd0.out bel0.out bel0.out.size (by have := hLL.out; simp; omega) ?_
         intro v1 W1 ho hb1 hg1 hat1
         rw [List.nil_append] at ho
         have own1 : Hid (Strs W1 v1 L) := ⟨ho.1, ho.2.imp id (fun ⟨g, cap, cur, a, _, r⟩ => ⟨g, cap, cur, a, Nat.zero_le _, r⟩)⟩
         have bel1 : Hid (Below w3.heap.size w3 W1) := hb1
         have far1 : Hid (∀ q, v1.ownBlock = some q → w3.heap.size ≤ q ∧ q < W1.heap.size) := fun q hq => ⟨(Lst.of_own ho).2 q hq |>.1, (Lst.of_own ho).2 q hq |>.2⟩
         clear ho hb1 hg1 hat1
         obtain ⟨g1, cap1, cur1, hv1, hb1, h2, h3, h4, h5⟩ := own1.out.row (by omega)
         subst hv1))
    have p4 : Hid (Opc W1 g 4 i k Y T) := p3.out.same (bel1.out.block g gl.out)
    obtain ⟨z0, z1, z2, z3, z4⟩ := p4.out.c
    have x1 : W1.cell? ⟨g1, i, none⟩ = some (.string s) := by rw [hb1.cell, h5 i hi, HS.out]
    have BK : Hid (Blk W1 g1 cur1 9) := hb1
    have H5 : Hid (∀ i (hi : i < L.length), cur1[i]? = some (.string L[i])) := h5
    have g1lt : Hid (g1 < W1.heap.size) := hb1.lt
    have H4 : Hid (cur1.size = cap1) := h4
    clear hb1 h5 r0 r1 r2 r3 r4 lc3 h4
    have hbent := fun W => bent_calls s k Y W hb
    have hne : g1 ≠ g := fun e => by
      have h1 := (far1.out g1 rfl).1
      have h2 := gl.out
      omega
    refine wp_region_noPanic ?_
    refine wp_region_held_drew (S := (fun w' => w'.cell? ⟨g, 1, none⟩ = some (.int .i64 i) ∧ w'.cell? ⟨g, 2, none⟩ = some (.int .i64 k) ∧ w'.cell? ⟨g, 3, none⟩ = some (.int .i64 Y))) (by kernel_rfl) (by simp [*]) (fun hHeld => ?_)
    refine wpAnyH_take (i := 0) (oi := _) (v := ?_) rfl (by kernel_rfl) (by kernel_rfl) (by kernel_rfl) (fun _ _ _ h => h) (Or.inl ⟨by rfl, ?_⟩) hHeld ?_
    rotate_left
    · intro w hSw
      go_simp
      try with_reducible rfl
    try simp only [Act.put, List.setIfInBounds_toArray, List.set_cons_zero, List.set_cons_succ]
    refine wpAnyH_take (i := 1) (oi := _) (v := ?_) rfl (by kernel_rfl) (by kernel_rfl) (by kernel_rfl) (fun _ _ _ h => h) (Or.inl ⟨by rfl, ?_⟩) hHeld ?_
    rotate_left
    · intro w hSw
      go_simp
      try with_reducible rfl
    try simp only [Act.put, List.setIfInBounds_toArray, List.set_cons_zero, List.set_cons_succ]
    refine wpAnyH_take (i := 2) (oi := _) (v := ?_) rfl (by kernel_rfl) (by kernel_rfl) (by kernel_rfl) (fun _ _ _ h => h) (Or.inl ⟨by rfl, ?_⟩) hHeld ?_
    rotate_left
    · intro w hSw
      go_simp
      try with_reducible rfl
    try simp only [Act.put, List.setIfInBounds_toArray, List.set_cons_zero, List.set_cons_succ]
    refine wpAnyH_take (i := 3) (oi := _) (v := ?_) rfl (by kernel_rfl) (by kernel_rfl) (by kernel_rfl) (fun _ _ _ h => h) (Or.inl ⟨by rfl, ?_⟩) hHeld ?_
    rotate_left
    · intro w hSw
      go_simp
      try with_reducible rfl
    try simp only [Act.put, List.setIfInBounds_toArray, List.set_cons_zero, List.set_cons_succ]
    refine wpAnyH_take (i := 4) (oi := _) (v := ?_) rfl (by kernel_rfl) (by kernel_rfl) (by kernel_rfl) (fun _ _ _ h => h) (Or.inl ⟨by rfl, ?_⟩) hHeld ?_
    rotate_left
    · intro w hSw
      go_simp
      try with_reducible rfl
    try simp only [Act.put, List.setIfInBounds_toArray, List.set_cons_zero, List.set_cons_succ]
    refine wpAnyH_take (i := 5) (oi := _) (v := ?_) rfl (by kernel_rfl) (by kernel_rfl) (by kernel_rfl) (fun _ _ _ h => h) (Or.inl ⟨by rfl, ?_⟩) hHeld ?_
    rotate_left
    · intro w hSw
      go_simp
      try with_reducible rfl
    try simp only [Act.put, List.setIfInBounds_toArray, List.set_cons_zero, List.set_cons_succ]
    refine wpAnyH_take (i := 6) (oi := _) (v := ?_) rfl (by kernel_rfl) (by kernel_rfl) (by kernel_rfl) (fun _ _ _ h => h) (Or.inl ⟨by rfl, ?_⟩) hHeld ?_
    rotate_left
    · intro w hSw
      go_simp
      try with_reducible rfl
    try simp only [Act.put, List.setIfInBounds_toArray, List.set_cons_zero, List.set_cons_succ]
    refine wpAnyH_take (i := 8) (oi := _) (v := ?_) rfl (by kernel_rfl) (by kernel_rfl) (by kernel_rfl) (fun _ _ _ h => h) (Or.inl ⟨by rfl, ?_⟩) hHeld ?_
    rotate_left
    · intro w hSw
      go_simp
      try with_reducible rfl
    try simp only [Act.put, List.setIfInBounds_toArray, List.set_cons_zero, List.set_cons_succ]
    refine wpAnyH_take (i := 9) (oi := _) (v := ?_) rfl (by kernel_rfl) (by kernel_rfl) (by kernel_rfl) (fun _ _ _ h => h) (Or.inl ⟨by rfl, ?_⟩) hHeld ?_
    rotate_left
    · intro w hSw
      go_simp
      try with_reducible rfl
    try simp only [Act.put, List.setIfInBounds_toArray, List.set_cons_zero, List.set_cons_succ]
    refine wpAnyH_take (i := 10) (oi := _) (v := ?_) rfl (by kernel_rfl) (by kernel_rfl) (by kernel_rfl) (fun _ _ _ h => h) (Or.inl ⟨by rfl, ?_⟩) hHeld ?_
    rotate_left
    · intro w hSw
      go_simp
      try with_reducible rfl
    try simp only [Act.put, List.setIfInBounds_toArray, List.set_cons_zero, List.set_cons_succ]
    refine wpAnyH_take (i := 11) (oi := _) (v := ?_) rfl (by kernel_rfl) (by kernel_rfl) (by kernel_rfl) (fun _ _ _ h => h) (Or.inl ⟨by rfl, ?_⟩) hHeld ?_
    rotate_left
    · intro w hSw
      go_simp
      try with_reducible rfl
    try simp only [Act.put, List.setIfInBounds_toArray, List.set_cons_zero, List.set_cons_succ]
    refine wpAnyH_ready (rs := [7]) (by kernel_rfl) (by simp) ?_
    refine AllReadyH.cons (o := _) rfl (fun K hK => ?_) AllReadyH.nil
    go_simp
    go_wp2_with fail
    refine hK.out _ _ hHeld (fun hHeld => ?_)
    clear hK K
    try simp only [Act.put, List.setIfInBounds_toArray, List.set_cons_zero, List.set_cons_succ]
    refine wpAnyH_ready (rs := [12]) (by kernel_rfl) (by simp) ?_
    refine AllReadyH.cons (o := _) rfl (fun K hK => ?_) AllReadyH.nil
    go_simp
    go_at_call 24
    (with_reducible refine (hbent _).mono ?_)
    rintro e W5 ⟨rfl, hB5⟩
    have B5 : Hid (Below W1.heap.size W1 W5) := (below_drewN W1 1).trans hB5
    have BK5 : Hid (Blk W5 g1 cur1 9) := BK.out.same (B5.out.block g1 g1lt.out)
    have p5 : Hid (Opc W5 g 4 i k Y T) := p4.out.same (B5.out.block g p4.out.blk.lt)
    obtain ⟨y0, y1, y2, y3, y4⟩ := p5.out.c
    have f5 : W5.frozen? ⟨g1, i, none⟩ = false := BK5.out.free i
    have y5 : W5.cell? ⟨g1, i, none⟩ = some (.string s) := by rw [BK5.out.cell, H5.out i hi, HS.out]
    clear hB5
    go_wp2
    refine hK.out _ _ ⟨y1, y2, y3⟩ (fun hHeld => ?_)
    clear hK K
    try simp only [Act.put, List.setIfInBounds_toArray, List.set_cons_zero, List.set_cons_succ]
    refine wpAnyH_take (i := 13) (oi := _) (v := ?_) rfl (by kernel_rfl) (by kernel_rfl) (by kernel_rfl) (fun _ _ _ h => h) (Or.inl ⟨by rfl, ?_⟩) hHeld ?_
    rotate_left
    · intro w hSw
      go_simp
      try with_reducible rfl
    try simp only [Act.put, List.setIfInBounds_toArray, List.set_cons_zero, List.set_cons_succ]
    refine wpAnyH_ready (rs := [14]) (by kernel_rfl) (by simp) ?_
    refine AllReadyH.cons (o := _) rfl (fun K hK => ?_) AllReadyH.nil
    go_simp
    refine hK.out _ _ (by simp [World.cell?_setCell_far, hne, y1, y2, y3]) (fun hHeld => ?_)
    clear hK K
    try simp only [Act.put, List.setIfInBounds_toArray, List.set_cons_zero, List.set_cons_succ]
    refine wpAnyH_done (by kernel_rfl) ?_ _
    refine NoPanic.normal ?_
    go_wp2
    go_ret2
    have hfin := lst_set BK5.out h2 h3 H4.out H5.out i hi (bentB s k hb Y)
    have hB : Below w2.heap.size w2 (W5.setCell ⟨g1, i, none⟩ (.string (bentB s k hb Y))) := ((B3.out.trans (bel1.out.mono B3.out.size)).trans (B5.out.mono (Nat.le_trans B3.out.size bel1.out.size))).setCell (Nat.le_trans B3.out.size (far1.out g1 rfl).1) _
    exact ⟨_, rfl, stp_new ST.out BW'.out D2.out hB hfin (fun q hq => by cases hq; exact ⟨Nat.le_trans B3.out.size (far1.out g1 rfl).1, by have := B5.out.size; have := g1lt.out; simp [World.setCell]; omega⟩)⟩
end Go.Proofs.Ytjfohacibijnoaa.Net
