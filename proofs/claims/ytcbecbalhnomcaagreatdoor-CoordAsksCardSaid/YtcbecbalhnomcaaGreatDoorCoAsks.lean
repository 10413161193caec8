/- Which calls are taken, and what is told at once of those that are wrong: the law. -/
import Derived.Test.YtcbecbalhnomcaaGreatDoorTrB
import Derived.Test.YtcbecbalhnomcaaGreatDoorCoA
import Derived.Test.YtcbecbalhnomcaaGreatDoorShaped
import Derived.Deep.DeepCutAuto
import Derived.Deep.CutBlock
namespace Go.Proofs.YtcbecbalhnomcaaGreatDoor.Co
open Go.RowKit Go.Proofs.YtcbecbalhnomcaaGreatDoorW.PrintWords Go.Proofs.YtcbecbalhnomcaaGreatDoor.Build Go.Proofs.YtcbecbalhnomcaaGreatDoor.Tree

/-- a law's world, its coordinator, and the second call, boxed -/
structure AsSt (w0 w : World) (p b bk g1 : Nat) (s : CS) (k2 g2 : Int) (v2 : Value) : Prop where
  wd : Blk w p (wcells b bk 0 3 (.slice none 0 0) (.slice none 0 0) 0) 42
  cd : Cd w b s
  bx : Blk w g1 (kcells k2 g2 v2) 30
  below : Below w0.heap.size w0 w
  low : w0.heap.size ≤ b
section
variable {w0 w w' : World} {p b bk g1 : Nat} {s s' : CS} {k2 g2 : Int} {v2 : Value}
theorem AsSt.mod (h : AsSt w0 w p b bk g1 s k2 g2 v2) (hm : Mod (· = b) w w') (hc : Cd w' b s') : AsSt w0 w' p b bk g1 s' k2 g2 v2 :=
  ⟨h.wd.same (hm.block _ h.wd.lt (Blk.ne h.wd h.cd (by decide))), hc, h.bx.same (hm.block _ h.bx.lt (Blk.ne h.bx h.cd (by decide))), h.below.trans (hm.below (fun _ hk => hk ▸ h.low) h.below.size), h.low⟩
theorem AsSt.bel (h : AsSt w0 w p b bk g1 s k2 g2 v2) (hm : Below w.heap.size w w') : AsSt w0 w' p b bk g1 s k2 g2 v2 := h.mod (Mod.ofBelow hm) (h.cd.same (hm.block _ h.cd.lt))
theorem AsSt.held (h : AsSt w0 w p b bk g1 s k2 g2 v2) : w.cell? ⟨p, 0, none⟩ = some (.pointer (some ⟨b, 0, none⟩)) ∧ w.cell? ⟨g1, 0, none⟩ = some (.int .i64 k2) ∧ w.cell? ⟨g1, 1, none⟩ = some (.int .i64 g2) ∧ w.cell? ⟨g1, 2, none⟩ = some v2 :=
  ⟨h.wd.cell 0, h.bx.cell 0, h.bx.cell 1, h.bx.cell 2⟩
end
theorem ask_any {w w' : World} {b : Nat} {r : Int} {f : Nat → CS} {g : Nat → Nat → CS} {P : Nat → Prop} {Q : Nat → Prop} (h : ∃ kb, Mod (· = b) w w' ∧ (r = 0 → Cd w' b (f kb) ∧ P kb) ∧ (r ≠ 0 → ∃ ab, Cd w' b (g kb ab) ∧ Q ab)) : ∃ s, Cd w' b s := by
  obtain ⟨kb, _, h1, h2⟩ := h
  by_cases hr : r = 0
  · exact ⟨_, (h1 hr).1⟩
  · obtain ⟨ab, hc, _⟩ := h2 hr
    exact ⟨_, hc⟩
set_option linter.unusedSimpArgs false in
set_option maxRecDepth 100000 in
set_option maxHeartbeats 8000000 in
theorem asks_law (k g k2 g2 m : Int) (A A2 : Option Addr) (c c2 : Nat) (l l2 : List Fi) (w : World) (hC : Kd.C kFi w A l.length l) (hC2 : Kd.C kFi w A2 l2.length l2) (hm : w.cell? ⟨0, 0, none⟩ = some (.int .i64 m)) :
    Calls Tryz.prog 6 #[.agg (kcells k g (.slice A l.length c)), .agg (kcells k2 g2 (.slice A2 l2.length c2))] w fun e w' => e = .returned (.bool true) ∧ Below w.heap.size w w' := by
  have h0 : (0 : Nat) < w.heap.size := World.block_lt_of_cell? w _ hm
  have B0 : Hid (Below w.heap.size w ((w.alloc (.cells (kcells k g (.slice A l.length c)) 30)).alloc (.cells (kcells k2 g2 (.slice A2 l2.length c2)) 30))) := ((Below.refl _ w).alloc (Nat.le_refl _) _).alloc (by simp) _
  have K0 : Hid (Blk ((w.alloc (.cells (kcells k g (.slice A l.length c)) 30)).alloc (.cells (kcells k2 g2 (.slice A2 l2.length c2)) 30)) w.heap.size (kcells k g (.slice A l.length c)) 30) := (Blk.new w _ _).same (Below.heap_alloc _ _ _ (by simp))
  have X0 : Hid (Blk ((w.alloc (.cells (kcells k g (.slice A l.length c)) 30)).alloc (.cells (kcells k2 g2 (.slice A2 l2.length c2)) 30)) (w.heap.size + 1) (kcells k2 g2 (.slice A2 l2.length c2)) 30) := by
    have := Blk.new (w.alloc (.cells (kcells k g (.slice A l.length c)) 30)) (kcells k2 g2 (.slice A2 l2.length c2)) 30
    rw [show (w.alloc (.cells (kcells k g (.slice A l.length c)) 30)).heap.size = w.heap.size + 1 from by simp] at this
    exact this
  have HC : Hid (∀ wq, Below w.heap.size w wq → Kd.C kFi wq A l.length l) := fun wq hb => Kd.C_below hC hb
  have HC2 : Hid (∀ wq, Below w.heap.size w wq → Kd.C kFi wq A2 l2.length l2) := fun wq hb => Kd.C_below hC2 hb
  have HM : Hid (∀ wq, Below w.heap.size w wq → wq.cell? ⟨0, 0, none⟩ = some (.int .i64 m)) := fun wq hb => pw_cell_below hb hm
  clear hC hC2 hm
  go_enter Tryz.func6, Tryz.ntmps6
  go_upto_region 1 with (fail)
  change Code.wp _ _ _ _ ((w.alloc (.cells (kcells k g (.slice A l.length c)) 30)).alloc (.cells (kcells k2 g2 (.slice A2 l2.length c2)) 30))
  generalize (w.alloc (.cells (kcells k g (.slice A l.length c)) 30)).alloc (.cells (kcells k2 g2 (.slice A2 l2.length c2)) 30) = W0 at *
  generalize hg0 : w.heap.size = g0 at *
  generalize hg1 : g0 + 1 = g1 at *
  have HG : Hid (w.heap.size = g0 ∧ g0 + 1 = g1) := ⟨hg0, hg1⟩
  clear hg0 hg1
  have hfr := fresh_ok 0 3 1 W0 (by decide) (by decide) (by decide) (by decide) (by decide) (by decide)
  go_upto_region 4 with (go_at_call 12; (with_reducible refine hfr.mono ?_); rintro e w1 ⟨p, rfl, hf⟩)
  obtain ⟨b, t, bk, mk, f⟩ := hf.out
  generalize hs0 : CS.init 0 3 (1 * 4 + 0) bk t = s0 at *
  have S0 : Hid (s0.n ≠ 0 ∧ s0.phase ≠ 0 ∧ s0.call = none ∧ s0.answer = none ∧ s0.job = none) := by subst hs0; exact ⟨fun h => absurd h (by decide : (3 : Int) ≠ 0), fun h => absurd h (by decide : (1 : Int) ≠ 0), rfl, rfl, rfl⟩
  have gs : Hid (g0 ≤ W0.heap.size) := by have := B0.out.size; have := HG.out; show _ ≤ _; omega
  have st1 : Hid (AsSt w w1 p b bk g1 s0 k2 g2 (.slice A2 l2.length c2)) := ⟨f.wd, hs0 ▸ f.cd, X0.out.same (f.below.block _ X0.out.lt), by (have h1 := B0.out; rw [← HG.out.1] at h1; exact h1.trans (f.below.mono (by have := h1.size; omega))), by have := f.low.2.1; have := gs.out; have := HG.out.1; omega⟩
  have K1 : Hid (Blk w1 g0 (kcells k g (.slice A l.length c)) 30) := K0.out.same (f.below.block _ K0.out.lt)
  clear hfr hf f hs0 K0 X0 B0
  have hfew := few_calls k g A c l w1 (HC.out w1 (by rw [← HG.out.1]; exact st1.out.below))
  unfold kcells at hfew
  have k0 : w1.cell? ⟨g0, 0, none⟩ = some (.int .i64 k) := K1.out.cell 0
  have k1 : w1.cell? ⟨g0, 1, none⟩ = some (.int .i64 g) := K1.out.cell 1
  have k2' : w1.cell? ⟨g0, 2, none⟩ = some (.slice A l.length c) := K1.out.cell 2
  go_upto_region 5 with (go_at_call 15; (with_reducible refine hfew.mono ?_); rintro e w2 ⟨A', c', rfl, h2⟩)
  have st3 : Hid (AsSt w (w2.alloc (.cells (kcells k g (.slice A' (fewL l).length c')) 30)) p b bk g1 s0 k2 g2 (.slice A2 l2.length c2)) := (st1.out.bel h2.out.2).bel ((Below.refl _ w2).alloc (Nat.le_refl _) _)
  have K3 : Hid (Blk (w2.alloc (.cells (kcells k g (.slice A' (fewL l).length c')) 30)) w2.heap.size (kcells k g (.slice A' (fewL l).length c')) 30) := Blk.new _ _ _
  have R3 : Hid (Kd.R kFi 93 (w2.alloc (.cells (kcells k g (.slice A' (fewL l).length c')) 30)) w1.heap.size (fun _ => True) (.slice A' (fewL l).length c') (fewL l)) := Kd.R_alloc h2.out.1 _
  clear h2 hfew k0 k1 k2' st1 K1
  change Code.wp _ _ _ _ (w2.alloc (.cells (kcells k g (.slice A' (fewL l).length c')) 30))
  generalize w2.alloc (.cells (kcells k g (.slice A' (fewL l).length c')) 30) = W3 at *
  generalize w2.heap.size = gK at *
  generalize w1.heap.size = base at *
  have k0 : W3.cell? ⟨gK, 0, none⟩ = some (.int .i64 k) := K3.out.cell 0
  have k1 : W3.cell? ⟨gK, 1, none⟩ = some (.int .i64 g) := K3.out.cell 1
  have k2' : W3.cell? ⟨gK, 2, none⟩ = some (.slice A' (fewL l).length c') := K3.out.cell 2
  go_upto_block 0 with (fail)
  go_cut [7] (fun v wx => v = .int .i64 (rightE k g (errF l)) ∧ Hid (Below W3.heap.size W3 wx))
  case first =>
    have B3 : Hid (Below W3.heap.size W3 W3) := Below.refl _ _
    obtain ⟨r1, r2, r3⟩ := Kd.R_reads' R3.out
    have hrf := ref_few A' c' l W3 r3 r2
    clear r1 r2 r3
    by_cases c1 : k = 1
    · have e : Hid (rightE k g (errF l) = errF l) := by show _ = _; unfold rightE; rw [if_pos c1]
      subst c1
      go_wp2_with (go_at_call 26; (with_reducible refine hrf.mono ?_); rintro e w4 ⟨rfl, h4⟩)
      go_meet
      exact ⟨congrArg (Value.int .i64) e.out.symm, h4⟩
    clear hrf
    by_cases c3 : k = 3
    · subst c3
      by_cases hg : g < 0
      · go_wp2
        go_meet
        exact ⟨by simp [rightE, hg], B3⟩
      · go_wp2
        go_meet
        exact ⟨by simp [rightE, hg], B3⟩
    by_cases c5 : k = 5
    · subst c5
      by_cases hg : g < 0
      · go_wp2
        go_meet
        exact ⟨by simp [rightE, hg], B3⟩
      · go_wp2
        go_meet
        exact ⟨by simp [rightE, hg], B3⟩
    by_cases c2 : k = 2
    · subst c2
      go_wp2
      go_meet
      exact ⟨by simp [rightE], B3⟩
    by_cases c4 : k = 4
    · subst c4
      go_wp2
      go_meet
      exact ⟨by simp [rightE], B3⟩
    by_cases c6 : k = 6
    · subst c6
      go_wp2
      go_meet
      exact ⟨by simp [rightE], B3⟩
    have b1 : (k == 1) = false := by simpa using c1
    have b2 : (k == 2) = false := by simpa using c2
    have b3 : (k == 3) = false := by simpa using c3
    have b4 : (k == 4) = false := by simpa using c4
    have b5 : (k == 5) = false := by simpa using c5
    have b6 : (k == 6) = false := by simpa using c6
    go_wp2
    go_meet
    exact ⟨by simp [rightE, c1, c2, c3, c4, c5, c6], B3⟩
  case rest =>
    obtain ⟨rfl, hB⟩ := hcut
    have st4 : Hid (AsSt w wc p b bk g1 s0 k2 g2 (.slice A2 l2.length c2)) := st3.out.bel hB.out
    have K4 : Hid (Blk wc gK (kcells k g (.slice A' (fewL l).length c')) 30) := K3.out.same (hB.out.block _ K3.out.lt)
    have R4 : Hid (Kd.R kFi 93 wc base (fun _ => True) (.slice A' (fewL l).length c') (fewL l)) := Kd.R_below R3.out hB.out
    clear hB st3 K3 R3 k0 k1 k2'
    generalize wc = W4 at *
    have k0 : W4.cell? ⟨gK, 0, none⟩ = some (.int .i64 k) := K4.out.cell 0
    have k1 : W4.cell? ⟨gK, 1, none⟩ = some (.int .i64 g) := K4.out.cell 1
    have k2' : W4.cell? ⟨gK, 2, none⟩ = some (.slice A' (fewL l).length c') := K4.out.cell 2
    obtain ⟨x0, x1, x2, x3⟩ := st4.out.held
    have b0 : Hid (0 < b) := by have := st4.out.low; have := HG.out.1; show _ < _; omega
    have hask := ask_few b s0 k g m A' c' base l W4.drew (st4.out.bel ((Below.refl _ _).drew)).cd S0.out.1 S0.out.2.1 S0.out.2.2.1 S0.out.2.2.2.1 S0.out.2.2.2.2 (Kd.R_drew R4.out) (HM.out _ (by have := (st4.out.bel ((Below.refl _ _).drew)).below; rw [HG.out.1] at this; exact this)) b0.out
    unfold kcells at hask
    generalize hrr : rightE k g (errF l) = r at *
    have HRR : Hid (rightE k g (errF l) = r) := hrr
    clear hrr
    go_upto_region 17 with (fail)
    go_still_tail 5, (by kernel_rfl)
    change wpList _ _ _ _ _ W4.drew
    by_cases hr : r = 0
    · go_upto_region 18 with (go_at_call 14; (with_reducible refine hask.mono ?_); rintro e w5 ⟨rfl, h5⟩)
      obtain ⟨kb, m5, z5, _⟩ := h5.out
      have st5 : Hid (AsSt w w5 p b bk g1 (s0.asks kb) k2 g2 (.slice A2 l2.length c2)) := (st4.out.bel ((Below.refl _ _).drew)).mod m5 (z5 hr).1
      clear h5 m5 z5 hask x0 x1 x2 x3 k0 k1 k2' st4 K4 R4
      have st5d : Hid (AsSt w w5.drew p b bk g1 (s0.asks kb) k2 g2 (.slice A2 l2.length c2)) := st5.out.bel ((Below.refl _ _).drew)
      have hfew := few_calls k2 g2 A2 c2 l2 w5.drew (HC2.out _ (by have := st5d.out.below; rw [HG.out.1] at this; exact this))
      unfold kcells at hfew
      refine Held.start 7 (fun w' => w'.cell? ⟨p, 0, none⟩ = some (.pointer (some ⟨b, 0, none⟩)) ∧ w'.cell? ⟨g1, 0, none⟩ = some (.int .i64 k2) ∧ w'.cell? ⟨g1, 1, none⟩ = some (.int .i64 g2) ∧ w'.cell? ⟨g1, 2, none⟩ = some (.slice A2 l2.length c2)) (by kernel_rfl) st5d.out.held (fun hHeld => ?_)
      refine Held.take (i := 0) (oi := _) (v := ?_) rfl (by kernel_rfl) (by kernel_rfl) (by kernel_rfl) (by decide) (by kernel_rfl) (fun _ _ _ h => h) hHeld ?_ (by rfl) ?_
      rotate_left
      · intro w hSw
        go_simp
        try with_reducible rfl
      try simp only [Act.put, List.setIfInBounds_toArray, List.set_cons_zero, List.set_cons_succ]
      refine Held.take (i := 1) (oi := _) (v := ?_) rfl (by kernel_rfl) (by kernel_rfl) (by kernel_rfl) (by decide) (by kernel_rfl) (fun _ _ _ h => h) hHeld ?_ (by rfl) ?_
      rotate_left
      · intro w hSw
        go_simp
        try with_reducible rfl
      try simp only [Act.put, List.setIfInBounds_toArray, List.set_cons_zero, List.set_cons_succ]
      refine Held.take (i := 2) (oi := _) (v := ?_) rfl (by kernel_rfl) (by kernel_rfl) (by kernel_rfl) (by decide) (by kernel_rfl) (fun _ _ _ h => h) hHeld ?_ (by rfl) ?_
      rotate_left
      · intro w hSw
        go_simp
        try with_reducible rfl
      try simp only [Act.put, List.setIfInBounds_toArray, List.set_cons_zero, List.set_cons_succ]
      refine Held.take (i := 3) (oi := _) (v := ?_) rfl (by kernel_rfl) (by kernel_rfl) (by kernel_rfl) (by decide) (by kernel_rfl) (fun _ _ _ h => h) hHeld ?_ (by rfl) ?_
      rotate_left
      · intro w hSw
        go_simp
        try with_reducible rfl
      try simp only [Act.put, List.setIfInBounds_toArray, List.set_cons_zero, List.set_cons_succ]
      refine Held.take (i := 4) (oi := _) (v := ?_) rfl (by kernel_rfl) (by kernel_rfl) (by kernel_rfl) (by decide) (by kernel_rfl) (fun _ _ _ h => h) hHeld ?_ (by rfl) ?_
      rotate_left
      · intro w hSw
        go_simp
        try with_reducible rfl
      try simp only [Act.put, List.setIfInBounds_toArray, List.set_cons_zero, List.set_cons_succ]
      refine Held.one (i := 5) (by kernel_rfl) rfl (fun K hK => ?_)
      go_simp
      (with_reducible refine hfew.mono ?_)
      rintro e' v6 ⟨A6, c6, rfl, h6⟩
      have st6 : Hid (AsSt w v6 p b bk g1 (s0.asks kb) k2 g2 (.slice A2 l2.length c2)) := st5d.out.bel h6.out.2
      have hq := ask_busy b (s0.asks kb) k2 g2 A6 (fewL l2).length c6 v6 st6.out.cd S0.out.1 S0.out.2.1 (.inl (by simp [CS.asks]))
      unfold kcells at hq
      clear h6 hfew st5 st5d
      refine hK.out _ _ (fun _ => st6.out.held) (fun hHeld => ?_)
      have hHeld := hHeld (by decide)
      clear hK K
      try simp only [Act.put, List.setIfInBounds_toArray, List.set_cons_zero, List.set_cons_succ]
      refine Held.one (i := 6) (by kernel_rfl) rfl (fun K hK => ?_)
      go_simp
      (with_reducible refine hq.mono ?_)
      rintro e' v7 ⟨rfl, h7⟩
      have st7 : Hid (AsSt w v7 p b bk g1 (s0.asks kb) k2 g2 (.slice A2 l2.length c2)) := st6.out.bel h7.out
      clear h7 hq
      refine hK.out _ _ (fun _ => st7.out.held) (fun hHeld => ?_)
      have hHeld := hHeld (by decide)
      clear hK K
      try simp only [Act.put, List.setIfInBounds_toArray, List.set_cons_zero, List.set_cons_succ]
      refine Held.one (i := 7) (by kernel_rfl) rfl (fun K hK => ?_)
      go_simp
      refine hK.out _ _ (fun h => absurd rfl h) (fun _ => ?_)
      clear hK K
      try simp only [Act.put, List.setIfInBounds_toArray, List.set_cons_zero, List.set_cons_succ]
      refine Held.done (by kernel_rfl) ?_ _
      refine NoPanic.normal ?_
      obtain ⟨x0, _, _, _⟩ := st7.out.held
      have htake := take_no b (s0.asks kb) v7 st7.out.cd S0.out.1 S0.out.2.2.2.1
      unfold acells at htake
      clear st6 hHeld
      go_upto_region 20 with (go_at_call 16; (with_reducible refine htake.mono ?_); rintro e w8 ⟨rfl, h8⟩)
      have st8 : Hid (AsSt w w8 p b bk g1 (s0.asks kb) k2 g2 (.slice A2 l2.length c2)) := st7.out.bel h8.out
      clear htake x0 st7 h8
      have st9 : Hid (AsSt w (w8.alloc (.cells (acells 0 0 0 (.slice none 0 0) (.slice none 0 0)) 47)) p b bk g1 (s0.asks kb) k2 g2 (.slice A2 l2.length c2)) := st8.out.bel ((Below.refl _ _).alloc (Nat.le_refl _) _)
      have N9 : Hid (Blk (w8.alloc (.cells (acells 0 0 0 (.slice none 0 0) (.slice none 0 0)) 47)) w8.heap.size (acells 0 0 0 (.slice none 0 0) (.slice none 0 0)) 47) := Blk.new _ _ _
      clear st8
      change Code.wp _ _ _ _ (w8.alloc (.cells (acells 0 0 0 (.slice none 0 0) (.slice none 0 0)) 47))
      generalize w8.alloc (.cells (acells 0 0 0 (.slice none 0 0) (.slice none 0 0)) 47) = W9 at *
      generalize w8.heap.size = g9 at *
      have n0 : W9.cell? ⟨g9, 0, none⟩ = some (.int .i64 0) := N9.out.cell 0
      go_upto_region 22 with (fail)
      clear n0
      have st9d : Hid (AsSt w W9.drew p b bk g1 (s0.asks kb) k2 g2 (.slice A2 l2.length c2)) := st9.out.bel ((Below.refl _ _).drew)
      have hfew := few_calls k2 g2 A2 c2 l2 W9.drew (HC2.out _ (by have := st9d.out.below; rw [HG.out.1] at this; exact this))
      unfold kcells at hfew
      refine Held.start 7 (fun w' => w'.cell? ⟨p, 0, none⟩ = some (.pointer (some ⟨b, 0, none⟩)) ∧ w'.cell? ⟨g1, 0, none⟩ = some (.int .i64 k2) ∧ w'.cell? ⟨g1, 1, none⟩ = some (.int .i64 g2) ∧ w'.cell? ⟨g1, 2, none⟩ = some (.slice A2 l2.length c2)) (by kernel_rfl) st9d.out.held (fun hHeld => ?_)
      refine Held.take (i := 0) (oi := _) (v := ?_) rfl (by kernel_rfl) (by kernel_rfl) (by kernel_rfl) (by decide) (by kernel_rfl) (fun _ _ _ h => h) hHeld ?_ (by rfl) ?_
      rotate_left
      · intro w hSw
        go_simp
        try with_reducible rfl
      try simp only [Act.put, List.setIfInBounds_toArray, List.set_cons_zero, List.set_cons_succ]
      refine Held.take (i := 1) (oi := _) (v := ?_) rfl (by kernel_rfl) (by kernel_rfl) (by kernel_rfl) (by decide) (by kernel_rfl) (fun _ _ _ h => h) hHeld ?_ (by rfl) ?_
      rotate_left
      · intro w hSw
        go_simp
        try with_reducible rfl
      try simp only [Act.put, List.setIfInBounds_toArray, List.set_cons_zero, List.set_cons_succ]
      refine Held.take (i := 2) (oi := _) (v := ?_) rfl (by kernel_rfl) (by kernel_rfl) (by kernel_rfl) (by decide) (by kernel_rfl) (fun _ _ _ h => h) hHeld ?_ (by rfl) ?_
      rotate_left
      · intro w hSw
        go_simp
        try with_reducible rfl
      try simp only [Act.put, List.setIfInBounds_toArray, List.set_cons_zero, List.set_cons_succ]
      refine Held.take (i := 3) (oi := _) (v := ?_) rfl (by kernel_rfl) (by kernel_rfl) (by kernel_rfl) (by decide) (by kernel_rfl) (fun _ _ _ h => h) hHeld ?_ (by rfl) ?_
      rotate_left
      · intro w hSw
        go_simp
        try with_reducible rfl
      try simp only [Act.put, List.setIfInBounds_toArray, List.set_cons_zero, List.set_cons_succ]
      refine Held.take (i := 4) (oi := _) (v := ?_) rfl (by kernel_rfl) (by kernel_rfl) (by kernel_rfl) (by decide) (by kernel_rfl) (fun _ _ _ h => h) hHeld ?_ (by rfl) ?_
      rotate_left
      · intro w hSw
        go_simp
        try with_reducible rfl
      try simp only [Act.put, List.setIfInBounds_toArray, List.set_cons_zero, List.set_cons_succ]
      refine Held.one (i := 5) (by kernel_rfl) rfl (fun K hK => ?_)
      go_simp
      (with_reducible refine hfew.mono ?_)
      rintro e' v6 ⟨A6, c6, rfl, h6⟩
      have st6 : Hid (AsSt w v6 p b bk g1 (s0.asks kb) k2 g2 (.slice A2 l2.length c2)) := st9d.out.bel h6.out.2
      have hq := ask_busy b (s0.asks kb) k2 g2 A6 (fewL l2).length c6 v6 st6.out.cd S0.out.1 S0.out.2.1 (.inl (by simp [CS.asks]))
      unfold kcells at hq
      clear h6 hfew st9 st9d
      refine hK.out _ _ (fun _ => st6.out.held) (fun hHeld => ?_)
      have hHeld := hHeld (by decide)
      clear hK K
      try simp only [Act.put, List.setIfInBounds_toArray, List.set_cons_zero, List.set_cons_succ]
      refine Held.one (i := 6) (by kernel_rfl) rfl (fun K hK => ?_)
      go_simp
      (with_reducible refine hq.mono ?_)
      rintro e' v7 ⟨rfl, h7⟩
      have st7 : Hid (AsSt w v7 p b bk g1 (s0.asks kb) k2 g2 (.slice A2 l2.length c2)) := st6.out.bel h7.out
      clear h7 hq
      refine hK.out _ _ (fun _ => st7.out.held) (fun hHeld => ?_)
      have hHeld := hHeld (by decide)
      clear hK K
      try simp only [Act.put, List.setIfInBounds_toArray, List.set_cons_zero, List.set_cons_succ]
      refine Held.one (i := 7) (by kernel_rfl) rfl (fun K hK => ?_)
      go_simp
      refine hK.out _ _ (fun h => absurd rfl h) (fun _ => ?_)
      clear hK K
      try simp only [Act.put, List.setIfInBounds_toArray, List.set_cons_zero, List.set_cons_succ]
      refine Held.done (by kernel_rfl) ?_ _
      refine NoPanic.normal ?_
      have BF : Hid (Below w.heap.size w v7) := st7.out.below
      clear st6 st7 hHeld
      go_wp2_with (go_at_call 20; (with_reducible refine (awake_calls _).mono ?_); rintro e w10 ⟨rfl, h10⟩)
      go_ret
      exact ⟨rfl, BF.out.trans (h10.mono BF.out.size)⟩
    · have HR : Hid (r ≠ 0) := hr
      have hr1 : (r != 0) = true := by simpa using hr
      have hr2 : (r == 0) = false := by simpa using hr
      clear hr
      go_upto_region 18 with (go_at_call 14; (with_reducible refine hask.mono ?_); rintro e w5 ⟨rfl, h5⟩)
      obtain ⟨kb, m5, _, z5⟩ := h5.out
      obtain ⟨ab, c5, a5⟩ := z5 HR.out
      have st5 : Hid (AsSt w w5 p b bk g1 ((s0.asks kb).done ab) k2 g2 (.slice A2 l2.length c2)) := (st4.out.bel ((Below.refl _ _).drew)).mod m5 c5
      have A5 : Hid (Blk w5 ab (acells r 0 0 (.slice none 0 0) (.slice none 0 0)) 47) := a5
      clear h5 m5 z5 c5 a5 hask x0 x1 x2 x3 k0 k1 k2' st4 K4 R4
      have st5d : Hid (AsSt w w5.drew p b bk g1 ((s0.asks kb).done ab) k2 g2 (.slice A2 l2.length c2)) := st5.out.bel ((Below.refl _ _).drew)
      have hfew := few_calls k2 g2 A2 c2 l2 w5.drew (HC2.out _ (by have := st5d.out.below; rw [HG.out.1] at this; exact this))
      unfold kcells at hfew
      refine Held.start 7 (fun w' => w'.cell? ⟨p, 0, none⟩ = some (.pointer (some ⟨b, 0, none⟩)) ∧ w'.cell? ⟨g1, 0, none⟩ = some (.int .i64 k2) ∧ w'.cell? ⟨g1, 1, none⟩ = some (.int .i64 g2) ∧ w'.cell? ⟨g1, 2, none⟩ = some (.slice A2 l2.length c2)) (by kernel_rfl) st5d.out.held (fun hHeld => ?_)
      refine Held.take (i := 0) (oi := _) (v := ?_) rfl (by kernel_rfl) (by kernel_rfl) (by kernel_rfl) (by decide) (by kernel_rfl) (fun _ _ _ h => h) hHeld ?_ (by rfl) ?_
      rotate_left
      · intro w hSw
        go_simp
        try with_reducible rfl
      try simp only [Act.put, List.setIfInBounds_toArray, List.set_cons_zero, List.set_cons_succ]
      refine Held.take (i := 1) (oi := _) (v := ?_) rfl (by kernel_rfl) (by kernel_rfl) (by kernel_rfl) (by decide) (by kernel_rfl) (fun _ _ _ h => h) hHeld ?_ (by rfl) ?_
      rotate_left
      · intro w hSw
        go_simp
        try with_reducible rfl
      try simp only [Act.put, List.setIfInBounds_toArray, List.set_cons_zero, List.set_cons_succ]
      refine Held.take (i := 2) (oi := _) (v := ?_) rfl (by kernel_rfl) (by kernel_rfl) (by kernel_rfl) (by decide) (by kernel_rfl) (fun _ _ _ h => h) hHeld ?_ (by rfl) ?_
      rotate_left
      · intro w hSw
        go_simp
        try with_reducible rfl
      try simp only [Act.put, List.setIfInBounds_toArray, List.set_cons_zero, List.set_cons_succ]
      refine Held.take (i := 3) (oi := _) (v := ?_) rfl (by kernel_rfl) (by kernel_rfl) (by kernel_rfl) (by decide) (by kernel_rfl) (fun _ _ _ h => h) hHeld ?_ (by rfl) ?_
      rotate_left
      · intro w hSw
        go_simp
        try with_reducible rfl
      try simp only [Act.put, List.setIfInBounds_toArray, List.set_cons_zero, List.set_cons_succ]
      refine Held.take (i := 4) (oi := _) (v := ?_) rfl (by kernel_rfl) (by kernel_rfl) (by kernel_rfl) (by decide) (by kernel_rfl) (fun _ _ _ h => h) hHeld ?_ (by rfl) ?_
      rotate_left
      · intro w hSw
        go_simp
        try with_reducible rfl
      try simp only [Act.put, List.setIfInBounds_toArray, List.set_cons_zero, List.set_cons_succ]
      refine Held.one (i := 5) (by kernel_rfl) rfl (fun K hK => ?_)
      go_simp
      (with_reducible refine hfew.mono ?_)
      rintro e' v6 ⟨A6s, c6, rfl, h6⟩
      have st6 : Hid (AsSt w v6 p b bk g1 ((s0.asks kb).done ab) k2 g2 (.slice A2 l2.length c2)) := st5d.out.bel h6.out.2
      have A6 : Hid (Blk v6 ab (acells r 0 0 (.slice none 0 0) (.slice none 0 0)) 47) := A5.out.same ((((Below.refl _ w5).drew).trans h6.out.2).block _ A5.out.lt)
      clear A5
      have hq := ask_busy b ((s0.asks kb).done ab) k2 g2 A6s (fewL l2).length c6 v6 st6.out.cd S0.out.1 S0.out.2.1 (.inr (by simp [CS.done]))
      unfold kcells at hq
      clear h6 hfew st5 st5d
      refine hK.out _ _ (fun _ => st6.out.held) (fun hHeld => ?_)
      have hHeld := hHeld (by decide)
      clear hK K
      try simp only [Act.put, List.setIfInBounds_toArray, List.set_cons_zero, List.set_cons_succ]
      refine Held.one (i := 6) (by kernel_rfl) rfl (fun K hK => ?_)
      go_simp
      (with_reducible refine hq.mono ?_)
      rintro e' v7 ⟨rfl, h7⟩
      have st7 : Hid (AsSt w v7 p b bk g1 ((s0.asks kb).done ab) k2 g2 (.slice A2 l2.length c2)) := st6.out.bel h7.out
      have A7 : Hid (Blk v7 ab (acells r 0 0 (.slice none 0 0) (.slice none 0 0)) 47) := A6.out.same (h7.out.block _ A6.out.lt)
      clear h7 hq A6
      refine hK.out _ _ (fun _ => st7.out.held) (fun hHeld => ?_)
      have hHeld := hHeld (by decide)
      clear hK K
      try simp only [Act.put, List.setIfInBounds_toArray, List.set_cons_zero, List.set_cons_succ]
      refine Held.one (i := 7) (by kernel_rfl) rfl (fun K hK => ?_)
      go_simp
      refine hK.out _ _ (fun h => absurd rfl h) (fun _ => ?_)
      clear hK K
      try simp only [Act.put, List.setIfInBounds_toArray, List.set_cons_zero, List.set_cons_succ]
      refine Held.done (by kernel_rfl) ?_ _
      refine NoPanic.normal ?_
      obtain ⟨x0, _, _, _⟩ := st7.out.held
      have htake := take_yes b ab ((s0.asks kb).done ab) r 0 0 none none 0 0 0 0 v7 st7.out.cd S0.out.1 rfl A7.out
      unfold acells at htake
      clear st6 hHeld
      go_upto_region 20 with (go_at_call 16; (with_reducible refine htake.mono ?_); rintro e w8 ⟨rfl, h8⟩)
      generalize hs8 : ({ (s0.asks kb).done ab with answer := none } : CS) = s8 at *
      have S8 : Hid (s8.n ≠ 0 ∧ s8.phase ≠ 0 ∧ s8.call = none ∧ s8.answer = none ∧ s8.job = none) := by subst hs8; exact ⟨S0.out.1, S0.out.2.1, rfl, rfl, S0.out.2.2.2.2⟩
      have st8 : Hid (AsSt w w8 p b bk g1 s8 k2 g2 (.slice A2 l2.length c2)) := st7.out.mod h8.out.2 h8.out.1
      clear htake x0 st7 h8 A7 hs8
      have st9 : Hid (AsSt w (w8.alloc (.cells (acells r 0 0 (.slice none 0 0) (.slice none 0 0)) 47)) p b bk g1 s8 k2 g2 (.slice A2 l2.length c2)) := st8.out.bel ((Below.refl _ _).alloc (Nat.le_refl _) _)
      have N9 : Hid (Blk (w8.alloc (.cells (acells r 0 0 (.slice none 0 0) (.slice none 0 0)) 47)) w8.heap.size (acells r 0 0 (.slice none 0 0) (.slice none 0 0)) 47) := Blk.new _ _ _
      clear st8
      change Code.wp _ _ _ _ (w8.alloc (.cells (acells r 0 0 (.slice none 0 0) (.slice none 0 0)) 47))
      generalize w8.alloc (.cells (acells r 0 0 (.slice none 0 0) (.slice none 0 0)) 47) = W9 at *
      generalize w8.heap.size = g9 at *
      have n0 : W9.cell? ⟨g9, 0, none⟩ = some (.int .i64 r) := N9.out.cell 0
      go_upto_region 22 with (fail)
      clear n0
      have st9d : Hid (AsSt w W9.drew p b bk g1 s8 k2 g2 (.slice A2 l2.length c2)) := st9.out.bel ((Below.refl _ _).drew)
      have hfew := few_calls k2 g2 A2 c2 l2 W9.drew (HC2.out _ (by have := st9d.out.below; rw [HG.out.1] at this; exact this))
      unfold kcells at hfew
      refine Held.start 7 (fun w' => w'.cell? ⟨p, 0, none⟩ = some (.pointer (some ⟨b, 0, none⟩)) ∧ w'.cell? ⟨g1, 0, none⟩ = some (.int .i64 k2) ∧ w'.cell? ⟨g1, 1, none⟩ = some (.int .i64 g2) ∧ w'.cell? ⟨g1, 2, none⟩ = some (.slice A2 l2.length c2)) (by kernel_rfl) st9d.out.held (fun hHeld => ?_)
      refine Held.take (i := 0) (oi := _) (v := ?_) rfl (by kernel_rfl) (by kernel_rfl) (by kernel_rfl) (by decide) (by kernel_rfl) (fun _ _ _ h => h) hHeld ?_ (by rfl) ?_
      rotate_left
      · intro w hSw
        go_simp
        try with_reducible rfl
      try simp only [Act.put, List.setIfInBounds_toArray, List.set_cons_zero, List.set_cons_succ]
      refine Held.take (i := 1) (oi := _) (v := ?_) rfl (by kernel_rfl) (by kernel_rfl) (by kernel_rfl) (by decide) (by kernel_rfl) (fun _ _ _ h => h) hHeld ?_ (by rfl) ?_
      rotate_left
      · intro w hSw
        go_simp
        try with_reducible rfl
      try simp only [Act.put, List.setIfInBounds_toArray, List.set_cons_zero, List.set_cons_succ]
      refine Held.take (i := 2) (oi := _) (v := ?_) rfl (by kernel_rfl) (by kernel_rfl) (by kernel_rfl) (by decide) (by kernel_rfl) (fun _ _ _ h => h) hHeld ?_ (by rfl) ?_
      rotate_left
      · intro w hSw
        go_simp
        try with_reducible rfl
      try simp only [Act.put, List.setIfInBounds_toArray, List.set_cons_zero, List.set_cons_succ]
      refine Held.take (i := 3) (oi := _) (v := ?_) rfl (by kernel_rfl) (by kernel_rfl) (by kernel_rfl) (by decide) (by kernel_rfl) (fun _ _ _ h => h) hHeld ?_ (by rfl) ?_
      rotate_left
      · intro w hSw
        go_simp
        try with_reducible rfl
      try simp only [Act.put, List.setIfInBounds_toArray, List.set_cons_zero, List.set_cons_succ]
      refine Held.take (i := 4) (oi := _) (v := ?_) rfl (by kernel_rfl) (by kernel_rfl) (by kernel_rfl) (by decide) (by kernel_rfl) (fun _ _ _ h => h) hHeld ?_ (by rfl) ?_
      rotate_left
      · intro w hSw
        go_simp
        try with_reducible rfl
      try simp only [Act.put, List.setIfInBounds_toArray, List.set_cons_zero, List.set_cons_succ]
      refine Held.one (i := 5) (by kernel_rfl) rfl (fun K hK => ?_)
      go_simp
      (with_reducible refine hfew.mono ?_)
      rintro e' v6 ⟨A6, c6, rfl, h6⟩
      have st6 : Hid (AsSt w v6 p b bk g1 s8 k2 g2 (.slice A2 l2.length c2)) := st9d.out.bel h6.out.2
      have hq := ask_few b s8 k2 g2 m A6 c6 W9.drew.heap.size l2 v6 st6.out.cd S8.out.1 S8.out.2.1 S8.out.2.2.1 S8.out.2.2.2.1 S8.out.2.2.2.2 h6.out.1 (HM.out _ (by have := st6.out.below; rw [HG.out.1] at this; exact this)) b0.out
      unfold kcells at hq
      clear h6 hfew st9 st9d
      refine hK.out _ _ (fun _ => st6.out.held) (fun hHeld => ?_)
      have hHeld := hHeld (by decide)
      clear hK K
      try simp only [Act.put, List.setIfInBounds_toArray, List.set_cons_zero, List.set_cons_succ]
      refine Held.one (i := 6) (by kernel_rfl) rfl (fun K hK => ?_)
      go_simp
      (with_reducible refine hq.mono ?_)
      rintro e' v7 ⟨rfl, h7⟩
      obtain ⟨s9, hc9⟩ : ∃ s9, Cd v7 b s9 := ask_any h7.out
      have h7 : Hid (Mod (· = b) v6 v7) := (by obtain ⟨kb, h, _⟩ := h7.out; exact h)
      have st7 : Hid (AsSt w v7 p b bk g1 s9 k2 g2 (.slice A2 l2.length c2)) := st6.out.mod h7.out hc9
      refine hK.out _ _ (fun _ => st7.out.held) (fun hHeld => ?_)
      have hHeld := hHeld (by decide)
      clear hK K
      try simp only [Act.put, List.setIfInBounds_toArray, List.set_cons_zero, List.set_cons_succ]
      refine Held.one (i := 7) (by kernel_rfl) rfl (fun K hK => ?_)
      go_simp
      refine hK.out _ _ (fun h => absurd rfl h) (fun _ => ?_)
      clear hK K
      try simp only [Act.put, List.setIfInBounds_toArray, List.set_cons_zero, List.set_cons_succ]
      refine Held.done (by kernel_rfl) ?_ _
      refine NoPanic.normal ?_
      have BF : Hid (Below w.heap.size w v7) := st7.out.below
      clear st6 st7 hHeld
      go_wp2_with (go_at_call 20; (with_reducible refine (awake_calls _).mono ?_); rintro e w10 ⟨rfl, h10⟩)
      go_ret
      exact ⟨rfl, BF.out.trans (h10.mono BF.out.size)⟩
theorem asks_row (z0 z1 : Int × Int × Value × List Fi) (w : World) (h0 : KC w z0.1 z0.2.1 z0.2.2.1 z0.2.2.2) (h1 : KC w z1.1 z1.2.1 z1.2.2.1 z1.2.2.2) (hsh : w.ShapedOpen Tryz.prog) :
    Calls Tryz.prog 6 #[.agg (kcells z0.1 z0.2.1 z0.2.2.1), .agg (kcells z1.1 z1.2.1 z1.2.2.1)] w fun e w' => e = .returned (.bool true) ∧ Below w.heap.size w w' := by
  obtain ⟨k, g, v, l⟩ := z0
  obtain ⟨k2, g2, v2, l2⟩ := z1
  obtain ⟨m, hm⟩ := Shape.cell0 w hsh
  obtain ⟨A, c, e, _, hC⟩ := h0.files
  obtain ⟨A2, c2, e2, _, hC2⟩ := h1.files
  simp only at e e2
  subst e e2
  exact asks_law k g k2 g2 m A A2 c c2 l l2 w hC hC2 hm
end Go.Proofs.YtcbecbalhnomcaaGreatDoor.Co
