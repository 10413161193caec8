/- A client's call is asked. -/
import Derived.Test.YtcbecbalhnomcaaGreatDoorCoClone
namespace Go.Proofs.YtcbecbalhnomcaaGreatDoor.Co
open Go.RowKit Go.Proofs.YtcbecbalhnomcaaGreatDoorW.PrintWords

/-- a coordinator that has taken a call -/
def CS.asks (s : CS) (kb : Nat) : CS := { s with call := some kb, left := 40 }
set_option linter.unusedSimpArgs false in
set_option maxRecDepth 100000 in
set_option maxHeartbeats 4000000 in
theorem ask_at (b : Nat) (s : CS) (k g e : Int) (A : Option Addr) (c : Nat) (l : List Fi) (w : World) (h : Cd w b s) (hn : s.n ≠ 0) (hph : s.phase ≠ 0) (hc : s.call = none) (ha : s.answer = none) (hj : s.job = none)
    (hC : Kd.C kFi w A l.length l) (hl : l.length ≤ 1000000)
    (hi : k = 1 → ∀ w', Mod (· = b) w w' → Calls Tryz.prog 65 #[.slice A l.length c] w' fun e' w'' => ∃ s, e' = .returned (.tuple #[.string s, .int .i64 e]) ∧ Hid (Below w'.heap.size w' w'')) :
    Calls Tryz.prog 14 #[.pointer (some ⟨b, 0, none⟩), .agg (kcells k g (.slice A l.length c))] w fun e' w' => e' = .returned (.int .i64 0) ∧ Hid (∃ kb, Mod (· = b) w w' ∧
      (rightE k g e = 0 → Cd w' b (s.asks kb) ∧ ∃ A' c', Blk w' kb (kcells k g (.slice A' l.length c')) 30) ∧
      (rightE k g e ≠ 0 → ∃ ab, Cd w' b ((s.asks kb).done ab) ∧ Blk w' ab (acells (rightE k g e) 0 0 (.slice none 0 0) (.slice none 0 0)) 47)) := by
  have hb := h.lt
  have B0 : Below w.heap.size w (w.alloc (.cells (kcells k g (.slice A l.length c)) 30)) := (Below.refl _ w).alloc (Nat.le_refl _) _
  have M0 : Hid (Mod (· = b) w (w.alloc (.cells (kcells k g (.slice A l.length c)) 30))) := Mod.ofBelow B0
  have C0 : Hid (Cd (w.alloc (.cells (kcells k g (.slice A l.length c)) 30)) b s) := h.same (B0.block b hb)
  have K0 : Hid (Blk (w.alloc (.cells (kcells k g (.slice A l.length c)) 30)) w.heap.size (kcells k g (.slice A l.length c)) 30) := Blk.new w _ _
  have F0 : Hid (Kd.C kFi (w.alloc (.cells (kcells k g (.slice A l.length c)) 30)) A l.length l) := Kd.C_below hC B0
  have NE : Hid (w.heap.size ≠ b) := fun e => by omega
  have HI : Hid (k = 1 → ∀ w', Mod (· = b) w w' → Calls Tryz.prog 65 #[.slice A l.length c] w' fun e' w'' => ∃ s, e' = .returned (.tuple #[.string s, .int .i64 e]) ∧ Hid (Below w'.heap.size w' w'')) := hi
  have HS : Hid (s.n ≠ 0 ∧ s.call = none ∧ s.answer = none ∧ s.job = none) := ⟨hn, hc, ha, hj⟩
  have p1 : (s.phase == 0) = false := by simpa using hph
  clear h hb B0 hC hi hn hc ha hj hph
  go_enter Tryz.func14, Tryz.ntmps14
  go_upto_region 1 with (fail)
  change Code.wp _ _ _ _ (w.alloc (.cells (kcells k g (.slice A l.length c)) 30))
  generalize w.alloc (.cells (kcells k g (.slice A l.length c)) 30) = W0 at *
  generalize w.heap.size = g0 at *
  have hnn := none_at b s W0 C0.out HS.out.1
  have c4 := C0.out.c_phase
  have c86 := C0.out.c_call
  rw [HS.out.2.1, ptr_none] at c86
  have c91 := C0.out.c_answer
  rw [HS.out.2.2.1, ptr_none] at c91
  go_upto_region 5 with (go_at_call 33; (with_reducible refine hnn.mono ?_); rintro e' w' ⟨rfl, rfl⟩)
  have k0 : W0.cell? ⟨g0, 0, none⟩ = some (.int .i64 k) := K0.out.cell 0
  have k1 : W0.cell? ⟨g0, 1, none⟩ = some (.int .i64 g) := K0.out.cell 1
  have k2 : W0.cell? ⟨g0, 2, none⟩ = some (.slice A l.length c) := K0.out.cell 2
  clear c4 c86 c91 hnn
  have hcl := clone_any A c l W0.drew (Kd.C_below F0.out (Below.refl _ _).drew) hl
  refine Held.start 16 (fun w' => w'.cell? ⟨g0, 0, none⟩ = some (.int .i64 k) ∧ w'.cell? ⟨g0, 1, none⟩ = some (.int .i64 g) ∧ w'.cell? ⟨g0, 2, none⟩ = some (.slice A l.length c)) (by kernel_rfl) ⟨k0, k1, k2⟩ (fun hHeld => ?_)
  refine Held.take (i := 0) (oi := _) (v := ?_) rfl (by kernel_rfl) (by kernel_rfl) (by kernel_rfl) (by decide) (by kernel_rfl) (fun _ _ _ h => h) hHeld ?_ (by rfl) ?_
  rotate_left
  · intro w hSw
    go_simp
    try with_reducible rfl
  try simp only [Act.put, List.setIfInBounds_toArray, List.set_cons_zero, List.set_cons_succ]
  refine Held.take (i := 1) (oi := _) (v := ?_) rfl (by kernel_rfl) (by kernel_rfl) (by kernel_rfl) (by decide) (by kernel_rfl) (fun _ _ _ h => h) hHeld ?_ (by rfl) ?_
  rotate_left
  · intro w hSw
    go_simp
    try with_reducible rfl
  try simp only [Act.put, List.setIfInBounds_toArray, List.set_cons_zero, List.set_cons_succ]
  refine Held.take (i := 2) (oi := _) (v := ?_) rfl (by kernel_rfl) (by kernel_rfl) (by kernel_rfl) (by decide) (by kernel_rfl) (fun _ _ _ h => h) hHeld ?_ (by rfl) ?_
  rotate_left
  · intro w hSw
    go_simp
    try with_reducible rfl
  try simp only [Act.put, List.setIfInBounds_toArray, List.set_cons_zero, List.set_cons_succ]
  refine Held.take (i := 3) (oi := _) (v := ?_) rfl (by kernel_rfl) (by kernel_rfl) (by kernel_rfl) (by decide) (by kernel_rfl) (fun _ _ _ h => h) hHeld ?_ (by rfl) ?_
  rotate_left
  · intro w hSw
    go_simp
    try with_reducible rfl
  try simp only [Act.put, List.setIfInBounds_toArray, List.set_cons_zero, List.set_cons_succ]
  refine Held.take (i := 4) (oi := _) (v := ?_) rfl (by kernel_rfl) (by kernel_rfl) (by kernel_rfl) (by decide) (by kernel_rfl) (fun _ _ _ h => h) hHeld ?_ (by rfl) ?_
  rotate_left
  · intro w hSw
    go_simp
    try with_reducible rfl
  try simp only [Act.put, List.setIfInBounds_toArray, List.set_cons_zero, List.set_cons_succ]
  refine Held.take (i := 5) (oi := _) (v := ?_) rfl (by kernel_rfl) (by kernel_rfl) (by kernel_rfl) (by decide) (by kernel_rfl) (fun _ _ _ h => h) hHeld ?_ (by rfl) ?_
  rotate_left
  · intro w hSw
    go_simp
    try with_reducible rfl
  try simp only [Act.put, List.setIfInBounds_toArray, List.set_cons_zero, List.set_cons_succ]
  refine Held.take (i := 6) (oi := _) (v := ?_) rfl (by kernel_rfl) (by kernel_rfl) (by kernel_rfl) (by decide) (by kernel_rfl) (fun _ _ _ h => h) hHeld ?_ (by rfl) ?_
  rotate_left
  · intro w hSw
    go_simp
    try with_reducible rfl
  try simp only [Act.put, List.setIfInBounds_toArray, List.set_cons_zero, List.set_cons_succ]
  refine Held.take (i := 7) (oi := _) (v := ?_) rfl (by kernel_rfl) (by kernel_rfl) (by kernel_rfl) (by decide) (by kernel_rfl) (fun _ _ _ h => h) hHeld ?_ (by rfl) ?_
  rotate_left
  · intro w hSw
    go_simp
    try with_reducible rfl
  try simp only [Act.put, List.setIfInBounds_toArray, List.set_cons_zero, List.set_cons_succ]
  refine Held.one (i := 8) (by kernel_rfl) rfl (fun K hK => ?_)
  go_simp
  (with_reducible refine hcl.mono ?_)
  rintro e' w3 ⟨A', c', rfl, h3⟩
  have b3 : Below W0.heap.size W0 w3 := (Below.refl _ W0).drew.trans h3.out.2.2
  have K3 : Hid (Blk w3 g0 (kcells k g (.slice A l.length c)) 30) := K0.out.same (b3.block g0 K0.out.lt)
  have C3 : Hid (Cd w3 b s) := C0.out.same (b3.block b C0.out.lt)
  have M3 : Hid (Mod (· = b) w w3) := M0.out.trans (Mod.ofBelow b3)
  clear b3
  have S3 : w3.cell? ⟨g0, 0, none⟩ = some (.int .i64 k) ∧ w3.cell? ⟨g0, 1, none⟩ = some (.int .i64 g) ∧ w3.cell? ⟨g0, 2, none⟩ = some (.slice A l.length c) := ⟨K3.out.cell 0, K3.out.cell 1, K3.out.cell 2⟩
  refine hK.out _ _ (fun _ => S3) (fun hHeld => ?_)
  have hHeld := hHeld (by decide)
  clear hK K
  try simp only [Act.put, List.setIfInBounds_toArray, List.set_cons_zero, List.set_cons_succ]
  refine Held.one (i := 9) (by kernel_rfl) rfl (fun K hK => ?_)
  go_simp
  refine hK.out _ _ (fun _ => S3) (fun hHeld => ?_)
  have hHeld := hHeld (by decide)
  clear hK K
  try simp only [Act.put, List.setIfInBounds_toArray, List.set_cons_zero, List.set_cons_succ]
  have K4 : Hid (Blk (w3.alloc (.cells (kcells k g (.slice A' l.length c')) 30)) g0 (kcells k g (.slice A l.length c)) 30) := K3.out.same (Below.heap_alloc _ _ _ K3.out.lt)
  have N4 : Hid (Blk (w3.alloc (.cells (kcells k g (.slice A' l.length c')) 30)) w3.heap.size (kcells k g (.slice A' l.length c')) 30) := Blk.new _ _ _
  have C4 : Hid (Cd (w3.alloc (.cells (kcells k g (.slice A' l.length c')) 30)) b s) := C3.out.same (Below.heap_alloc _ _ _ C3.out.lt)
  have M4 : Hid (Mod (· = b) w (w3.alloc (.cells (kcells k g (.slice A' l.length c')) 30))) := M3.out.alloc _
  have NE4 : Hid (w3.heap.size ≠ b) := fun x => by have := C3.out.lt; omega
  refine Held.one (i := 10) (by kernel_rfl) rfl (fun K hK => ?_)
  go_simp
  have S4 : (w3.alloc (.cells (kcells k g (.slice A' l.length c')) 30)).cell? ⟨g0, 0, none⟩ = some (.int .i64 k) ∧ (w3.alloc (.cells (kcells k g (.slice A' l.length c')) 30)).cell? ⟨g0, 1, none⟩ = some (.int .i64 g) ∧ (w3.alloc (.cells (kcells k g (.slice A' l.length c')) 30)).cell? ⟨g0, 2, none⟩ = some (.slice A l.length c) := ⟨K4.out.cell 0, K4.out.cell 1, K4.out.cell 2⟩
  refine hK.out _ (w3.alloc (.cells (kcells k g (.slice A' l.length c')) 30)) (fun _ => S4) (fun hHeld => ?_)
  have hHeld := hHeld (by decide)
  clear hK K
  try simp only [Act.put, List.setIfInBounds_toArray, List.set_cons_zero, List.set_cons_succ]
  generalize w3.alloc (.cells (kcells k g (.slice A' l.length c')) 30) = W4 at *
  generalize w3.heap.size = kb at *
  clear S3 hcl h3
  refine Held.one (i := 11) (by kernel_rfl) rfl (fun K hK => ?_)
  go_simp
  refine hK.out _ _ (fun _ => S4) (fun hHeld => ?_)
  have hHeld := hHeld (by decide)
  clear hK K
  try simp only [Act.put, List.setIfInBounds_toArray, List.set_cons_zero, List.set_cons_succ]
  refine Held.one (i := 12) (by kernel_rfl) rfl (fun K hK => ?_)
  go_simp
  refine hK.out _ _ (fun _ => S4) (fun hHeld => ?_)
  have hHeld := hHeld (by decide)
  clear hK K
  try simp only [Act.put, List.setIfInBounds_toArray, List.set_cons_zero, List.set_cons_succ]
  have c86 := C4.out.c_call
  have f86 := C4.out.free 86
  refine Held.one (i := 13) (by kernel_rfl) rfl (fun K hK => ?_)
  go_simp
  have K5 : Hid (Blk (W4.setCell ⟨b, 86, none⟩ (.pointer (some ⟨kb, 0, none⟩))) g0 (kcells k g (.slice A l.length c)) 30) := K4.out.same (Below.heap_setCell _ _ _ _ NE.out)
  have N5 : Hid (Blk (W4.setCell ⟨b, 86, none⟩ (.pointer (some ⟨kb, 0, none⟩))) kb (kcells k g (.slice A' l.length c')) 30) := N4.out.same (Below.heap_setCell _ _ _ _ NE4.out)
  have C5 : Hid (Cd (W4.setCell ⟨b, 86, none⟩ (.pointer (some ⟨kb, 0, none⟩))) b { s with call := some kb }) := C4.out.s_call (some kb)
  have M5 : Hid (Mod (· = b) w (W4.setCell ⟨b, 86, none⟩ (.pointer (some ⟨kb, 0, none⟩)))) := M4.out.put _
  have S5 : (W4.setCell ⟨b, 86, none⟩ (.pointer (some ⟨kb, 0, none⟩))).cell? ⟨g0, 0, none⟩ = some (.int .i64 k) ∧ (W4.setCell ⟨b, 86, none⟩ (.pointer (some ⟨kb, 0, none⟩))).cell? ⟨g0, 1, none⟩ = some (.int .i64 g) ∧ (W4.setCell ⟨b, 86, none⟩ (.pointer (some ⟨kb, 0, none⟩))).cell? ⟨g0, 2, none⟩ = some (.slice A l.length c) := ⟨K5.out.cell 0, K5.out.cell 1, K5.out.cell 2⟩
  refine hK.out _ (W4.setCell ⟨b, 86, none⟩ (.pointer (some ⟨kb, 0, none⟩))) (fun _ => S5) (fun hHeld => ?_)
  have hHeld := hHeld (by decide)
  clear hK K
  try simp only [Act.put, List.setIfInBounds_toArray, List.set_cons_zero, List.set_cons_succ]
  clear c86 f86 S4
  generalize W4.setCell ⟨b, 86, none⟩ (.pointer (some ⟨kb, 0, none⟩)) = W5 at *
  refine Held.one (i := 14) (by kernel_rfl) rfl (fun K hK => ?_)
  go_simp
  refine hK.out _ _ (fun _ => S5) (fun hHeld => ?_)
  have hHeld := hHeld (by decide)
  clear hK K
  try simp only [Act.put, List.setIfInBounds_toArray, List.set_cons_zero, List.set_cons_succ]
  refine Held.one (i := 15) (by kernel_rfl) rfl (fun K hK => ?_)
  go_simp
  refine hK.out _ _ (fun _ => S5) (fun hHeld => ?_)
  have hHeld := hHeld (by decide)
  clear hK K
  try simp only [Act.put, List.setIfInBounds_toArray, List.set_cons_zero, List.set_cons_succ]
  have c87 := C5.out.c_left
  have f87 := C5.out.free 87
  refine Held.one (i := 16) (by kernel_rfl) rfl (fun K hK => ?_)
  go_simp
  refine hK.out _ _ (fun h => absurd rfl h) (fun _ => ?_)
  clear hK K
  try simp only [Act.put, List.setIfInBounds_toArray, List.set_cons_zero, List.set_cons_succ]
  refine Held.done (by kernel_rfl) ?_ _
  refine NoPanic.normal ?_
  have K6 : Hid (Blk (W5.setCell ⟨b, 87, none⟩ (.int .i64 40)) g0 (kcells k g (.slice A l.length c)) 30) := K5.out.same (Below.heap_setCell _ _ _ _ NE.out)
  have N6 : Hid (Blk (W5.setCell ⟨b, 87, none⟩ (.int .i64 40)) kb (kcells k g (.slice A' l.length c')) 30) := N5.out.same (Below.heap_setCell _ _ _ _ NE4.out)
  have C6 : Hid (Cd (W5.setCell ⟨b, 87, none⟩ (.int .i64 40)) b (s.asks kb)) := C5.out.s_left 40
  have M6 : Hid (Mod (· = b) w (W5.setCell ⟨b, 87, none⟩ (.int .i64 40))) := M5.out.put _
  clear c87 f87 S5
  generalize W5.setCell ⟨b, 87, none⟩ (.int .i64 40) = W6 at *
  have k0 : W6.cell? ⟨g0, 0, none⟩ = some (.int .i64 k) := K6.out.cell 0
  have k1 : W6.cell? ⟨g0, 1, none⟩ = some (.int .i64 g) := K6.out.cell 1
  have k2 : W6.cell? ⟨g0, 2, none⟩ = some (.slice A l.length c) := K6.out.cell 2
  have hr := right_calls k g e A l.length c W6 (fun hk w' hB => HI.out hk w' (M6.out.trans (Mod.ofBelow hB)))
  unfold kcells at hr
  generalize hre : rightE k g e = r at *
  have HRE : Hid (rightE k g e = r) := hre
  clear hre
  by_cases hr0 : r = 0
  · have HR : Hid (r = 0) := hr0
    subst hr0
    go_wp2_with (go_at_call 35; (with_reducible refine hr.mono ?_); rintro e' w7 ⟨rfl, h7⟩)
    go_ret
    exact ⟨rfl, kb, M6.out.trans (Mod.ofBelow h7.out), fun _ => ⟨C6.out.same (h7.out.block b C6.out.lt), A', c', N6.out.same (h7.out.block kb N6.out.lt)⟩, fun h => absurd HRE.out h⟩
  · have HR : Hid (r ≠ 0) := hr0
    have r1 : (r == 0) = false := by simpa using hr0
    clear hr0
    have hend := fun w7 (hB : Below W6.heap.size W6 w7) => end_at b kb (s.asks kb) r 0 0 none none 0 0 0 0 w7 (C6.out.same (hB.block b C6.out.lt)) rfl HS.out.2.2.2
    unfold acells at hend
    go_wp2_with (first
      | (go_at_call 35; (with_reducible refine hr.mono ?_); rintro e' w7 ⟨rfl, h7⟩)
      | (go_at_call 36; (with_reducible refine (hend _ h7.out).mono ?_); rintro e' w8 ⟨rfl, h8⟩))
    go_ret
    exact ⟨rfl, kb, (M6.out.trans (Mod.ofBelow h7.out)).trans h8.out.2.2, fun h => absurd (HRE.out.symm.trans h) HR.out, fun _ => ⟨_, h8.out.1, by rw [HRE.out]; exact h8.out.2.1⟩⟩
end Go.Proofs.YtcbecbalhnomcaaGreatDoor.Co
