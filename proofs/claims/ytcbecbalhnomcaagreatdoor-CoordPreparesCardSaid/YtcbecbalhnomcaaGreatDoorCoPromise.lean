/- A coordinator takes a promise in. -/
import Derived.Test.YtcbecbalhnomcaaGreatDoorCoMerge
namespace Go.Proofs.YtcbecbalhnomcaaGreatDoor.Co
open Go.RowKit Go.Proofs.YtcbecbalhnomcaaGreatDoorW.PrintWords

/-- with the vault v too -/
def plus (S : Nat → Bool) (v : Nat) : Nat → Bool := fun k => S k || k == v
theorem info_promise : (Tryz.prog.info? 120).map (fun i => (i.zero, i.size, i.bytes)) = some (some (.agg #[.int .i64 0, .int .i64 0, .slice none 0 0]), 3, 40) := by kernel_rfl
/-- what a promise may change -/
def Foot (b t : Nat) (pv : Value) (k : Nat) : Prop := k = b ∨ k = t ∨ pv.ownBlock = some k
/-- what a coordinator is that has taken a promise in -/
structure Got {α : Type} (R : α → List Value → Prop) (G : World → Value → Value → Prop) (b t n base : Nat) (S : Nat → Bool) (s : CS) (fl tp : Int) (L : List α) (w : World) : Prop where
  tal : Tal w t n S
  more : wonB n S = false → Cd w b s ∧ Rw w base 120 3 R s.promises L
  won : wonB n S = true → ∃ v2 v3, Cd w b { s with floor := fl, top := tp, chosen := v2, again := v3, promises := .slice none 0 0, phase := 2 } ∧ ∃ w3, G w3 v2 v3 ∧ Mod (· = b) w3 w

set_option linter.unusedSimpArgs false in
set_option maxHeartbeats 2000000 in
set_option maxRecDepth 100000 in
theorem promise_at {α : Type} (R : α → List Value → Prop) (G : World → Value → Value → Prop) (b t n base : Nat) (S : Nat → Bool) (s : CS) (fl tp : Int) (L : List α) (p : α) (m : Mg) (v : Nat) (A0 : Option Addr) (n0 c0 : Nat) (w : World)
    (h : Cd w b s) (hp : s.promised = some t) (tal : Tal w t n S) (row : Rw w base 120 3 R s.promises L) (hbase : base ≤ w.heap.size) (hv : v < n) (hf : m.frm = v) (hS : S v = false)
    (hR : R p [.int .i64 m.floor, .int .i64 m.top, .slice A0 n0 c0]) (hl : m.list = .slice A0 n0 c0) (hlen : L.length < 1000)
    (hm : ∀ w' pv, Rw w' base 120 3 R pv (L ++ [p]) → Calls Tryz.prog 68 #[pv] w' fun e w'' => ∃ A2 n2 c2 A3 n3 c3, e = .returned (.tuple #[.int .i64 fl, .int .i64 tp, .slice A2 n2 c2, .slice A3 n3 c3]) ∧ Hid (Below w'.heap.size w' w'' ∧ G w'' (.slice A2 n2 c2) (.slice A3 n3 c3))) :
    Calls Tryz.prog 38 #[.pointer (some ⟨b, 0, none⟩), .agg (mcells m)] w fun e w' => e = .returned (.tuple #[]) ∧
      Hid (Mod (Foot b t s.promises) w w' ∧ ∃ pv, Got R G b t n base (plus S v) (({ s with promises := pv }).setPeer v ((s.peers v).far m.floor m.top)) fl tp (L ++ [p]) w') := by
  have h9 := tal.le
  have B0 : Hid (Mod (Foot b t s.promises) w (w.alloc (.cells (mcells m) 27))) := (Mod.refl _ w).alloc _
  have MB : Hid (Blk (w.alloc (.cells (mcells m) 27)) w.heap.size (mcells m) 27) := Blk.new _ _ _
  have C0 : Hid (Cd (w.alloc (.cells (mcells m) 27)) b s) := h.same (Below.heap_alloc _ _ _ h.lt)
  have T0 : Hid (Tal (w.alloc (.cells (mcells m) 27)) t n S) := tal.same (Below.heap_alloc _ _ _ tal.blk.lt)
  have R0 : Hid (Rw (w.alloc (.cells (mcells m) 27)) base 120 3 R s.promises L) := row.same (fun k hk => Below.heap_alloc _ _ _ (row.lt k hk))
  have NE : Hid (w.heap.size ≠ b ∧ w.heap.size ≠ t ∧ (∀ k, s.promises.ownBlock = some k → k ≠ w.heap.size)) := ⟨fun e => by have := h.lt; omega, fun e => by have := tal.blk.lt; omega, fun k hk e => by have := row.lt k hk; omega⟩
  have HB : Hid (base ≤ (w.alloc (.cells (mcells m) 27)).heap.size) := by show base ≤ _; simp; omega
  have HM : Hid (∀ w' pv, Rw w' base 120 3 R pv (L ++ [p]) → Calls Tryz.prog 68 #[pv] w' fun e w'' => ∃ A2 n2 c2 A3 n3 c3, e = .returned (.tuple #[.int .i64 fl, .int .i64 tp, .slice A2 n2 c2, .slice A3 n3 c3]) ∧ Hid (Below w'.heap.size w' w'' ∧ G w'' (.slice A2 n2 c2) (.slice A3 n3 c3))) := hm
  have HR : Hid (R p [.int .i64 m.floor, .int .i64 m.top, .slice A0 n0 c0]) := hR
  have HF : Hid (m.frm = v) := hf
  have HL : Hid (m.list = .slice A0 n0 c0) := hl
  have HN : Hid (L.length < 1000) := hlen
  have HP : Hid (s.promised = some t) := hp
  clear h tal row hbase hm hR hf hl hlen hp
  go_enter Tryz.func38, Tryz.ntmps38
  go_upto_region 1 with (fail)
  change Code.wp _ _ _ _ (w.alloc (.cells (mcells m) 27))
  generalize w.alloc (.cells (mcells m) 27) = W0 at *
  generalize w.heap.size = g at *
  have m1 : W0.cell? ⟨g, 1, none⟩ = some (.int .i64 v) := by rw [← HF.out]; exact MB.out.cell 1
  have c9 := C0.out.c_promised
  rw [HP.out, ptr_some] at c9
  have hh := fun k => has_at t n S v (W0.drewN k) (T0.out.same rfl) hv
  rw [hS] at hh
  go_quiet ((go_at_call 66; exact quiet0 (hh _)))
  clear hh
  have ha := fun w tal => add_at t n S v w tal hv
  go_upto_region 2 with (fail)
  have B1 : Hid (Mod (Foot b t s.promises) w (W0.drewN nq)) := B0.out.drewN _
  have MB1 : Hid (Blk (W0.drewN nq) g (mcells m) 27) := MB.out.same rfl
  have C1 : Hid (Cd (W0.drewN nq) b s) := C0.out.same rfl
  have T1 : Hid (Tal (W0.drewN nq) t n S) := T0.out.same rfl
  have R1 : Hid (Rw (W0.drewN nq) base 120 3 R s.promises L) := R0.out.same (fun _ _ => rfl)
  have HB1 : Hid (base ≤ (W0.drewN nq).heap.size) := HB.out
  clear m1 c9 B0 MB C0 T0 R0 HB
  generalize W0.drewN nq = W1 at *
  have m1 : W1.cell? ⟨g, 1, none⟩ = some (.int .i64 v) := by rw [← HF.out]; exact MB1.out.cell 1
  have c9 := C1.out.c_promised
  rw [HP.out, ptr_some] at c9
  have ha := ha W1.drew (T1.out.same rfl)
  go_still_tail 6, (by kernel_rfl)
  change wpList _ _ _ _ _ W1.drew
  go_wp2_with (go_at_call 42; (with_reducible refine ha.mono ?_); rintro e w2 ⟨rfl, hw2⟩)
  have hW : ∀ k, k ≠ t → (W1.setCell ⟨t, 1 + v, none⟩ (.bool true)).drew.heap[k]? = W1.heap[k]? := fun k hk => Below.heap_setCell _ _ _ _ hk
  have B2 : Hid (Mod (Foot b t s.promises) w (W1.setCell ⟨t, 1 + v, none⟩ (.bool true)).drew) := (B1.out.set (p := ⟨t, 1 + v, none⟩) (.inr (.inl rfl)) _).drew
  have MB2 : Hid (Blk (W1.setCell ⟨t, 1 + v, none⟩ (.bool true)).drew g (mcells m) 27) := MB1.out.same (hW g NE.out.2.1)
  have C2 : Hid (Cd (W1.setCell ⟨t, 1 + v, none⟩ (.bool true)).drew b s) := C1.out.same (hW b (Blk.ne C1.out T1.out.blk (by decide)))
  have T2 : Hid (Tal (W1.setCell ⟨t, 1 + v, none⟩ (.bool true)).drew t n (plus S v)) := (T1.out.set v (by omega)).same rfl
  have R2 : Hid (Rw (W1.setCell ⟨t, 1 + v, none⟩ (.bool true)).drew base 120 3 R s.promises L) := R1.out.same (fun k hk => hW k (R1.out.ne T1.out.blk (by decide) k hk))
  have HB2 : Hid (base ≤ (W1.setCell ⟨t, 1 + v, none⟩ (.bool true)).drew.heap.size) := by (show base ≤ _; simpa [World.setCell] using HB1.out)
  clear m1 c9 B1 MB1 C1 T1 R1 HB1 hW
  generalize (W1.setCell ⟨t, 1 + v, none⟩ (.bool true)).drew = W2 at *
  have m6 : W2.cell? ⟨g, 6, none⟩ = some (.int .i64 m.floor) := MB2.out.cell 6
  have m7 : W2.cell? ⟨g, 7, none⟩ = some (.int .i64 m.top) := MB2.out.cell 7
  have m13 : W2.cell? ⟨g, 13, none⟩ = some (.slice A0 n0 c0) := by rw [← HL.out]; exact MB2.out.cell 13
  have c10 := C2.out.c_promises
  obtain ⟨inner, own, reps⟩ := R2.out
  have NB : Hid (∀ k, s.promises.ownBlock = some k → k ≠ b) := R2.out.ne C2.out (by decide)
  have NT : Hid (∀ k, s.promises.ownBlock = some k → k ≠ t) := R2.out.ne T2.out.blk (by decide)
  have ROW : Hid (W2.ownsRow base 120 3 s.promises L.length inner ∧ Reps R 3 L inner) := ⟨own, reps⟩
  clear own reps
  refine Held.start 16 (fun w' => w'.cell? ⟨g, 6, none⟩ = some (.int .i64 m.floor) ∧ w'.cell? ⟨g, 7, none⟩ = some (.int .i64 m.top) ∧ w'.cell? ⟨g, 13, none⟩ = some (.slice A0 n0 c0) ∧ w'.cell? ⟨b, 10, none⟩ = some s.promises) (by kernel_rfl) ⟨m6, m7, m13, c10⟩ (fun hHeld => ?_)
  refine Held.take (i := 0) (oi := _) (v := ?_) rfl (by kernel_rfl) (by kernel_rfl) (by kernel_rfl) (by decide) (by kernel_rfl) (fun _ _ _ h => h) hHeld ?_ (by rfl) ?_
  rotate_left
  · intro w hSw
    go_simp
    try with_reducible rfl
  try simp only [Act.put, List.setIfInBounds_toArray, List.set_cons_zero, List.set_cons_succ]
  refine Held.take (i := 1) (oi := _) (v := ?_) rfl (by kernel_rfl) (by kernel_rfl) (by kernel_rfl) (by decide) (by kernel_rfl) (fun _ _ _ h => h) hHeld ?_ (by rfl) ?_
  rotate_left
  · intro w hSw
    go_simp
    try with_reducible rfl
  try simp only [Act.put, List.setIfInBounds_toArray, List.set_cons_zero, List.set_cons_succ]
  refine Held.take (i := 2) (oi := _) (v := ?_) rfl (by kernel_rfl) (by kernel_rfl) (by kernel_rfl) (by decide) (by kernel_rfl) (fun _ _ _ h => h) hHeld ?_ (by rfl) ?_
  rotate_left
  · intro w hSw
    go_simp
    try with_reducible rfl
  try simp only [Act.put, List.setIfInBounds_toArray, List.set_cons_zero, List.set_cons_succ]
  refine Held.take (i := 3) (oi := _) (v := ?_) rfl (by kernel_rfl) (by kernel_rfl) (by kernel_rfl) (by decide) (by kernel_rfl) (fun _ _ _ h => h) hHeld ?_ (by rfl) ?_
  rotate_left
  · intro w hSw
    go_simp
    try with_reducible rfl
  try simp only [Act.put, List.setIfInBounds_toArray, List.set_cons_zero, List.set_cons_succ]
  refine Held.take (i := 4) (oi := _) (v := ?_) rfl (by kernel_rfl) (by kernel_rfl) (by kernel_rfl) (by decide) (by kernel_rfl) (fun _ _ _ h => h) hHeld ?_ (by rfl) ?_
  rotate_left
  · intro w hSw
    go_simp
    try with_reducible rfl
  try simp only [Act.put, List.setIfInBounds_toArray, List.set_cons_zero, List.set_cons_succ]
  refine Held.take (i := 5) (oi := _) (v := ?_) rfl (by kernel_rfl) (by kernel_rfl) (by kernel_rfl) (by decide) (by kernel_rfl) (fun _ _ _ h => h) hHeld ?_ (by rfl) ?_
  rotate_left
  · intro w hSw
    go_simp
    try with_reducible rfl
  try simp only [Act.put, List.setIfInBounds_toArray, List.set_cons_zero, List.set_cons_succ]
  refine Held.take (i := 6) (oi := _) (v := ?_) rfl (by kernel_rfl) (by kernel_rfl) (by kernel_rfl) (by decide) (by kernel_rfl) (fun _ _ _ h => h) hHeld ?_ (by rfl) ?_
  rotate_left
  · intro w hSw
    go_simp
    try with_reducible rfl
  try simp only [Act.put, List.setIfInBounds_toArray, List.set_cons_zero, List.set_cons_succ]
  refine Held.take (i := 7) (oi := _) (v := ?_) rfl (by kernel_rfl) (by kernel_rfl) (by kernel_rfl) (by decide) (by kernel_rfl) (fun _ _ _ h => h) hHeld ?_ (by rfl) ?_
  rotate_left
  · intro w hSw
    go_simp
    try with_reducible rfl
  try simp only [Act.put, List.setIfInBounds_toArray, List.set_cons_zero, List.set_cons_succ]
  refine Held.take (i := 8) (oi := _) (v := ?_) rfl (by kernel_rfl) (by kernel_rfl) (by kernel_rfl) (by decide) (by kernel_rfl) (fun _ _ _ h => h) hHeld ?_ (by rfl) ?_
  rotate_left
  · intro w hSw
    go_simp
    try with_reducible rfl
  try simp only [Act.put, List.setIfInBounds_toArray, List.set_cons_zero, List.set_cons_succ]
  refine Held.take (i := 9) (oi := _) (v := ?_) rfl (by kernel_rfl) (by kernel_rfl) (by kernel_rfl) (by decide) (by kernel_rfl) (fun _ _ _ h => h) hHeld ?_ (by rfl) ?_
  rotate_left
  · intro w hSw
    go_simp
    try with_reducible rfl
  try simp only [Act.put, List.setIfInBounds_toArray, List.set_cons_zero, List.set_cons_succ]
  refine Held.take (i := 10) (oi := _) (v := ?_) rfl (by kernel_rfl) (by kernel_rfl) (by kernel_rfl) (by decide) (by kernel_rfl) (fun _ _ _ h => h) hHeld ?_ (by rfl) ?_
  rotate_left
  · intro w hSw
    go_simp
    try with_reducible rfl
  try simp only [Act.put, List.setIfInBounds_toArray, List.set_cons_zero, List.set_cons_succ]
  refine Held.take (i := 11) (oi := _) (v := ?_) rfl (by kernel_rfl) (by kernel_rfl) (by kernel_rfl) (by decide) (by kernel_rfl) (fun _ _ _ h => h) hHeld ?_ (by rfl) ?_
  rotate_left
  · intro w hSw
    go_simp
    try with_reducible rfl
  try simp only [Act.put, List.setIfInBounds_toArray, List.set_cons_zero, List.set_cons_succ]
  refine Held.one (i := 12) (by kernel_rfl) rfl (fun K hK => ?_)
  go_simp
  refine hK.out _ _ (fun _ => ?_) (fun hHeld => ?_)
  · exact ⟨pw_cell_below (w1 := (W2.alloc _).drew) (((Below.refl _ W2).alloc (Nat.le_refl _) _).drew) m6, pw_cell_below (w1 := (W2.alloc _).drew) (((Below.refl _ W2).alloc (Nat.le_refl _) _).drew) m7, pw_cell_below (w1 := (W2.alloc _).drew) (((Below.refl _ W2).alloc (Nat.le_refl _) _).drew) m13, pw_cell_below (w1 := (W2.alloc _).drew) (((Below.refl _ W2).alloc (Nat.le_refl _) _).drew) c10⟩
  have hHeld := hHeld (by decide)
  clear hK K
  try simp only [Act.put, List.setIfInBounds_toArray, List.set_cons_zero, List.set_cons_succ]
  refine Held.one (i := 13) (by kernel_rfl) rfl (fun K hK => ?_)
  refine step_append_cells (w0 := W2.drew) (W := W2.drew) base (by rfl) (.tmp 22) (.tmp 30) 80 120 (.agg #[.int .i64 0, .int .i64 0, .slice none 0 0]) 3 40 rfl Tryz.underlying80 info_promise rfl (by decide) (by decide) s.promises L.length inner [.int .i64 m.floor, .int .i64 m.top, .slice A0 n0 c0] rfl rfl rfl (by simp [Value.oneCell']) (own_move ROW.out.1 (fun _ _ => rfl)) (Below.refl _ _) HB2.out (by have := HN.out; omega) ?_
  intro v1 w1 ho hb hgr hat
  have RN : Hid (Rw w1 base 120 3 R v1 (L ++ [p])) := Rw.snoc ROW.out.2 ho HR.out rfl
  have hK1 : ∀ k, k < W2.heap.size → s.promises.ownBlock ≠ some k → w1.heap[k]? = W2.heap[k]? := fun k hk hn => hgr.block k hk (fun e => hn e.symm)
  have MB3 : Hid (Blk w1 g (mcells m) 27) := MB2.out.same (hK1 g MB2.out.lt (fun e => NE.out.2.2 g e rfl))
  have C3 : Hid (Cd w1 b s) := C2.out.same (hK1 b C2.out.lt (fun e => NB.out b e rfl))
  have T3 : Hid (Tal w1 t n (plus S v)) := T2.out.same (hK1 t T2.out.blk.lt (fun e => NT.out t e rfl))
  have B3 : Hid (Mod (Foot b t s.promises) w w1) := B2.out.drew.trans (Mod.grown hgr (fun k hk => .inr (.inr hk)))
  have hc6 : w1.cell? ⟨g, 6, none⟩ = some (.int .i64 m.floor) := MB3.out.cell 6
  have hc7 : w1.cell? ⟨g, 7, none⟩ = some (.int .i64 m.top) := MB3.out.cell 7
  have hc13 : w1.cell? ⟨g, 13, none⟩ = some (.slice A0 n0 c0) := by rw [← HL.out]; exact MB3.out.cell 13
  have hc10 := C3.out.c_promises
  have f10 := C3.out.free 10
  refine hK.out _ _ (fun _ => ⟨hc6, hc7, hc13, hc10⟩) (fun hHeld => ?_)
  clear ho hb hgr hat hK1
  have hHeld := hHeld (by decide)
  clear hK K
  try simp only [Act.put, List.setIfInBounds_toArray, List.set_cons_zero, List.set_cons_succ]
  obtain ⟨A1, c1, e1, -, -⟩ := RN.out.form
  rw [List.length_append, List.length_singleton] at e1
  subst e1
  refine Held.one (i := 14) (by kernel_rfl) rfl (fun K hK => ?_)
  go_simp
  refine hK.out _ _ (fun _ => ⟨hc6, hc7, hc13, hc10⟩) (fun hHeld => ?_)
  have hHeld := hHeld (by decide)
  clear hK K
  try simp only [Act.put, List.setIfInBounds_toArray, List.set_cons_zero, List.set_cons_succ]
  refine Held.one (i := 15) (by kernel_rfl) rfl (fun K hK => ?_)
  go_simp
  refine hK.out _ _ (fun _ => ⟨hc6, hc7, hc13, hc10⟩) (fun hHeld => ?_)
  have hHeld := hHeld (by decide)
  clear hK K
  try simp only [Act.put, List.setIfInBounds_toArray, List.set_cons_zero, List.set_cons_succ]
  refine Held.one (i := 16) (by kernel_rfl) rfl (fun K hK => ?_)
  go_simp
  refine hK.out _ _ (fun h => absurd rfl h) (fun _ => ?_)
  clear hK K
  try simp only [Act.put, List.setIfInBounds_toArray, List.set_cons_zero, List.set_cons_succ]
  refine Held.done (by kernel_rfl) ?_ _
  refine NoPanic.normal ?_
  have C4 : Hid (Cd (w1.setCell ⟨b, 10, none⟩ (.slice A1 (L.length + 1) c1)) b { s with promises := .slice A1 (L.length + 1) c1 }) := C3.out.s_promises _
  have hW : ∀ k, k ≠ b → (w1.setCell ⟨b, 10, none⟩ (.slice A1 (L.length + 1) c1)).heap[k]? = w1.heap[k]? := fun k hk => Below.heap_setCell _ _ _ _ hk
  have T4 : Hid (Tal (w1.setCell ⟨b, 10, none⟩ (.slice A1 (L.length + 1) c1)) t n (plus S v)) := T3.out.same (hW t (Blk.ne T3.out.blk C3.out (by decide)))
  have R4 : Hid (Rw (w1.setCell ⟨b, 10, none⟩ (.slice A1 (L.length + 1) c1)) base 120 3 R (.slice A1 (L.length + 1) c1) (L ++ [p])) := RN.out.same (fun k hk => hW k (RN.out.ne C3.out (by decide) k hk))
  have MB4 : Hid (Blk (w1.setCell ⟨b, 10, none⟩ (.slice A1 (L.length + 1) c1)) g (mcells m) 27) := MB3.out.same (hW g NE.out.1)
  have B4 : Hid (Mod (Foot b t s.promises) w (w1.setCell ⟨b, 10, none⟩ (.slice A1 (L.length + 1) c1))) := B3.out.set (p := ⟨b, 10, none⟩) (.inl rfl) _
  clear hW m6 m7 m13 c10 hc6 hc7 hc13 hc10 f10
  generalize w1.setCell ⟨b, 10, none⟩ (.slice A1 (L.length + 1) c1) = W4 at *
  generalize Value.slice A1 (L.length + 1) c1 = pv at *
  have hfar := far_at b _ m v W4 C4.out (by omega) HF.out
  unfold mcells at hfar
  rw [HL.out] at hfar
  have m0 : W4.cell? ⟨g, 0, none⟩ = some (.int .i64 m.kind) := MB4.out.cell 0
  have m1 : W4.cell? ⟨g, 1, none⟩ = some (.int .i64 m.frm) := MB4.out.cell 1
  have m2 : W4.cell? ⟨g, 2, none⟩ = some (.int .i64 m.to_) := MB4.out.cell 2
  have m3 : W4.cell? ⟨g, 3, none⟩ = some (.int .i64 m.ballot) := MB4.out.cell 3
  have m4 : W4.cell? ⟨g, 4, none⟩ = some (.int .i64 m.gen) := MB4.out.cell 4
  have m5 : W4.cell? ⟨g, 5, none⟩ = some (.int .i64 m.basis) := MB4.out.cell 5
  have m6 : W4.cell? ⟨g, 6, none⟩ = some (.int .i64 m.floor) := MB4.out.cell 6
  have m7 : W4.cell? ⟨g, 7, none⟩ = some (.int .i64 m.top) := MB4.out.cell 7
  have m8 : W4.cell? ⟨g, 8, none⟩ = some (.int .i64 m.read) := MB4.out.cell 8
  have m9 : W4.cell? ⟨g, 9, none⟩ = some (.string m.mark) := MB4.out.cell 9
  have m10 : W4.cell? ⟨g, 10, none⟩ = some (.int .i64 m.at_) := MB4.out.cell 10
  have m11 : W4.cell? ⟨g, 11, none⟩ = some (.int .i64 m.of_) := MB4.out.cell 11
  have m12 : W4.cell? ⟨g, 12, none⟩ = some (.string m.text) := MB4.out.cell 12
  have m13 : W4.cell? ⟨g, 13, none⟩ = some (m.list) := MB4.out.cell 13
  rw [HL.out] at m13
  generalize hs1 : ({ s with promises := pv } : CS).setPeer v ((({ s with promises := pv } : CS).peers v).far m.floor m.top) = s1 at *
  have HS1 : Hid (({ s with promises := pv } : CS).setPeer v ((s.peers v).far m.floor m.top) = s1) := hs1
  have P1 : Hid (s1.promised = some t) := (by show s1.promised = _; rw [← hs1]; exact HP.out)
  clear hs1
  go_upto_region 5 with (go_at_call 40; (with_reducible refine hfar.mono ?_); rintro e w5 ⟨rfl, h5⟩)
  have C5 : Hid (Cd w5 b s1) := h5.out.1
  have T5 : Hid (Tal w5 t n (plus S v)) := T4.out.same (h5.out.2.block t T4.out.blk.lt (Blk.ne T4.out.blk C4.out (by decide)))
  have R5 : Hid (Rw w5 base 120 3 R pv (L ++ [p])) := R4.out.same (fun k hk => h5.out.2.block k (R4.out.lt k hk) (R4.out.ne C4.out (by decide) k hk))
  have B5 : Hid (Mod (Foot b t s.promises) w w5) := B4.out.trans (h5.out.2.mono (fun k hk => .inl hk))
  clear h5 hfar m0 m1 m2 m3 m4 m5 m6 m7 m8 m9 m10 m11 m12 m13
  have c9 := C5.out.c_promised
  rw [P1.out, ptr_some] at c9
  have hw := won_at t n (plus S v) w5 T5.out
  generalize hq : wonB n (plus S v) = q at hw
  have HQ : Hid (wonB n (plus S v) = q) := hq
  clear hq
  have H6 : Hid (∀ w6, Drawn0 w5 w6 → Cd w6 b s1 ∧ Tal w6 t n (plus S v) ∧ Rw w6 base 120 3 R pv (L ++ [p]) ∧ Mod (Foot b t s.promises) w w6) := fun w6 ⟨k, e⟩ => by
    subst e
    exact ⟨C5.out.same rfl, T5.out.same rfl, R5.out.same (fun _ _ => rfl), B5.out.drewN k⟩
  cases q
  · go_wp2_with (go_at_call 67; (with_reducible refine hw.mono ?_); rintro e w6 ⟨rfl, h6⟩)
    obtain ⟨a1, a2, a3, a4⟩ := H6.out _ h6
    refine bodyPost_ret (v := .tuple #[]) (by simp [results, Tryz.results38, go_sem]) rfl ⟨rfl, a4, pv, ⟨a2, fun _ => ?_, fun h => ?_⟩⟩
    · rw [HS1.out]
      exact ⟨a1, by rw [← HS1.out]; exact a3⟩
    · rw [HQ.out] at h; cases h
  · go_upto_region 6 with (go_at_call 67; (with_reducible refine hw.mono ?_); rintro e w6 ⟨rfl, h6⟩)
    have C6 : Hid (Cd w6 b s1) := (H6.out _ h6).1
    have T6 : Hid (Tal w6 t n (plus S v)) := (H6.out _ h6).2.1
    have B6 : Hid (Mod (Foot b t s.promises) w w6) := (H6.out _ h6).2.2.2
    have hmm := HM.out w6 pv (H6.out _ h6).2.2.1
    have c10 := C6.out.c_promises
    have hp1 : s1.promises = pv := by rw [← HS1.out]; rfl
    rw [hp1] at c10
    clear hp1 h6
    go_upto_region 7 with (go_at_call 68; (with_reducible refine hmm.mono ?_); rintro e w7 ⟨A2, n2, c2, A3, n3, c3, rfl, h7⟩
                           have C7 : Hid (Cd w7 b s1) := C6.out.same (h7.out.1.block b C6.out.lt)
                           have f5 := C7.out.free 5
                           have f6 := C7.out.free 6
                           have f7 := C7.out.free 7
                           have f11 := C7.out.free 11
                           have d5 := C7.out.c_floor
                           have d6 := C7.out.c_top
                           have d7 := C7.out.c_chosen
                           have d11 := C7.out.c_again)
    have C8 : Hid (Cd ((((w7.setCell ⟨b, 5, none⟩ (.int .i64 fl)).setCell ⟨b, 6, none⟩ (.int .i64 tp)).setCell ⟨b, 7, none⟩ (.slice A2 n2 c2)).setCell ⟨b, 11, none⟩ (.slice A3 n3 c3)) b { s1 with floor := fl, top := tp, chosen := .slice A2 n2 c2, again := .slice A3 n3 c3 }) := (((C7.out.s_floor fl).s_top tp).s_chosen (.slice A2 n2 c2)).s_again (.slice A3 n3 c3)
    have M8 : Hid (Mod (· = b) w7 ((((w7.setCell ⟨b, 5, none⟩ (.int .i64 fl)).setCell ⟨b, 6, none⟩ (.int .i64 tp)).setCell ⟨b, 7, none⟩ (.slice A2 n2 c2)).setCell ⟨b, 11, none⟩ (.slice A3 n3 c3))) := ((((Mod.refl _ w7).put _).put _).put _).put _
    change Code.wp _ _ _ _ ((((w7.setCell ⟨b, 5, none⟩ (.int .i64 fl)).setCell ⟨b, 6, none⟩ (.int .i64 tp)).setCell ⟨b, 7, none⟩ (.slice A2 n2 c2)).setCell ⟨b, 11, none⟩ (.slice A3 n3 c3))
    generalize (((w7.setCell ⟨b, 5, none⟩ (.int .i64 fl)).setCell ⟨b, 6, none⟩ (.int .i64 tp)).setCell ⟨b, 7, none⟩ (.slice A2 n2 c2)).setCell ⟨b, 11, none⟩ (.slice A3 n3 c3) = w8 at *
    clear f5 f6 f7 f11 d5 d6 d7 d11
    have e10 := C8.out.c_promises
    have e4 := C8.out.c_phase
    have f10 := C8.out.free 10
    have f4 := C8.out.free 4
    go_wp2
    go_end0
    refine ⟨rfl, ?_, pv, ?_, fun h => ?_, fun _ => ⟨.slice A2 n2 c2, .slice A3 n3 c3, ?_, w7, h7.out.2, ((M8.out.put _).put _)⟩⟩
    · refine (B6.out.trans (Mod.ofBelow h7.out.1)).trans (((M8.out.put _).put _).mono fun k hk => .inl hk)
    · exact T6.out.same (((M8.out.put _).put _).block t (by have := h7.out.1.size; have := T6.out.blk.lt; omega) (Blk.ne T6.out.blk C6.out (by decide)) |>.trans (h7.out.1.block t T6.out.blk.lt))
    · rw [HQ.out] at h; cases h
    · rw [HS1.out]
      exact (C8.out.s_promises _).s_phase 2
end Go.Proofs.YtcbecbalhnomcaaGreatDoor.Co
