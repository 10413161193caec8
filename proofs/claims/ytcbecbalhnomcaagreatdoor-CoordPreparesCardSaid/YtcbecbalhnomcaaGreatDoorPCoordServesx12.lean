-- PRINTED BY print.sh 35421559b90ae4d0a3588c463048766b98c2df88dd9212a6774a882060cdf62d: not written by this session
import Derived.Test.YtcbecbalhnomcaaGreatDoorPCoordServesx0
namespace Go.Proofs.YtcbecbalhnomcaaGreatDoor.PCoordServes
open Go.RowKit Go.Proofs.YtcbecbalhnomcaaGreatDoorW.PrintWords Go.Proofs.YtcbecbalhnomcaaGreatDoorW.PrintLast Go.Proofs.YtcbecbalhnomcaaGreatDoorW.PrintMore
attribute [local go_sem] max2_int min2_int max_two min_two max_three min_three max_four min_four   -- for this text's walks alone
set_option linter.unusedVariables false
set_option linter.unusedSimpArgs false

/-! ### chunk_Cut: function 110 -/
def chunk_Cut.l0 : Nat → ByteArray → Int → Int → List (S24) → Int → Int → Option ((List (S24)) × Int)
  | 0, _, _, _, _, _, _ => none
  | k + 1, x0, x1, x6, x7, x24, x25 => if x25 < x24 then (if 0 ≤ (wrap64 (x25 * x1)) then (if (wrap64 (x25 * x1)) ≤ (mn (wrap64 ((wrap64 (x25 + 1)) * x1)) (x0.size : Int)) then (if (mn (wrap64 ((wrap64 (x25 + 1)) * x1)) (x0.size : Int)) ≤ (x0.size : Int) then (if x7.length < 4398046511104 then (chunk_Cut.l0 k x0 x1 x6 (x7 ++ [(⟨x25, x6, x0.extract ((wrap64 (x25 * x1)) : Int).toNat ((mn (wrap64 ((wrap64 (x25 + 1)) * x1)) (x0.size : Int)) : Int).toNat⟩ : S24)]) x24 (wrap64 (x25 + 1))) else (none)) else (none)) else (none)) else (none)) else (some (x7, 0))
def chunk_Cut.f (k : Nat) (a0 : ByteArray) (a1 : Int) : Option ((List (S24)) × Int) := if a1 < 1 then (some (([] : List (S24)), 1)) else (if (a0.size : Int) > 524288 then (some (([] : List (S24)), 4)) else (if a1 = 0 then (none) else (if (mx 1 (wrap64 (Int.tdiv (wrap64 ((wrap64 ((a0.size : Int) + a1)) - 1)) a1))) > 4096 then (some (([] : List (S24)), 7)) else (chunk_Cut.l0 k a0 a1 (mx 1 (wrap64 (Int.tdiv (wrap64 ((wrap64 ((a0.size : Int) + a1)) - 1)) a1))) ([] : List (S24)) (mx 1 (wrap64 (Int.tdiv (wrap64 ((wrap64 ((a0.size : Int) + a1)) - 1)) a1))) 0))))
theorem chunk_Cut.mono_l : ∀ k, (∀ y0 y1 y2 y3 y4 y5, LeO (chunk_Cut.l0 k y0 y1 y2 y3 y4 y5) (chunk_Cut.l0 (k + 1) y0 y1 y2 y3 y4 y5))
  | 0 => fun _ _ _ _ _ _ r h => by simp [chunk_Cut.l0] at h
  | k + 1 => by
    have ih0 := chunk_Cut.mono_l k
    · intro y0 y1 y2 y3 y4 y5
      unfold chunk_Cut.l0
      repeat' first
      | (with_reducible exact ih0 _ _ _ _ _ _)
      | (with_reducible exact LeO.refl _)
      | (with_reducible exact LeO.none _)
      | (with_reducible refine LeO.ite ?_ ?_)
      | (with_reducible refine LeO.bind ?_ (fun _ => ?_))
      | exact ih0 _ _ _ _ _ _
      | exact LeO.none _
      | refine LeO.ite ?_ ?_
      | refine LeO.bind ?_ (fun _ => ?_)
theorem chunk_Cut.mono : ∀ a0 a1 k, LeO (chunk_Cut.f k a0 a1) (chunk_Cut.f (k + 1) a0 a1) := by
  intro a0 a1 k
  have ih0 := chunk_Cut.mono_l k
  unfold chunk_Cut.f
  repeat' first
      | (with_reducible exact ih0 _ _ _ _ _ _)
      | (with_reducible exact LeO.refl _)
      | (with_reducible exact LeO.none _)
      | (with_reducible refine LeO.ite ?_ ?_)
      | (with_reducible refine LeO.bind ?_ (fun _ => ?_))
      | exact ih0 _ _ _ _ _ _
      | exact LeO.none _
      | refine LeO.ite ?_ ?_
      | refine LeO.bind ?_ (fun _ => ?_)
set_option maxHeartbeats 8000000 in
set_option maxRecDepth 100000 in
theorem chunk_Cut.calls (k : Nat) (a0 : ByteArray) (a1 : Int) (r1 : List (S24)) (r2 : Int) (w : World) (h : chunk_Cut.f k a0 a1 = some (r1, r2)) :
    Calls Tryz.prog 110 #[.string a0, .int .i64 a1] w fun e w' => ∃ v0_ : Value, e = .returned (.tuple #[v0_, .int .i64 r2]) ∧ Kd.R k24 24 w' w.heap.size (fun _ => True) v0_ r1 ∧ Below w.heap.size w w' := by
  have hu24 := Tryz.underlying24
  have HB := Aside0.mk (Below.refl w.heap.size w)
  have H : (if a1 < 1 then (some (([] : List (S24)), 1)) else (if (a0.size : Int) > 524288 then (some (([] : List (S24)), 4)) else (if a1 = 0 then (none) else (if (mx 1 (wrap64 (Int.tdiv (wrap64 ((wrap64 ((a0.size : Int) + a1)) - 1)) a1))) > 4096 then (some (([] : List (S24)), 7)) else (chunk_Cut.l0 k a0 a1 (mx 1 (wrap64 (Int.tdiv (wrap64 ((wrap64 ((a0.size : Int) + a1)) - 1)) a1))) ([] : List (S24)) (mx 1 (wrap64 (Int.tdiv (wrap64 ((wrap64 ((a0.size : Int) + a1)) - 1)) a1))) 0))))) = some (r1, r2) := h
  clear h
  by_cases c3 : a1 < 1
  · rw [if_pos c3] at H
    have c3b0 : decide (a1 < 1) = true := decide_eq_true c3
    clear c3
    simp only [Option.some.injEq, Prod.mk.injEq] at H
    obtain ⟨rfl, rfl⟩ := H
    go_enter Tryz.func110, Tryz.ntmps110
    go_wp2
    go_ret2
    exact ⟨_, by first | rfl | (simp [errW_none, errW_some] <;> rfl) | (simp [*, errW_none, errW_some] <;> rfl), by first | exact Kd.R_nil _ _ _ _ _ | exact Kd.N_nil _ _ _ _ _ | exact Kd.V_nil _ _ _ _ _ | exact Kd.Q_nil _ _ _ _ _ | exact Kd.S_nil _ _ _ _ _, by repeat (first | (with_reducible first | exact HB.out | apply below_alloc | apply pw_below_drewN | apply below_drew1) | exact HB.out)⟩
  · rw [if_neg c3] at H
    have c3b0 : decide (a1 < 1) = false := decide_eq_false c3
    clear c3
    by_cases c4 : (a0.size : Int) > 524288
    · rw [if_pos c4] at H
      have c4b0 : decide (524288 < (a0.size : Int)) = true := decide_eq_true c4
      have c4b1 : decide (524288 < a0.size) = true := decide_eq_true (by omega)
      clear c4
      simp only [Option.some.injEq, Prod.mk.injEq] at H
      obtain ⟨rfl, rfl⟩ := H
      go_enter Tryz.func110, Tryz.ntmps110
      go_wp2
      go_ret2
      exact ⟨_, by first | rfl | (simp [errW_none, errW_some] <;> rfl) | (simp [*, errW_none, errW_some] <;> rfl), by first | exact Kd.R_nil _ _ _ _ _ | exact Kd.N_nil _ _ _ _ _ | exact Kd.V_nil _ _ _ _ _ | exact Kd.Q_nil _ _ _ _ _ | exact Kd.S_nil _ _ _ _ _, by repeat (first | (with_reducible first | exact HB.out | apply below_alloc | apply pw_below_drewN | apply below_drew1) | exact HB.out)⟩
    · rw [if_neg c4] at H
      have c4b0 : decide (524288 < (a0.size : Int)) = false := decide_eq_false c4
      have c4b1 : decide (524288 < a0.size) = false := decide_eq_false (by omega)
      clear c4
      by_cases c5 : a1 = 0
      · rw [if_pos c5] at H
        exact absurd H (by simp)
      · rw [if_neg c5] at H
        have c5b0 : (a1 == 0) = false := beq_eq_false_iff_ne.mpr c5
        have c5b1 : (a1 != 0) = true := bne_iff_ne.mpr c5
        obtain ⟨ji6, hji6⟩ : ∃ j_ : Int, (mx 1 (wrap64 (Int.tdiv (wrap64 ((wrap64 ((a0.size : Int) + a1)) - 1)) a1))) = j_ := ⟨_, rfl⟩
        replace H : (if (ji6) > 4096 then (some (([] : List (S24)), 7)) else (chunk_Cut.l0 k a0 a1 ji6 ([] : List (S24)) ji6 0)) = some (r1, r2) := by first | (rw [hji6] at H; exact H) | (simp only [hji6] at H ⊢; exact H)
        (try (have hji6l : 1 ≤ ji6 := by (rw [← hji6]; unfold mx; (repeat' split) <;> omega)))
        (try (have hji6m : 0 ≤ ji6 := by omega))
        have hji6_ : (if 1 < (wrap64 (Int.tdiv (wrap64 ((wrap64 ((a0.size : Int) + a1)) - 1)) a1)) then (wrap64 (Int.tdiv (wrap64 ((wrap64 ((a0.size : Int) + a1)) - 1)) a1)) else 1) = ji6 := hji6
        by_cases c7 : (ji6) > 4096
        · rw [if_pos c7] at H
          have c7b0 : decide (4096 < (ji6)) = true := decide_eq_true c7
          clear c7
          simp only [Option.some.injEq, Prod.mk.injEq] at H
          obtain ⟨rfl, rfl⟩ := H
          go_enter Tryz.func110, Tryz.ntmps110
          go_wp2
          go_ret2
          exact ⟨_, by first | rfl | (simp [errW_none, errW_some] <;> rfl) | (simp only [← hji6]; first | rfl | (simp [errW_none, errW_some] <;> rfl)) | (simp [*, errW_none, errW_some] <;> rfl), by first | exact Kd.R_nil _ _ _ _ _ | exact Kd.N_nil _ _ _ _ _ | exact Kd.V_nil _ _ _ _ _ | exact Kd.Q_nil _ _ _ _ _ | exact Kd.S_nil _ _ _ _ _, by repeat (first | (with_reducible first | exact HB.out | apply below_alloc | apply pw_below_drewN | apply below_drew1) | exact HB.out)⟩
        · rw [if_neg c7] at H
          have c7b0 : decide (4096 < (ji6)) = false := decide_eq_false c7
          clear c7
          have H' := Aside0.mk H
          clear H
          go_enter Tryz.func110, Tryz.ntmps110
          go_wp2
          go_loopg [7, 25] k (fun kq v7 v25 w' => ∃ (x7_1 : List (S24)) (x25_1 : Int), v25 = .int .i64 x25_1 ∧ Aside0 (chunk_Cut.l0 kq a0 a1 ji6 x7_1 ji6 x25_1 = some (r1, r2)) ∧ Aside0 (kq ≤ k) ∧ Aside0 (Kd.R k24 24 w' w.heap.size (fun _ => True) v7 x7_1) ∧ Aside0 (Below w.heap.size w w'))
          case atStart => exact ⟨(([] : List (S24))), (0), (by first | rfl | (simp; done) | (simp [*]; done)), H', ⟨Nat.le_refl _⟩, ⟨by first | exact Kd.R_nil _ _ _ _ _ | exact Kd.N_nil _ _ _ _ _ | exact Kd.V_nil _ _ _ _ _ | exact Kd.Q_nil _ _ _ _ _ | exact Kd.S_nil _ _ _ _ _⟩, ⟨by repeat (first | (with_reducible first | exact HB.out | apply below_alloc | apply pw_below_drewN | apply below_drew1) | exact HB.out)⟩⟩
          case round =>
            clear H'
            try clear c1
            try clear p2
            try clear c3
            try clear c3b0
            try clear c4
            try clear c4b0
            try clear c4b1
            try clear c5
            try clear c5b0
            try clear c5b1
            try clear p6
            try clear c7
            try clear c7b0
            obtain ⟨x7_1, x25_1, rfl, HA, HK1, HO_7, HB⟩ := hrel
            cases gk with
            | zero => exact absurd HA.out (by simp [chunk_Cut.l0])
            | succ k1 =>
              have H := HA.out
              clear HA
              simp only [chunk_Cut.l0] at H
              by_cases c8 : x25_1 < ji6
              · rw [if_pos c8] at H
                have c8b0 : decide (x25_1 < ji6) = true := decide_eq_true c8
                clear c8
                obtain ⟨ji9, hji9⟩ : ∃ j_ : Int, (mn (wrap64 ((wrap64 (x25_1 + 1)) * a1)) (a0.size : Int)) = j_ := ⟨_, rfl⟩
                replace H : (if 0 ≤ (wrap64 (x25_1 * a1)) then (if (wrap64 (x25_1 * a1)) ≤ (ji9) then (if (ji9) ≤ (a0.size : Int) then (if x7_1.length < 4398046511104 then (chunk_Cut.l0 k1 a0 a1 ji6 (x7_1 ++ [(⟨x25_1, ji6, a0.extract ((wrap64 (x25_1 * a1)) : Int).toNat ((ji9) : Int).toNat⟩ : S24)]) ji6 (wrap64 (x25_1 + 1))) else (none)) else (none)) else (none)) else (none)) = some (r1, r2) := by first | (rw [hji9] at H; exact H) | (simp only [hji9] at H ⊢; exact H)
                have hji9_ : (if (a0.size : Int) < (wrap64 ((wrap64 (x25_1 + 1)) * a1)) then (a0.size : Int) else (wrap64 ((wrap64 (x25_1 + 1)) * a1))) = ji9 := hji9
                obtain ⟨ji10, hji10⟩ : ∃ j_ : Int, (wrap64 (x25_1 * a1)) = j_ := ⟨_, rfl⟩
                replace H : (if 0 ≤ (ji10) then (if (ji10) ≤ (ji9) then (if (ji9) ≤ (a0.size : Int) then (if x7_1.length < 4398046511104 then (chunk_Cut.l0 k1 a0 a1 ji6 (x7_1 ++ [(⟨x25_1, ji6, a0.extract ((ji10) : Int).toNat ((ji9) : Int).toNat⟩ : S24)]) ji6 (wrap64 (x25_1 + 1))) else (none)) else (none)) else (none)) else (none)) = some (r1, r2) := by first | (rw [hji10] at H; exact H) | (simp only [hji10] at H ⊢; exact H)
                have hji10w : (IntKind.i64.wrap (x25_1 * a1)) = ji10 := (i64_w _).trans hji10
                by_cases c11 : 0 ≤ (ji10)
                · rw [if_pos c11] at H
                  have c11b0 := eq_true c11
                  have c11b1 : decide (0 ≤ (ji10)) = true := decide_eq_true c11
                  clear c11
                  by_cases c12 : (ji10) ≤ (ji9)
                  · rw [if_pos c12] at H
                    have c12b0 := eq_true c12
                    have c12b1 : decide ((ji10) ≤ (ji9)) = true := decide_eq_true c12
                    clear c12
                    by_cases c13 : (ji9) ≤ (a0.size : Int)
                    · rw [if_pos c13] at H
                      have c13b0 := eq_true c13
                      have c13b1 : decide ((ji9) ≤ (a0.size : Int)) = true := decide_eq_true c13
                      clear c13
                      by_cases c14 : x7_1.length < 4398046511104
                      · rw [if_pos c14] at H
                        have LMc14 := Aside0.mk c14
                        clear c14
                        obtain ⟨y262, hy262⟩ : ∃ y_ : List (S24), y_ = (x7_1 ++ [(⟨x25_1, ji6, a0.extract ((ji10) : Int).toNat ((ji9) : Int).toNat⟩ : S24)]) := ⟨_, rfl⟩
                        replace H : (chunk_Cut.l0 k1 a0 a1 ji6 y262 ji6 (wrap64 (x25_1 + 1))) = some (r1, r2) := by first | (rw [hy262]; with_reducible exact H) | (have H2_ := (Option.bind_some _ _).symm.trans H; rw [hy262]; with_reducible exact H2_) | (have H2_ := (Option.bind_some _ _).symm.trans H; with_reducible exact H2_) | with_reducible exact H | (rw [hy262]; exact H) | exact H
                        have Ny262 := Aside0.mk hy262
                        clear hy262
                        have H' := Aside0.mk H
                        clear H
                        go_wp2_with (first | ((with_reducible refine gate_builtin (b := .append) (xs := #[.tmp 28, .tmp 44]) rfl ?_); at_builtin; refine Kd.R_append k24 (w0 := w) w.heap.size rfl (.tmp 28) (.tmp 44) 136 24 (.agg #[(.int .i64 0), (.int .i64 0), (.string ⟨#[]⟩)]) 32 rfl Tryz.underlying136 info24 rfl (by decide) (by omega) u7 x7_1 (⟨x25_1, ji6, a0.extract ((ji10) : Int).toNat ((ji9) : Int).toNat⟩ : S24) [.int .i64 x25_1, .int .i64 ji6, .string (a0.extract ((ji10) : Int).toNat ((ji9) : Int).toNat)] (fun _ => True) (fun _ => False) rfl rfl ?aP (fun _ hk => hk.elim) ?aF ?aO ?aB ?aS ?aL ?_; (case aP => exact k24_mkM _ _ _ (⟨x25_1, ji6, a0.extract ((ji10) : Int).toNat ((ji9) : Int).toNat⟩ : S24)); (case aB => exact (by repeat (first | (with_reducible first | exact HB.out | apply below_alloc | apply pw_below_drewN | apply below_drew1) | exact HB.out))); (case aF => exact (fun _ _ => trivial)); (case aO => exact (by (with_reducible repeat (first | apply Kd.R_alloc | apply Kd.R_drewN | apply Kd.R_drew)); exact HO_7.out)); (case aS => exact (below_size (by repeat (first | (with_reducible first | exact HB.out | apply below_alloc | apply pw_below_drewN | apply below_drew1) | exact HB.out)))); (case aL => have := LMc14.out; omega); intro v263 w15 ho hb hg hat; rw [← Ny262.out] at ho; have n0_ := Aside0.mk (hb); have n1_ := Aside0.mk (ho); clear HB; clear HO_7; have HB := n0_; have HO264 := n1_; clear n0_ n1_; clear ho hb hg hat))
                        go_roundg k1
                        case measure => have := HK1.out; omega
                        case rel => exact ⟨(y262), (wrap64 (x25_1 + 1)), (by first | rfl | (simp; done) | (simp [*]; done)), H', ⟨by have := HK1.out; omega⟩, ⟨by (with_reducible repeat (first | apply Kd.R_alloc | apply Kd.R_drewN | apply Kd.R_drew)); exact HO264.out⟩, ⟨by repeat (first | (with_reducible first | exact HB.out | apply below_alloc | apply pw_below_drewN | apply below_drew1) | exact HB.out)⟩⟩
                      · rw [if_neg c14] at H
                        exact absurd H (by simp)
                    · rw [if_neg c13] at H
                      exact absurd H (by simp)
                  · rw [if_neg c12] at H
                    exact absurd H (by simp)
                · rw [if_neg c11] at H
                  exact absurd H (by simp)
              · rw [if_neg c8] at H
                have c8b0 : decide (x25_1 < ji6) = false := decide_eq_false c8
                clear c8
                simp only [Option.some.injEq, Prod.mk.injEq] at H
                obtain ⟨rfl, rfl⟩ := H
                go_wp2
                go_ret2
                exact ⟨_, by first | rfl | (simp [errW_none, errW_some] <;> rfl) | (simp only [← hji6]; first | rfl | (simp [errW_none, errW_some] <;> rfl)) | (simp [*, errW_none, errW_some] <;> rfl), by (with_reducible repeat (first | apply Kd.R_alloc | apply Kd.R_drewN | apply Kd.R_drew)); exact HO_7.out, by repeat (first | (with_reducible first | exact HB.out | apply below_alloc | apply pw_below_drewN | apply below_drew1) | exact HB.out)⟩

-- NOT PRINTED: function 85 (coord_Coord_parts)

-- NOT PRINTED: function 49 (coord_Coord_serve)

-- NOT PRINTED: function 77 (plan_Tally_Count)

-- NOT PRINTED: function 67 (plan_Tally_Won)

-- NOT PRINTED: function 42 (plan_Tally_Add)

-- NOT PRINTED: function 86 (coord_Coord_settled)

-- NOT PRINTED: function 87 (coord_Coord_prunes)

/-- A state of type 236 at block g of W; what its slices lead to came in by w0. -/
def IsS236 (w0 W : World) (g : Nat) (f0 : ByteArray) (f1 : Int) (f2 : Int) : Prop := W.heap[g]? = some (.cells #[.string f0, .int .i64 f1, .int .i64 f2] 236 (0, 0)) ∧ w0.heap.size ≤ g
theorem IsS236.grown {w0 W : World} {g : Nat} {f0 : ByteArray} {f1 : Int} {f2 : Int} {W1 : World} {row : Option Nat} (h : IsS236 w0 W g f0 f1 f2) (hw : W.grownBy W1 row) (hne : some g ≠ row) : IsS236 w0 W1 g f0 f1 f2 := by
  obtain ⟨hb, hg⟩ := h
  exact ⟨blk_grown hb hw hne, hg⟩
theorem IsS236.own_neN {w0 W : World} {g : Nat} {f0 : ByteArray} {f1 : Int} {f2 : Int} {α : Type} {d : Kd α} {e : Nat} {base : Nat} {ok : Nat → Prop} {v : Value} {xs : List α} (h : IsS236 w0 W g f0 f1 f2) (ho : Kd.N d e W base ok v xs) (ht : e ≠ 236) : some g ≠ v.ownBlock := by
  obtain ⟨hb, hg⟩ := h
  exact Kd.N_ne ho hb ht
theorem IsS236.fresh {w0 W : World} {g : Nat} {f0 : ByteArray} {f1 : Int} {f2 : Int} (h : IsS236 w0 W g f0 f1 f2) : ∀ k, W.heap.size ≤ k → k ≠ g := by
  obtain ⟨hb, hg⟩ := h
  exact Kd.freshB hb
theorem IsS236.kept {w0 W : World} {g : Nat} {f0 : ByteArray} {f1 : Int} {f2 : Int} {W1 : World} {S : Nat → Prop} (h : IsS236 w0 W g f0 f1 f2) (hk : Kept W W1 S) (hne : ¬ S g) : IsS236 w0 W1 g f0 f1 f2 := by
  obtain ⟨hb, hg⟩ := h
  exact ⟨blk_kept hb hk hne, hg⟩
theorem IsS236.below {w0 W : World} {g : Nat} {f0 : ByteArray} {f1 : Int} {f2 : Int} {W1 : World} (h : IsS236 w0 W g f0 f1 f2) (hw : Below W.heap.size W W1) : IsS236 w0 W1 g f0 f1 f2 := h.grown (grown_of_below hw none) (by simp)
theorem IsS236.alloc {w0 W : World} {g : Nat} {f0 : ByteArray} {f1 : Int} {f2 : Int} (h : IsS236 w0 W g f0 f1 f2) (o : Obj) : IsS236 w0 (W.alloc o) g f0 f1 f2 := h.below (below_alloc (Below.refl _ _) o)
theorem IsS236.drewN {w0 W : World} {g : Nat} {f0 : ByteArray} {f1 : Int} {f2 : Int} (h : IsS236 w0 W g f0 f1 f2) (m : Nat) : IsS236 w0 (W.drewN m) g f0 f1 f2 := h
theorem IsS236.drew {w0 W : World} {g : Nat} {f0 : ByteArray} {f1 : Int} {f2 : Int} (h : IsS236 w0 W g f0 f1 f2) : IsS236 w0 W.drew g f0 f1 f2 := h
theorem IsS236.at_ {w0 W : World} {g : Nat} {f0 : ByteArray} {f1 : Int} {f2 : Int} {w' : World} {m : Nat} (hq : W.drewN m = w') (h : IsS236 w0 W g f0 f1 f2) : IsS236 w0 w' g f0 f1 f2 := by subst hq; exact IsS236.drewN h m
theorem IsS236.apart {w0 W : World} {g : Nat} {f0 : ByteArray} {f1 : Int} {f2 : Int} {α : Type} {d : Kd α} {e : Nat} {base : Nat} {ok : Nat → Prop} {v : Value} {xs : List α} (h : IsS236 w0 W g f0 f1 f2) (ho : d.R e W base ok v xs) (ht : ∀ q, q ∈ e :: d.E → q ≠ 236) : d.R e W base (fun k => ok k ∧ k ≠ g) v xs := by
  obtain ⟨hb, hg⟩ := h
  exact Kd.R_types ho hb ht
theorem IsS236.own_ne {w0 W : World} {g : Nat} {f0 : ByteArray} {f1 : Int} {f2 : Int} {α : Type} {d : Kd α} {e : Nat} {base : Nat} {ok : Nat → Prop} {v : Value} {xs : List α} (h : IsS236 w0 W g f0 f1 f2) (ho : d.R e W base ok v xs) (ht : e ≠ 236) : some g ≠ v.ownBlock := by
  obtain ⟨hb, hg⟩ := h
  exact Kd.R_ne ho hb ht
theorem IsS236.apartQ {w0 W : World} {g : Nat} {f0 : ByteArray} {f1 : Int} {f2 : Int} {α : Type} {d : Kd α} {e : Nat} {base : Nat} {ok : Nat → Prop} {v : Value} {xs : List α} (h : IsS236 w0 W g f0 f1 f2) (ho : d.Q e W base ok v xs) (ht : ∀ q, q ∈ e :: d.E → q ≠ 236) : d.Q e W base (fun k => ok k ∧ k ≠ g) v xs := by
  obtain ⟨hb, hg⟩ := h
  exact Kd.Q_types ho hb ht
theorem IsS236.own_neQ {w0 W : World} {g : Nat} {f0 : ByteArray} {f1 : Int} {f2 : Int} {α : Type} {d : Kd α} {e : Nat} {base : Nat} {ok : Nat → Prop} {v : Value} {xs : List α} (h : IsS236 w0 W g f0 f1 f2) (ho : d.Q e W base ok v xs) (ht : e ≠ 236) : some g ≠ v.ownBlock := by
  obtain ⟨hb, hg⟩ := h
  exact Kd.Q_ne ho hb ht
theorem IsS236.apartS {w0 W : World} {g : Nat} {f0 : ByteArray} {f1 : Int} {f2 : Int} {α : Type} {d : Kd α} {e : Nat} {base : Nat} {ok : Nat → Prop} {v : Value} {xs : List α} (h : IsS236 w0 W g f0 f1 f2) (ho : d.S e W base ok v xs) (ht : ∀ q, q ∈ e :: d.E → q ≠ 236) : d.S e W base (fun k => ok k ∧ k ≠ g) v xs := by
  obtain ⟨hb, hg⟩ := h
  exact Kd.S_types ho hb ht
theorem IsS236.own_neS {w0 W : World} {g : Nat} {f0 : ByteArray} {f1 : Int} {f2 : Int} {α : Type} {d : Kd α} {e : Nat} {base : Nat} {ok : Nat → Prop} {v : Value} {xs : List α} (h : IsS236 w0 W g f0 f1 f2) (ho : d.S e W base ok v xs) (ht : e ≠ 236) : some g ≠ v.ownBlock := by
  obtain ⟨hb, hg⟩ := h
  exact Kd.S_ne ho hb ht
theorem IsS236.lt {w0 W : World} {g : Nat} {f0 : ByteArray} {f1 : Int} {f2 : Int} (h : IsS236 w0 W g f0 f1 f2) : g < W.heap.size := by
  obtain ⟨hb, hg⟩ := h
  exact blk_lt hb
theorem IsS236.ge {w0 W : World} {g : Nat} {f0 : ByteArray} {f1 : Int} {f2 : Int} (h : IsS236 w0 W g f0 f1 f2) : w0.heap.size ≤ g := by
  obtain ⟨hb, hg⟩ := h
  exact hg
theorem IsS236.ne_blk {w0 W : World} {g : Nat} {f0 : ByteArray} {f1 : Int} {f2 : Int} {a : Nat} {cs : Array Value} {t : TypeId} {fr : Nat × Nat} (h : IsS236 w0 W g f0 f1 f2) (hb2 : W.heap[a]? = some (.cells cs t fr)) (ht : t ≠ 236) : g ≠ a := by
  obtain ⟨hb, hg⟩ := h
  rintro rfl
  rw [hb] at hb2
  injection hb2 with hb2
  injection hb2 with _ ht2
  exact ht ht2.symm
theorem IsS236.far {w0 W : World} {g : Nat} {f0 : ByteArray} {f1 : Int} {f2 : Int} {p : Addr} (h : IsS236 w0 W g f0 f1 f2) (hne : g ≠ p.block) (u : Value) : IsS236 w0 (W.setCell p u) g f0 f1 f2 := by
  obtain ⟨hb, hg⟩ := h
  exact ⟨blk_far hb hne u, hg⟩
theorem cellS236_0 {W : World} {g : Nat} {f0 : ByteArray} {f1 : Int} {f2 : Int} (h : W.heap[g]? = some (.cells #[.string f0, .int .i64 f1, .int .i64 f2] 236 (0, 0))) : W.cell? ⟨g, 0, none⟩ = some (.string f0) := (blk_cell h 0).trans rfl
theorem IsS236.set_0 {w0 W : World} {g : Nat} {f0 : ByteArray} {f1 : Int} {f2 : Int} (h : IsS236 w0 W g f0 f1 f2) (x : ByteArray) : IsS236 w0 (W.setCell ⟨g, 0, none⟩ (.string x)) g x f1 f2 := by
  obtain ⟨hb, hg⟩ := h
  exact ⟨by simpa using blk_set hb 0 (.string x), hg⟩
theorem cellS236_1 {W : World} {g : Nat} {f0 : ByteArray} {f1 : Int} {f2 : Int} (h : W.heap[g]? = some (.cells #[.string f0, .int .i64 f1, .int .i64 f2] 236 (0, 0))) : W.cell? ⟨g, 1, none⟩ = some (.int .i64 f1) := (blk_cell h 1).trans rfl
theorem IsS236.set_1 {w0 W : World} {g : Nat} {f0 : ByteArray} {f1 : Int} {f2 : Int} (h : IsS236 w0 W g f0 f1 f2) (x : Int) : IsS236 w0 (W.setCell ⟨g, 1, none⟩ (.int .i64 x)) g f0 x f2 := by
  obtain ⟨hb, hg⟩ := h
  exact ⟨by simpa using blk_set hb 1 (.int .i64 x), hg⟩
theorem cellS236_2 {W : World} {g : Nat} {f0 : ByteArray} {f1 : Int} {f2 : Int} (h : W.heap[g]? = some (.cells #[.string f0, .int .i64 f1, .int .i64 f2] 236 (0, 0))) : W.cell? ⟨g, 2, none⟩ = some (.int .i64 f2) := (blk_cell h 2).trans rfl
theorem IsS236.set_2 {w0 W : World} {g : Nat} {f0 : ByteArray} {f1 : Int} {f2 : Int} (h : IsS236 w0 W g f0 f1 f2) (x : Int) : IsS236 w0 (W.setCell ⟨g, 2, none⟩ (.int .i64 x)) g f0 f1 x := by
  obtain ⟨hb, hg⟩ := h
  exact ⟨by simpa using blk_set hb 2 (.int .i64 x), hg⟩
theorem IsS236.new (w0 W : World) (f0 : ByteArray) (f1 : Int) (f2 : Int) (hB : Below w0.heap.size w0 W) : IsS236 w0 (W.alloc (.cells #[.string f0, .int .i64 f1, .int .i64 f2] 236)) W.heap.size f0 f1 f2 := ⟨by simpa using heap_alloc_new W _, hB.size⟩

/-! ### code_Read: function 142 -/
def code_Read.f (a0 : ByteArray) : Option (ByteArray × Int × Int) := some (a0, 0, 0)
set_option maxHeartbeats 8000000 in
set_option maxRecDepth 100000 in
theorem code_Read.calls (a0 : ByteArray) (r1 : ByteArray) (r2 : Int) (r3 : Int) (w0 w : World) (hB : Below w0.heap.size w0 w) (h : code_Read.f a0 = some (r1, r2, r3)) :
    Calls Tryz.prog 142 #[.string a0] w fun e w' => ∃ g_ : Nat, e = .returned (.pointer (some ⟨g_, 0, none⟩)) ∧ IsS236 w0 w' g_ r1 r2 r3 ∧ Below w0.heap.size w0 w' ∧ Below w.heap.size w w' := by
  have hu236 := Tryz.underlying236
  have HBW := Aside0.mk (Below.refl w.heap.size w)
  have HW0 := Aside0.mk hB.size
  have HB := Aside0.mk hB
  clear hB
  have H : (some (a0, 0, 0)) = some (r1, r2, r3) := h
  clear h
  simp only [Option.some.injEq, Prod.mk.injEq] at H
  obtain ⟨rfl, rfl, rfl⟩ := H
  go_enter Tryz.func142, Tryz.ntmps142
  go_wp2_with (first | ((with_reducible refine gate_dst (N := 5) rfl ?_); refine box_event ?hg (N := 5) ?hd (cs := #[.string a0, .int .i64 0, .int .i64 0]) (t := 236) ?hr ?_; (case hd => rfl); (case hg => rfl); (case hr => first | (go_simp; done) | (go_simp; rfl)); intro gb265 hg w2 hbox hb; have n0_ := Aside0.mk (below_step HBW.out hb); have n1_ := Aside0.mk (below_step (by repeat (first | (with_reducible first | exact HB.out | apply below_alloc | apply pw_below_drewN | apply below_drew1) | exact HB.out)) hb); have n2_ := Aside0.mk (hbox); have n3_ := Aside0.mk ((by rw [hg]; exact (below_size (by repeat (first | (with_reducible first | exact HBW.out | apply below_alloc | apply pw_below_drewN | apply below_drew1) | exact HBW.out))) : w.heap.size ≤ gb265)); have n4_ := Aside0.mk ((Nat.le_trans HW0.out (by rw [hg]; exact (below_size (by repeat (first | (with_reducible first | exact HBW.out | apply below_alloc | apply pw_below_drewN | apply below_drew1) | exact HBW.out))) : w.heap.size ≤ gb265) : w0.heap.size ≤ gb265)); clear HBW; clear HB; have HBW := n0_; have HB := n1_; have BK265 := n2_; have GW265 := n3_; have GE265 := n4_; clear n0_ n1_ n2_ n3_ n4_; clear hb hbox hg))
  go_ret
  exact ⟨_, rfl, (show IsS236 w0 _ gb265 a0 0 0 from ⟨by (with_reducible repeat (first | refine blk_drewN ?_ _ | refine blk_drew ?_ | refine blk_alloc ?_ _)); exact BK265.out, GE265.out⟩), by repeat (first | (with_reducible first | exact HB.out | apply below_alloc | apply pw_below_drewN | apply below_drew1 | refine below_set ?_ GE265.out) | exact HB.out), by repeat (first | (with_reducible first | exact HBW.out | apply below_alloc | apply pw_below_drewN | apply below_drew1 | refine below_set ?_ GW265.out) | exact HBW.out)⟩

-- NOT PRINTED: function 169 (code_Reader_off)

-- NOT PRINTED: function 170 (code_Reader_fail)

-- NOT PRINTED: function 172 (code_Reader_Byte)

-- NOT PRINTED: function 145 (code_Reader_Num)

-- NOT PRINTED: function 143 (code_Reader_Count)

-- NOT PRINTED: function 147 (code_Reader_Left)

-- NOT PRINTED: function 171 (code_Reader_Raw)

-- NOT PRINTED: function 144 (code_Reader_Text)

-- NOT PRINTED: function 146 (code_Reader_Err)

-- NOT PRINTED: function 127 (image_head)

-- NOT PRINTED: function 111 (image_Tree)

-- NOT PRINTED: function 88 (coord_Coord_reply)

-- NOT PRINTED: function 50 (coord_Coord_asks)

-- NOT PRINTED: function 89 (chunk_Box_Missing)

-- NOT PRINTED: function 51 (coord_Coord_fetches)

-- NOT PRINTED: function 21 (coord_Coord_Tick)

/-! ### barqueref17_Fields: function 62 -/
mutual
def barqueref17_Fields.j0 : Nat → Int → Bool → Option (ByteArray)
  | 0, _, _ => none
  | k + 1, x3, x4 => if x4 = true then (some (⟨#[66]⟩ : ByteArray)) else (if x3 = 2 then (some (⟨#[66, 70, 84, 76]⟩ : ByteArray)) else (if x3 = 4 then (some (⟨#[66, 71, 83, 77, 80]⟩ : ByteArray)) else (if x3 = 5 then (some (⟨#[66, 71, 84, 82, 77]⟩ : ByteArray)) else (if x3 = 6 then (barqueref17_Fields.j1 k x3 (x3 == 6)) else (if x3 = 7 then (barqueref17_Fields.j1 k x3 (x3 == 7)) else (barqueref17_Fields.j1 k x3 (x3 == 8)))))))
def barqueref17_Fields.j1 : Nat → Int → Bool → Option (ByteArray)
  | 0, _, _ => none
  | k + 1, x3, x13 => if x13 = true then (some (⟨#[66, 71, 77]⟩ : ByteArray)) else (if x3 = 9 then (some (⟨#[71, 77]⟩ : ByteArray)) else (if x3 = 10 then (some (⟨#[70, 84]⟩ : ByteArray)) else (if x3 = 11 then (some (⟨#[66, 82]⟩ : ByteArray)) else (if x3 = 12 then (some (⟨#[66, 70, 84, 82]⟩ : ByteArray)) else (if x3 = 13 then (barqueref17_Fields.j2 k x3 (x3 == 13)) else (barqueref17_Fields.j2 k x3 (x3 == 14)))))))
def barqueref17_Fields.j2 : Nat → Int → Bool → Option (ByteArray)
  | 0, _, _ => none
  | k + 1, x3, x25 => if x25 = true then (some (⟨#[71, 77, 80]⟩ : ByteArray)) else (if x3 = 15 then (some (⟨#[66, 70]⟩ : ByteArray)) else (if x3 = 16 then (some (⟨#[66, 70, 84]⟩ : ByteArray)) else (if x3 = 17 then (some (⟨#[66, 71]⟩ : ByteArray)) else (some (⟨#[]⟩ : ByteArray)))))
end
def barqueref17_Fields.f (k : Nat) (a0 : Int) : Option (ByteArray) := if a0 = 1 then (barqueref17_Fields.j0 k a0 (a0 == 1)) else (barqueref17_Fields.j0 k a0 (a0 == 3))
theorem barqueref17_Fields.mono_l : ∀ k, (∀ y0 y1, LeO (barqueref17_Fields.j0 k y0 y1) (barqueref17_Fields.j0 (k + 1) y0 y1)) ∧ (∀ y0 y1, LeO (barqueref17_Fields.j1 k y0 y1) (barqueref17_Fields.j1 (k + 1) y0 y1)) ∧ (∀ y0 y1, LeO (barqueref17_Fields.j2 k y0 y1) (barqueref17_Fields.j2 (k + 1) y0 y1))
  | 0 => ⟨fun _ _ r h => by simp [barqueref17_Fields.j0] at h, fun _ _ r h => by simp [barqueref17_Fields.j1] at h, fun _ _ r h => by simp [barqueref17_Fields.j2] at h⟩
  | k + 1 => by
    obtain ⟨ih0, ih1, ih2⟩ := barqueref17_Fields.mono_l k
    refine ⟨?_, ?_, ?_⟩
    · intro y0 y1
      unfold barqueref17_Fields.j0
      repeat' first
      | (with_reducible exact ih0 _ _)
      | (with_reducible exact ih1 _ _)
      | (with_reducible exact ih2 _ _)
      | (with_reducible exact LeO.refl _)
      | (with_reducible exact LeO.none _)
      | (with_reducible refine LeO.ite ?_ ?_)
      | (with_reducible refine LeO.bind ?_ (fun _ => ?_))
      | exact ih0 _ _
      | exact ih1 _ _
      | exact ih2 _ _
      | exact LeO.none _
      | refine LeO.ite ?_ ?_
      | refine LeO.bind ?_ (fun _ => ?_)
    · intro y0 y1
      unfold barqueref17_Fields.j1
      repeat' first
      | (with_reducible exact ih0 _ _)
      | (with_reducible exact ih1 _ _)
      | (with_reducible exact ih2 _ _)
      | (with_reducible exact LeO.refl _)
      | (with_reducible exact LeO.none _)
      | (with_reducible refine LeO.ite ?_ ?_)
      | (with_reducible refine LeO.bind ?_ (fun _ => ?_))
      | exact ih0 _ _
      | exact ih1 _ _
      | exact ih2 _ _
      | exact LeO.none _
      | refine LeO.ite ?_ ?_
      | refine LeO.bind ?_ (fun _ => ?_)
    · intro y0 y1
      unfold barqueref17_Fields.j2
      repeat' first
      | (with_reducible exact ih0 _ _)
      | (with_reducible exact ih1 _ _)
      | (with_reducible exact ih2 _ _)
      | (with_reducible exact LeO.refl _)
      | (with_reducible exact LeO.none _)
      | (with_reducible refine LeO.ite ?_ ?_)
      | (with_reducible refine LeO.bind ?_ (fun _ => ?_))
      | exact ih0 _ _
      | exact ih1 _ _
      | exact ih2 _ _
      | exact LeO.none _
      | refine LeO.ite ?_ ?_
      | refine LeO.bind ?_ (fun _ => ?_)
theorem barqueref17_Fields.mono : ∀ a0 k, LeO (barqueref17_Fields.f k a0) (barqueref17_Fields.f (k + 1) a0) := by
  intro a0 k
  obtain ⟨ih0, ih1, ih2⟩ := barqueref17_Fields.mono_l k
  unfold barqueref17_Fields.f
  repeat' first
      | (with_reducible exact ih0 _ _)
      | (with_reducible exact ih1 _ _)
      | (with_reducible exact ih2 _ _)
      | (with_reducible exact LeO.refl _)
      | (with_reducible exact LeO.none _)
      | (with_reducible refine LeO.ite ?_ ?_)
      | (with_reducible refine LeO.bind ?_ (fun _ => ?_))
      | exact ih0 _ _
      | exact ih1 _ _
      | exact ih2 _ _
      | exact LeO.none _
      | refine LeO.ite ?_ ?_
      | refine LeO.bind ?_ (fun _ => ?_)
set_option maxHeartbeats 8000000 in
set_option maxRecDepth 100000 in
theorem barqueref17_Fields.calls (k : Nat) (a0 : Int) (r : ByteArray) (w : World) (h : barqueref17_Fields.f k a0 = some r) :
    Calls Tryz.prog 62 #[.int .i64 a0] w fun e w' => e = .returned (.string r) ∧ Drawn0 w w' := by
  have H : (if a0 = 1 then (barqueref17_Fields.j0 k a0 (a0 == 1)) else (barqueref17_Fields.j0 k a0 (a0 == 3))) = some r := h
  clear h
  have HC2 := Aside0.mk H
  clear H
  go_enter Tryz.func62, Tryz.ntmps62
  go_upto_if 4 with (fail)
  go_cut [4] (fun v4 wc => ∃ (kq : Nat) (x4_1 : Bool), v4 = .bool x4_1 ∧ Aside0 (barqueref17_Fields.j0 kq a0 x4_1 = some r) ∧ Aside0 (kq ≤ k) ∧ Drawn0 w wc)
  case first =>
    have H := HC2.out
    clear HC2
    by_cases c3 : a0 = 1
    · rw [if_pos c3] at H
      have c3b0 : (a0 == 1) = true := beq_iff_eq.mpr c3
      have c3b1 : (a0 != 1) = false := bne_eq_false_iff_eq.mpr c3
      clear c3
      (first | rw [c3b0] | (simp only [i64_w, i32_w]; rw [c3b0]) | skip)
      have H' := Aside0.mk H
      clear H
      go_wp2
      go_meet
      case rel => exact ⟨_, ((a0 == 1)), (by first | rfl | (simp; done) | (simp [*]; done)), H', ⟨by first | omega | exact Nat.le_refl _⟩, by repeat (first | exact Drawn0.refl _ | apply Drawn0.step)⟩
    · rw [if_neg c3] at H
      have c3b0 : (a0 == 1) = false := beq_eq_false_iff_ne.mpr c3
      have c3b1 : (a0 != 1) = true := bne_iff_ne.mpr c3
      (first | rw [c3b0] | (simp only [i64_w, i32_w]; rw [c3b0]) | skip)
      have H' := Aside0.mk H
      clear H
      go_wp2
      go_meet
      case rel => exact ⟨_, ((a0 == 3)), (by first | rfl | (simp; done) | (simp [*]; done)), H', ⟨by first | omega | exact Nat.le_refl _⟩, by repeat (first | exact Drawn0.refl _ | apply Drawn0.step)⟩
  case rest =>
    clear HC2
    try clear p2
    try clear c3
    try clear c3b0
    try clear c3b1
    obtain ⟨kq, x4_1, rfl, HA, HJ1, ⟨mc1, rfl⟩⟩ := hcut
    cases kq with
    | zero => exact absurd HA.out (by simp [barqueref17_Fields.j0])
    | succ kj1 =>
      have H := HA.out
      clear HA
      simp only [barqueref17_Fields.j0] at H
      by_cases c4 : x4_1 = true
      · subst c4
        have H1 : (some (⟨#[66]⟩ : ByteArray)) = some r := by rw [if_pos rfl] at H; exact H
        clear H
        have H := H1
        clear H1
        obtain rfl := Option.some.inj H
        go_wp2
        go_ret
        exact ⟨by first | rfl | (simp; done) | (simp [*]; done), by repeat (first | exact Drawn0.refl _ | apply Drawn0.step)⟩
      · replace c4 := Bool.eq_false_iff.mpr c4
        subst c4
        have H1 : (if a0 = 2 then (some (⟨#[66, 70, 84, 76]⟩ : ByteArray)) else (if a0 = 4 then (some (⟨#[66, 71, 83, 77, 80]⟩ : ByteArray)) else (if a0 = 5 then (some (⟨#[66, 71, 84, 82, 77]⟩ : ByteArray)) else (if a0 = 6 then (barqueref17_Fields.j1 kj1 a0 (a0 == 6)) else (if a0 = 7 then (barqueref17_Fields.j1 kj1 a0 (a0 == 7)) else (barqueref17_Fields.j1 kj1 a0 (a0 == 8))))))) = some r := by rw [if_neg (show ¬ (false = true) by decide)] at H; exact H
        clear H
        have H := H1
        clear H1
        by_cases c5 : a0 = 2
        · rw [if_pos c5] at H
          have c5b0 : (a0 == 2) = true := beq_iff_eq.mpr c5
          have c5b1 : (a0 != 2) = false := bne_eq_false_iff_eq.mpr c5
          clear c5
          obtain rfl := Option.some.inj H
          go_wp2
          go_ret
          exact ⟨by first | rfl | (simp; done) | (simp [*]; done), by repeat (first | exact Drawn0.refl _ | apply Drawn0.step)⟩
        · rw [if_neg c5] at H
          have c5b0 : (a0 == 2) = false := beq_eq_false_iff_ne.mpr c5
          have c5b1 : (a0 != 2) = true := bne_iff_ne.mpr c5
          by_cases c6 : a0 = 4
          · rw [if_pos c6] at H
            have c6b0 : (a0 == 4) = true := beq_iff_eq.mpr c6
            have c6b1 : (a0 != 4) = false := bne_eq_false_iff_eq.mpr c6
            clear c6
            obtain rfl := Option.some.inj H
            go_wp2
            go_ret
            exact ⟨by first | rfl | (simp; done) | (simp [*]; done), by repeat (first | exact Drawn0.refl _ | apply Drawn0.step)⟩
          · rw [if_neg c6] at H
            have c6b0 : (a0 == 4) = false := beq_eq_false_iff_ne.mpr c6
            have c6b1 : (a0 != 4) = true := bne_iff_ne.mpr c6
            by_cases c7 : a0 = 5
            · rw [if_pos c7] at H
              have c7b0 : (a0 == 5) = true := beq_iff_eq.mpr c7
              have c7b1 : (a0 != 5) = false := bne_eq_false_iff_eq.mpr c7
              clear c7
              obtain rfl := Option.some.inj H
              go_wp2
              go_ret
              exact ⟨by first | rfl | (simp; done) | (simp [*]; done), by repeat (first | exact Drawn0.refl _ | apply Drawn0.step)⟩
            · rw [if_neg c7] at H
              have c7b0 : (a0 == 5) = false := beq_eq_false_iff_ne.mpr c7
              have c7b1 : (a0 != 5) = true := bne_iff_ne.mpr c7
              have HC8 := Aside0.mk H
              clear H
              go_upto_if 13 with (fail)
              go_cut [13] (fun v13 wc => ∃ (kq : Nat) (x13_7 : Bool), v13 = .bool x13_7 ∧ Aside0 (barqueref17_Fields.j1 kq a0 x13_7 = some r) ∧ Aside0 (kq ≤ kj1) ∧ Drawn0 w wc)
              case first =>
                have H := HC8.out
                clear HC8
                by_cases c9 : a0 = 6
                · rw [if_pos c9] at H
                  have c9b0 : (a0 == 6) = true := beq_iff_eq.mpr c9
                  have c9b1 : (a0 != 6) = false := bne_eq_false_iff_eq.mpr c9
                  clear c9
                  (first | rw [c9b0] | (simp only [i64_w, i32_w]; rw [c9b0]) | skip)
                  have H' := Aside0.mk H
                  clear H
                  go_wp2
                  go_meet
                  case rel => exact ⟨_, ((a0 == 6)), (by first | rfl | (simp; done) | (simp [*]; done)), H', ⟨by have := HJ1.out; first | omega | exact Nat.le_refl _⟩, by repeat (first | exact Drawn0.refl _ | apply Drawn0.step)⟩
                · rw [if_neg c9] at H
                  have c9b0 : (a0 == 6) = false := beq_eq_false_iff_ne.mpr c9
                  have c9b1 : (a0 != 6) = true := bne_iff_ne.mpr c9
                  (first | rw [c9b0] | (simp only [i64_w, i32_w]; rw [c9b0]) | skip)
                  by_cases c10 : a0 = 7
                  · rw [if_pos c10] at H
                    have c10b0 : (a0 == 7) = true := beq_iff_eq.mpr c10
                    have c10b1 : (a0 != 7) = false := bne_eq_false_iff_eq.mpr c10
                    clear c10
                    have H' := Aside0.mk H
                    clear H
                    go_wp2
                    go_meet
                    case rel => exact ⟨_, ((a0 == 7)), (by first | rfl | (simp; done) | (simp [*]; done)), H', ⟨by have := HJ1.out; first | omega | exact Nat.le_refl _⟩, by repeat (first | exact Drawn0.refl _ | apply Drawn0.step)⟩
                  · rw [if_neg c10] at H
                    have c10b0 : (a0 == 7) = false := beq_eq_false_iff_ne.mpr c10
                    have c10b1 : (a0 != 7) = true := bne_iff_ne.mpr c10
                    have H' := Aside0.mk H
                    clear H
                    go_wp2
                    go_meet
                    case rel => exact ⟨_, ((a0 == 8)), (by first | rfl | (simp; done) | (simp [*]; done)), H', ⟨by have := HJ1.out; first | omega | exact Nat.le_refl _⟩, by repeat (first | exact Drawn0.refl _ | apply Drawn0.step)⟩
              case rest =>
                clear HC8
                try clear c1
                try clear p2
                try clear c3
                try clear c3b0
                try clear c3b1
                try clear c4
                try clear c5
                try clear c5b0
                try clear c5b1
                try clear c6
                try clear c6b0
                try clear c6b1
                try clear c7
                try clear c7b0
                try clear c7b1
                try clear c9
                try clear c9b0
                try clear c9b1
                try clear c10
                try clear c10b0
                try clear c10b1
                try clear p2
                obtain ⟨kq, x13_7, rfl, HA, HJ7, ⟨mc7, rfl⟩⟩ := hcut
                cases kq with
                | zero => exact absurd HA.out (by simp [barqueref17_Fields.j1])
                | succ kj7 =>
                  have H := HA.out
                  clear HA
                  simp only [barqueref17_Fields.j1] at H
                  by_cases c11 : x13_7 = true
                  · subst c11
                    have H1 : (some (⟨#[66, 71, 77]⟩ : ByteArray)) = some r := by rw [if_pos rfl] at H; exact H
                    clear H
                    have H := H1
                    clear H1
                    obtain rfl := Option.some.inj H
                    go_wp2
                    go_ret
                    exact ⟨by first | rfl | (simp; done) | (simp [*]; done), by repeat (first | exact Drawn0.refl _ | apply Drawn0.step)⟩
                  · replace c11 := Bool.eq_false_iff.mpr c11
                    subst c11
                    have H1 : (if a0 = 9 then (some (⟨#[71, 77]⟩ : ByteArray)) else (if a0 = 10 then (some (⟨#[70, 84]⟩ : ByteArray)) else (if a0 = 11 then (some (⟨#[66, 82]⟩ : ByteArray)) else (if a0 = 12 then (some (⟨#[66, 70, 84, 82]⟩ : ByteArray)) else (if a0 = 13 then (barqueref17_Fields.j2 kj7 a0 (a0 == 13)) else (barqueref17_Fields.j2 kj7 a0 (a0 == 14))))))) = some r := by rw [if_neg (show ¬ (false = true) by decide)] at H; exact H
                    clear H
                    have H := H1
                    clear H1
                    by_cases c12 : a0 = 9
                    · rw [if_pos c12] at H
                      have c12b0 : (a0 == 9) = true := beq_iff_eq.mpr c12
                      have c12b1 : (a0 != 9) = false := bne_eq_false_iff_eq.mpr c12
                      clear c12
                      obtain rfl := Option.some.inj H
                      go_wp2
                      go_ret
                      exact ⟨by first | rfl | (simp; done) | (simp [*]; done), by repeat (first | exact Drawn0.refl _ | apply Drawn0.step)⟩
                    · rw [if_neg c12] at H
                      have c12b0 : (a0 == 9) = false := beq_eq_false_iff_ne.mpr c12
                      have c12b1 : (a0 != 9) = true := bne_iff_ne.mpr c12
                      by_cases c13 : a0 = 10
                      · rw [if_pos c13] at H
                        have c13b0 : (a0 == 10) = true := beq_iff_eq.mpr c13
                        have c13b1 : (a0 != 10) = false := bne_eq_false_iff_eq.mpr c13
                        clear c13
                        obtain rfl := Option.some.inj H
                        go_wp2
                        go_ret
                        exact ⟨by first | rfl | (simp; done) | (simp [*]; done), by repeat (first | exact Drawn0.refl _ | apply Drawn0.step)⟩
                      · rw [if_neg c13] at H
                        have c13b0 : (a0 == 10) = false := beq_eq_false_iff_ne.mpr c13
                        have c13b1 : (a0 != 10) = true := bne_iff_ne.mpr c13
                        by_cases c14 : a0 = 11
                        · rw [if_pos c14] at H
                          have c14b0 : (a0 == 11) = true := beq_iff_eq.mpr c14
                          have c14b1 : (a0 != 11) = false := bne_eq_false_iff_eq.mpr c14
                          clear c14
                          obtain rfl := Option.some.inj H
                          go_wp2
                          go_ret
                          exact ⟨by first | rfl | (simp; done) | (simp [*]; done), by repeat (first | exact Drawn0.refl _ | apply Drawn0.step)⟩
                        · rw [if_neg c14] at H
                          have c14b0 : (a0 == 11) = false := beq_eq_false_iff_ne.mpr c14
                          have c14b1 : (a0 != 11) = true := bne_iff_ne.mpr c14
                          by_cases c15 : a0 = 12
                          · rw [if_pos c15] at H
                            have c15b0 : (a0 == 12) = true := beq_iff_eq.mpr c15
                            have c15b1 : (a0 != 12) = false := bne_eq_false_iff_eq.mpr c15
                            clear c15
                            obtain rfl := Option.some.inj H
                            go_wp2
                            go_ret
                            exact ⟨by first | rfl | (simp; done) | (simp [*]; done), by repeat (first | exact Drawn0.refl _ | apply Drawn0.step)⟩
                          · rw [if_neg c15] at H
                            have c15b0 : (a0 == 12) = false := beq_eq_false_iff_ne.mpr c15
                            have c15b1 : (a0 != 12) = true := bne_iff_ne.mpr c15
                            have HC16 := Aside0.mk H
                            clear H
                            go_upto_if 25 with (fail)
                            go_cut [25] (fun v25 wc => ∃ (kq : Nat) (x25_15 : Bool), v25 = .bool x25_15 ∧ Aside0 (barqueref17_Fields.j2 kq a0 x25_15 = some r) ∧ Aside0 (kq ≤ kj7) ∧ Drawn0 w wc)
                            case first =>
                              have H := HC16.out
                              clear HC16
                              by_cases c17 : a0 = 13
                              · rw [if_pos c17] at H
                                have c17b0 : (a0 == 13) = true := beq_iff_eq.mpr c17
                                have c17b1 : (a0 != 13) = false := bne_eq_false_iff_eq.mpr c17
                                clear c17
                                (first | rw [c17b0] | (simp only [i64_w, i32_w]; rw [c17b0]) | skip)
                                have H' := Aside0.mk H
                                clear H
                                go_wp2
                                go_meet
                                case rel => exact ⟨_, ((a0 == 13)), (by first | rfl | (simp; done) | (simp [*]; done)), H', ⟨by have := HJ1.out; have := HJ7.out; first | omega | exact Nat.le_refl _⟩, by repeat (first | exact Drawn0.refl _ | apply Drawn0.step)⟩
                              · rw [if_neg c17] at H
                                have c17b0 : (a0 == 13) = false := beq_eq_false_iff_ne.mpr c17
                                have c17b1 : (a0 != 13) = true := bne_iff_ne.mpr c17
                                (first | rw [c17b0] | (simp only [i64_w, i32_w]; rw [c17b0]) | skip)
                                have H' := Aside0.mk H
                                clear H
                                go_wp2
                                go_meet
                                case rel => exact ⟨_, ((a0 == 14)), (by first | rfl | (simp; done) | (simp [*]; done)), H', ⟨by have := HJ1.out; have := HJ7.out; first | omega | exact Nat.le_refl _⟩, by repeat (first | exact Drawn0.refl _ | apply Drawn0.step)⟩
                            case rest =>
                              clear HC16
                              try clear c1
                              try clear p2
                              try clear c3
                              try clear c3b0
                              try clear c3b1
                              try clear c4
                              try clear c5
                              try clear c5b0
                              try clear c5b1
                              try clear c6
                              try clear c6b0
                              try clear c6b1
                              try clear c7
                              try clear c7b0
                              try clear c7b1
                              try clear c9
                              try clear c9b0
                              try clear c9b1
                              try clear c10
                              try clear c10b0
                              try clear c10b1
                              try clear c11
                              try clear c12
                              try clear c12b0
                              try clear c12b1
                              try clear c13
                              try clear c13b0
                              try clear c13b1
                              try clear c14
                              try clear c14b0
                              try clear c14b1
                              try clear c15
                              try clear c15b0
                              try clear c15b1
                              try clear c17
                              try clear c17b0
                              try clear c17b1
                              try clear p2
                              obtain ⟨kq, x25_15, rfl, HA, HJ15, ⟨mc15, rfl⟩⟩ := hcut
                              cases kq with
                              | zero => exact absurd HA.out (by simp [barqueref17_Fields.j2])
                              | succ kj15 =>
                                have H := HA.out
                                clear HA
                                simp only [barqueref17_Fields.j2] at H
                                by_cases c18 : x25_15 = true
                                · subst c18
                                  have H1 : (some (⟨#[71, 77, 80]⟩ : ByteArray)) = some r := by rw [if_pos rfl] at H; exact H
                                  clear H
                                  have H := H1
                                  clear H1
                                  obtain rfl := Option.some.inj H
                                  go_wp2
                                  go_ret
                                  exact ⟨by first | rfl | (simp; done) | (simp [*]; done), by repeat (first | exact Drawn0.refl _ | apply Drawn0.step)⟩
                                · replace c18 := Bool.eq_false_iff.mpr c18
                                  subst c18
                                  have H1 : (if a0 = 15 then (some (⟨#[66, 70]⟩ : ByteArray)) else (if a0 = 16 then (some (⟨#[66, 70, 84]⟩ : ByteArray)) else (if a0 = 17 then (some (⟨#[66, 71]⟩ : ByteArray)) else (some (⟨#[]⟩ : ByteArray))))) = some r := by rw [if_neg (show ¬ (false = true) by decide)] at H; exact H
                                  clear H
                                  have H := H1
                                  clear H1
                                  by_cases c19 : a0 = 15
                                  · rw [if_pos c19] at H
                                    have c19b0 : (a0 == 15) = true := beq_iff_eq.mpr c19
                                    have c19b1 : (a0 != 15) = false := bne_eq_false_iff_eq.mpr c19
                                    clear c19
                                    obtain rfl := Option.some.inj H
                                    go_wp2
                                    go_ret
                                    exact ⟨by first | rfl | (simp; done) | (simp [*]; done), by repeat (first | exact Drawn0.refl _ | apply Drawn0.step)⟩
                                  · rw [if_neg c19] at H
                                    have c19b0 : (a0 == 15) = false := beq_eq_false_iff_ne.mpr c19
                                    have c19b1 : (a0 != 15) = true := bne_iff_ne.mpr c19
                                    by_cases c20 : a0 = 16
                                    · rw [if_pos c20] at H
                                      have c20b0 : (a0 == 16) = true := beq_iff_eq.mpr c20
                                      have c20b1 : (a0 != 16) = false := bne_eq_false_iff_eq.mpr c20
                                      clear c20
                                      obtain rfl := Option.some.inj H
                                      go_wp2
                                      go_ret
                                      exact ⟨by first | rfl | (simp; done) | (simp [*]; done), by repeat (first | exact Drawn0.refl _ | apply Drawn0.step)⟩
                                    · rw [if_neg c20] at H
                                      have c20b0 : (a0 == 16) = false := beq_eq_false_iff_ne.mpr c20
                                      have c20b1 : (a0 != 16) = true := bne_iff_ne.mpr c20
                                      by_cases c21 : a0 = 17
                                      · rw [if_pos c21] at H
                                        have c21b0 : (a0 == 17) = true := beq_iff_eq.mpr c21
                                        have c21b1 : (a0 != 17) = false := bne_eq_false_iff_eq.mpr c21
                                        clear c21
                                        obtain rfl := Option.some.inj H
                                        go_wp2
                                        go_ret
                                        exact ⟨by first | rfl | (simp; done) | (simp [*]; done), by repeat (first | exact Drawn0.refl _ | apply Drawn0.step)⟩
                                      · rw [if_neg c21] at H
                                        have c21b0 : (a0 == 17) = false := beq_eq_false_iff_ne.mpr c21
                                        have c21b1 : (a0 != 17) = true := bne_iff_ne.mpr c21
                                        obtain rfl := Option.some.inj H
                                        go_wp2
                                        go_ret
                                        exact ⟨by first | rfl | (simp; done) | (simp [*]; done), by repeat (first | exact Drawn0.refl _ | apply Drawn0.step)⟩

/-! ### barqueref17_number: function 64 -/
def barqueref17_number.f (a0_0 : Int) (a0_1 : Int) (a0_2 : Int) (a0_3 : Int) (a0_4 : Int) (a0_5 : Int) (a0_6 : Int) (a0_7 : Int) (a0_8 : Int) (a0_9 : ByteArray) (a0_10 : Int) (a0_11 : Int) (a0_12 : ByteArray) (l0_13 : List (S116)) (a1 : Int) : Option (Int) := if a1 = 66 then (some a0_3) else (if a1 = 71 then (some a0_4) else (if a1 = 83 then (some a0_5) else (if a1 = 70 then (some a0_6) else (if a1 = 84 then (some a0_7) else (some a0_8)))))
set_option maxHeartbeats 8000000 in
set_option maxRecDepth 100000 in
theorem barqueref17_number.calls (a0_0 : Int) (a0_1 : Int) (a0_2 : Int) (a0_3 : Int) (a0_4 : Int) (a0_5 : Int) (a0_6 : Int) (a0_7 : Int) (a0_8 : Int) (a0_9 : ByteArray) (a0_10 : Int) (a0_11 : Int) (a0_12 : ByteArray) (A0_13 : Option Addr) (c0_13 : Nat) (l0_13 : List (S116)) (a1 : Int) (r : Int) (w : World) (hr0_13 : Kd.C k116 w A0_13 l0_13.length l0_13) (hc0_13 : l0_13.length ≤ c0_13) (h : barqueref17_number.f a0_0 a0_1 a0_2 a0_3 a0_4 a0_5 a0_6 a0_7 a0_8 a0_9 a0_10 a0_11 a0_12 l0_13 a1 = some r) :
    Calls Tryz.prog 64 #[.agg #[.int .i64 a0_0, .int .i64 a0_1, .int .i64 a0_2, .int .i64 a0_3, .int .i64 a0_4, .int .i64 a0_5, .int .i64 a0_6, .int .i64 a0_7, .int .i64 a0_8, .string a0_9, .int .i64 a0_10, .int .i64 a0_11, .string a0_12, .slice A0_13 l0_13.length c0_13], .int .u8 a1] w fun e w' => e = .returned (.int .i64 r) ∧ Below w.heap.size w w' := by
  have hu27 := Tryz.underlying27
  have HR0_13 := Aside0.mk hr0_13
  have HC0_13 := Aside0.mk hc0_13
  clear hr0_13 hc0_13
  have HB := Aside0.mk (Below.refl w.heap.size w)
  have H : (if a1 = 66 then (some a0_3) else (if a1 = 71 then (some a0_4) else (if a1 = 83 then (some a0_5) else (if a1 = 70 then (some a0_6) else (if a1 = 84 then (some a0_7) else (some a0_8)))))) = some r := h
  clear h
  by_cases c3 : a1 = 66
  · rw [if_pos c3] at H
    have c3b0 : (a1 == 66) = true := beq_iff_eq.mpr c3
    have c3b1 : (a1 != 66) = false := bne_eq_false_iff_eq.mpr c3
    clear c3
    obtain rfl := Option.some.inj H
    go_enter Tryz.func64, Tryz.ntmps64
    go_wp2_with (first | ((with_reducible refine gate_dst (N := 2) rfl ?_); refine box_event ?hg (N := 2) ?hd (cs := #[.int .i64 a0_0, .int .i64 a0_1, .int .i64 a0_2, .int .i64 a0_3, .int .i64 a0_4, .int .i64 a0_5, .int .i64 a0_6, .int .i64 a0_7, .int .i64 a0_8, .string a0_9, .int .i64 a0_10, .int .i64 a0_11, .string a0_12, .slice A0_13 l0_13.length c0_13]) (t := 27) ?hr ?_; (case hd => rfl); (case hg => rfl); (case hr => first | (go_simp; done) | (go_simp; rfl)); intro gb270 hg w4 hbox hb; have n0_ := Aside0.mk (below_step (by repeat (first | (with_reducible first | exact HB.out | apply below_alloc | apply pw_below_drewN | apply below_drew1) | exact HB.out)) hb); have n1_ := Aside0.mk (hbox); have n2_ := Aside0.mk ((by rw [hg]; exact (below_size (by repeat (first | (with_reducible first | exact HB.out | apply below_alloc | apply pw_below_drewN | apply below_drew1) | exact HB.out))) : w.heap.size ≤ gb270)); have n3_ := Aside0.mk ((by rw [hg]; exact (below_size (by repeat (first | (with_reducible first | exact HB.out | apply below_alloc | apply pw_below_drewN | apply below_drew1) | exact HB.out))) : w.heap.size ≤ gb270)); clear HB; have HB := n0_; have BK270 := n1_; have GW270 := n2_; have GE270 := n3_; clear n0_ n1_ n2_ n3_; clear hb hbox hg; have hcz5_0 : w4.cell? ⟨gb270, 0, none⟩ = some (.int .i64 a0_0) := (blk_cell BK270.out 0).trans rfl; have hcz5_1 : w4.cell? ⟨gb270, 1, none⟩ = some (.int .i64 a0_1) := (blk_cell BK270.out 1).trans rfl; have hcz5_2 : w4.cell? ⟨gb270, 2, none⟩ = some (.int .i64 a0_2) := (blk_cell BK270.out 2).trans rfl; have hcz5_3 : w4.cell? ⟨gb270, 3, none⟩ = some (.int .i64 a0_3) := (blk_cell BK270.out 3).trans rfl; have hcz5_4 : w4.cell? ⟨gb270, 4, none⟩ = some (.int .i64 a0_4) := (blk_cell BK270.out 4).trans rfl; have hcz5_5 : w4.cell? ⟨gb270, 5, none⟩ = some (.int .i64 a0_5) := (blk_cell BK270.out 5).trans rfl; have hcz5_6 : w4.cell? ⟨gb270, 6, none⟩ = some (.int .i64 a0_6) := (blk_cell BK270.out 6).trans rfl; have hcz5_7 : w4.cell? ⟨gb270, 7, none⟩ = some (.int .i64 a0_7) := (blk_cell BK270.out 7).trans rfl; have hcz5_8 : w4.cell? ⟨gb270, 8, none⟩ = some (.int .i64 a0_8) := (blk_cell BK270.out 8).trans rfl; have hcz5_9 : w4.cell? ⟨gb270, 9, none⟩ = some (.string a0_9) := (blk_cell BK270.out 9).trans rfl; have hcz5_10 : w4.cell? ⟨gb270, 10, none⟩ = some (.int .i64 a0_10) := (blk_cell BK270.out 10).trans rfl; have hcz5_11 : w4.cell? ⟨gb270, 11, none⟩ = some (.int .i64 a0_11) := (blk_cell BK270.out 11).trans rfl; have hcz5_12 : w4.cell? ⟨gb270, 12, none⟩ = some (.string a0_12) := (blk_cell BK270.out 12).trans rfl; have hcz5_13 : w4.cell? ⟨gb270, 13, none⟩ = some (.slice A0_13 l0_13.length c0_13) := (blk_cell BK270.out 13).trans rfl; have hfz5_0 := blk_frozen BK270.out 0; have hfz5_1 := blk_frozen BK270.out 1; have hfz5_2 := blk_frozen BK270.out 2; have hfz5_3 := blk_frozen BK270.out 3; have hfz5_4 := blk_frozen BK270.out 4; have hfz5_5 := blk_frozen BK270.out 5; have hfz5_6 := blk_frozen BK270.out 6; have hfz5_7 := blk_frozen BK270.out 7; have hfz5_8 := blk_frozen BK270.out 8; have hfz5_9 := blk_frozen BK270.out 9; have hfz5_10 := blk_frozen BK270.out 10; have hfz5_11 := blk_frozen BK270.out 11; have hfz5_12 := blk_frozen BK270.out 12; have hfz5_13 := blk_frozen BK270.out 13))
    go_ret
    exact ⟨by first | rfl | (simp [errW_none, errW_some] <;> rfl) | (simp [*, errW_none, errW_some] <;> rfl), by repeat (first | (with_reducible first | exact HB.out | apply below_alloc | apply pw_below_drewN | apply below_drew1 | refine below_set ?_ GE270.out) | exact HB.out)⟩
  · rw [if_neg c3] at H
    have c3b0 : (a1 == 66) = false := beq_eq_false_iff_ne.mpr c3
    have c3b1 : (a1 != 66) = true := bne_iff_ne.mpr c3
    by_cases c6 : a1 = 71
    · rw [if_pos c6] at H
      have c6b0 : (a1 == 71) = true := beq_iff_eq.mpr c6
      have c6b1 : (a1 != 71) = false := bne_eq_false_iff_eq.mpr c6
      clear c6
      obtain rfl := Option.some.inj H
      go_enter Tryz.func64, Tryz.ntmps64
      go_wp2_with (first | ((with_reducible refine gate_dst (N := 2) rfl ?_); refine box_event ?hg (N := 2) ?hd (cs := #[.int .i64 a0_0, .int .i64 a0_1, .int .i64 a0_2, .int .i64 a0_3, .int .i64 a0_4, .int .i64 a0_5, .int .i64 a0_6, .int .i64 a0_7, .int .i64 a0_8, .string a0_9, .int .i64 a0_10, .int .i64 a0_11, .string a0_12, .slice A0_13 l0_13.length c0_13]) (t := 27) ?hr ?_; (case hd => rfl); (case hg => rfl); (case hr => first | (go_simp; done) | (go_simp; rfl)); intro gb270 hg w7 hbox hb; have n0_ := Aside0.mk (below_step (by repeat (first | (with_reducible first | exact HB.out | apply below_alloc | apply pw_below_drewN | apply below_drew1) | exact HB.out)) hb); have n1_ := Aside0.mk (hbox); have n2_ := Aside0.mk ((by rw [hg]; exact (below_size (by repeat (first | (with_reducible first | exact HB.out | apply below_alloc | apply pw_below_drewN | apply below_drew1) | exact HB.out))) : w.heap.size ≤ gb270)); have n3_ := Aside0.mk ((by rw [hg]; exact (below_size (by repeat (first | (with_reducible first | exact HB.out | apply below_alloc | apply pw_below_drewN | apply below_drew1) | exact HB.out))) : w.heap.size ≤ gb270)); clear HB; have HB := n0_; have BK270 := n1_; have GW270 := n2_; have GE270 := n3_; clear n0_ n1_ n2_ n3_; clear hb hbox hg; have hcz8_0 : w7.cell? ⟨gb270, 0, none⟩ = some (.int .i64 a0_0) := (blk_cell BK270.out 0).trans rfl; have hcz8_1 : w7.cell? ⟨gb270, 1, none⟩ = some (.int .i64 a0_1) := (blk_cell BK270.out 1).trans rfl; have hcz8_2 : w7.cell? ⟨gb270, 2, none⟩ = some (.int .i64 a0_2) := (blk_cell BK270.out 2).trans rfl; have hcz8_3 : w7.cell? ⟨gb270, 3, none⟩ = some (.int .i64 a0_3) := (blk_cell BK270.out 3).trans rfl; have hcz8_4 : w7.cell? ⟨gb270, 4, none⟩ = some (.int .i64 a0_4) := (blk_cell BK270.out 4).trans rfl; have hcz8_5 : w7.cell? ⟨gb270, 5, none⟩ = some (.int .i64 a0_5) := (blk_cell BK270.out 5).trans rfl; have hcz8_6 : w7.cell? ⟨gb270, 6, none⟩ = some (.int .i64 a0_6) := (blk_cell BK270.out 6).trans rfl; have hcz8_7 : w7.cell? ⟨gb270, 7, none⟩ = some (.int .i64 a0_7) := (blk_cell BK270.out 7).trans rfl; have hcz8_8 : w7.cell? ⟨gb270, 8, none⟩ = some (.int .i64 a0_8) := (blk_cell BK270.out 8).trans rfl; have hcz8_9 : w7.cell? ⟨gb270, 9, none⟩ = some (.string a0_9) := (blk_cell BK270.out 9).trans rfl; have hcz8_10 : w7.cell? ⟨gb270, 10, none⟩ = some (.int .i64 a0_10) := (blk_cell BK270.out 10).trans rfl; have hcz8_11 : w7.cell? ⟨gb270, 11, none⟩ = some (.int .i64 a0_11) := (blk_cell BK270.out 11).trans rfl; have hcz8_12 : w7.cell? ⟨gb270, 12, none⟩ = some (.string a0_12) := (blk_cell BK270.out 12).trans rfl; have hcz8_13 : w7.cell? ⟨gb270, 13, none⟩ = some (.slice A0_13 l0_13.length c0_13) := (blk_cell BK270.out 13).trans rfl; have hfz8_0 := blk_frozen BK270.out 0; have hfz8_1 := blk_frozen BK270.out 1; have hfz8_2 := blk_frozen BK270.out 2; have hfz8_3 := blk_frozen BK270.out 3; have hfz8_4 := blk_frozen BK270.out 4; have hfz8_5 := blk_frozen BK270.out 5; have hfz8_6 := blk_frozen BK270.out 6; have hfz8_7 := blk_frozen BK270.out 7; have hfz8_8 := blk_frozen BK270.out 8; have hfz8_9 := blk_frozen BK270.out 9; have hfz8_10 := blk_frozen BK270.out 10; have hfz8_11 := blk_frozen BK270.out 11; have hfz8_12 := blk_frozen BK270.out 12; have hfz8_13 := blk_frozen BK270.out 13))
      go_ret
      exact ⟨by first | rfl | (simp [errW_none, errW_some] <;> rfl) | (simp [*, errW_none, errW_some] <;> rfl), by repeat (first | (with_reducible first | exact HB.out | apply below_alloc | apply pw_below_drewN | apply below_drew1 | refine below_set ?_ GE270.out) | exact HB.out)⟩
    · rw [if_neg c6] at H
      have c6b0 : (a1 == 71) = false := beq_eq_false_iff_ne.mpr c6
      have c6b1 : (a1 != 71) = true := bne_iff_ne.mpr c6
      by_cases c9 : a1 = 83
      · rw [if_pos c9] at H
        have c9b0 : (a1 == 83) = true := beq_iff_eq.mpr c9
        have c9b1 : (a1 != 83) = false := bne_eq_false_iff_eq.mpr c9
        clear c9
        obtain rfl := Option.some.inj H
        go_enter Tryz.func64, Tryz.ntmps64
        go_wp2_with (first | ((with_reducible refine gate_dst (N := 2) rfl ?_); refine box_event ?hg (N := 2) ?hd (cs := #[.int .i64 a0_0, .int .i64 a0_1, .int .i64 a0_2, .int .i64 a0_3, .int .i64 a0_4, .int .i64 a0_5, .int .i64 a0_6, .int .i64 a0_7, .int .i64 a0_8, .string a0_9, .int .i64 a0_10, .int .i64 a0_11, .string a0_12, .slice A0_13 l0_13.length c0_13]) (t := 27) ?hr ?_; (case hd => rfl); (case hg => rfl); (case hr => first | (go_simp; done) | (go_simp; rfl)); intro gb270 hg w10 hbox hb; have n0_ := Aside0.mk (below_step (by repeat (first | (with_reducible first | exact HB.out | apply below_alloc | apply pw_below_drewN | apply below_drew1) | exact HB.out)) hb); have n1_ := Aside0.mk (hbox); have n2_ := Aside0.mk ((by rw [hg]; exact (below_size (by repeat (first | (with_reducible first | exact HB.out | apply below_alloc | apply pw_below_drewN | apply below_drew1) | exact HB.out))) : w.heap.size ≤ gb270)); have n3_ := Aside0.mk ((by rw [hg]; exact (below_size (by repeat (first | (with_reducible first | exact HB.out | apply below_alloc | apply pw_below_drewN | apply below_drew1) | exact HB.out))) : w.heap.size ≤ gb270)); clear HB; have HB := n0_; have BK270 := n1_; have GW270 := n2_; have GE270 := n3_; clear n0_ n1_ n2_ n3_; clear hb hbox hg; have hcz11_0 : w10.cell? ⟨gb270, 0, none⟩ = some (.int .i64 a0_0) := (blk_cell BK270.out 0).trans rfl; have hcz11_1 : w10.cell? ⟨gb270, 1, none⟩ = some (.int .i64 a0_1) := (blk_cell BK270.out 1).trans rfl; have hcz11_2 : w10.cell? ⟨gb270, 2, none⟩ = some (.int .i64 a0_2) := (blk_cell BK270.out 2).trans rfl; have hcz11_3 : w10.cell? ⟨gb270, 3, none⟩ = some (.int .i64 a0_3) := (blk_cell BK270.out 3).trans rfl; have hcz11_4 : w10.cell? ⟨gb270, 4, none⟩ = some (.int .i64 a0_4) := (blk_cell BK270.out 4).trans rfl; have hcz11_5 : w10.cell? ⟨gb270, 5, none⟩ = some (.int .i64 a0_5) := (blk_cell BK270.out 5).trans rfl; have hcz11_6 : w10.cell? ⟨gb270, 6, none⟩ = some (.int .i64 a0_6) := (blk_cell BK270.out 6).trans rfl; have hcz11_7 : w10.cell? ⟨gb270, 7, none⟩ = some (.int .i64 a0_7) := (blk_cell BK270.out 7).trans rfl; have hcz11_8 : w10.cell? ⟨gb270, 8, none⟩ = some (.int .i64 a0_8) := (blk_cell BK270.out 8).trans rfl; have hcz11_9 : w10.cell? ⟨gb270, 9, none⟩ = some (.string a0_9) := (blk_cell BK270.out 9).trans rfl; have hcz11_10 : w10.cell? ⟨gb270, 10, none⟩ = some (.int .i64 a0_10) := (blk_cell BK270.out 10).trans rfl; have hcz11_11 : w10.cell? ⟨gb270, 11, none⟩ = some (.int .i64 a0_11) := (blk_cell BK270.out 11).trans rfl; have hcz11_12 : w10.cell? ⟨gb270, 12, none⟩ = some (.string a0_12) := (blk_cell BK270.out 12).trans rfl; have hcz11_13 : w10.cell? ⟨gb270, 13, none⟩ = some (.slice A0_13 l0_13.length c0_13) := (blk_cell BK270.out 13).trans rfl; have hfz11_0 := blk_frozen BK270.out 0; have hfz11_1 := blk_frozen BK270.out 1; have hfz11_2 := blk_frozen BK270.out 2; have hfz11_3 := blk_frozen BK270.out 3; have hfz11_4 := blk_frozen BK270.out 4; have hfz11_5 := blk_frozen BK270.out 5; have hfz11_6 := blk_frozen BK270.out 6; have hfz11_7 := blk_frozen BK270.out 7; have hfz11_8 := blk_frozen BK270.out 8; have hfz11_9 := blk_frozen BK270.out 9; have hfz11_10 := blk_frozen BK270.out 10; have hfz11_11 := blk_frozen BK270.out 11; have hfz11_12 := blk_frozen BK270.out 12; have hfz11_13 := blk_frozen BK270.out 13))
        go_ret
        exact ⟨by first | rfl | (simp [errW_none, errW_some] <;> rfl) | (simp [*, errW_none, errW_some] <;> rfl), by repeat (first | (with_reducible first | exact HB.out | apply below_alloc | apply pw_below_drewN | apply below_drew1 | refine below_set ?_ GE270.out) | exact HB.out)⟩
      · rw [if_neg c9] at H
        have c9b0 : (a1 == 83) = false := beq_eq_false_iff_ne.mpr c9
        have c9b1 : (a1 != 83) = true := bne_iff_ne.mpr c9
        by_cases c12 : a1 = 70
        · rw [if_pos c12] at H
          have c12b0 : (a1 == 70) = true := beq_iff_eq.mpr c12
          have c12b1 : (a1 != 70) = false := bne_eq_false_iff_eq.mpr c12
          clear c12
          obtain rfl := Option.some.inj H
          go_enter Tryz.func64, Tryz.ntmps64
          go_wp2_with (first | ((with_reducible refine gate_dst (N := 2) rfl ?_); refine box_event ?hg (N := 2) ?hd (cs := #[.int .i64 a0_0, .int .i64 a0_1, .int .i64 a0_2, .int .i64 a0_3, .int .i64 a0_4, .int .i64 a0_5, .int .i64 a0_6, .int .i64 a0_7, .int .i64 a0_8, .string a0_9, .int .i64 a0_10, .int .i64 a0_11, .string a0_12, .slice A0_13 l0_13.length c0_13]) (t := 27) ?hr ?_; (case hd => rfl); (case hg => rfl); (case hr => first | (go_simp; done) | (go_simp; rfl)); intro gb270 hg w13 hbox hb; have n0_ := Aside0.mk (below_step (by repeat (first | (with_reducible first | exact HB.out | apply below_alloc | apply pw_below_drewN | apply below_drew1) | exact HB.out)) hb); have n1_ := Aside0.mk (hbox); have n2_ := Aside0.mk ((by rw [hg]; exact (below_size (by repeat (first | (with_reducible first | exact HB.out | apply below_alloc | apply pw_below_drewN | apply below_drew1) | exact HB.out))) : w.heap.size ≤ gb270)); have n3_ := Aside0.mk ((by rw [hg]; exact (below_size (by repeat (first | (with_reducible first | exact HB.out | apply below_alloc | apply pw_below_drewN | apply below_drew1) | exact HB.out))) : w.heap.size ≤ gb270)); clear HB; have HB := n0_; have BK270 := n1_; have GW270 := n2_; have GE270 := n3_; clear n0_ n1_ n2_ n3_; clear hb hbox hg; have hcz14_0 : w13.cell? ⟨gb270, 0, none⟩ = some (.int .i64 a0_0) := (blk_cell BK270.out 0).trans rfl; have hcz14_1 : w13.cell? ⟨gb270, 1, none⟩ = some (.int .i64 a0_1) := (blk_cell BK270.out 1).trans rfl; have hcz14_2 : w13.cell? ⟨gb270, 2, none⟩ = some (.int .i64 a0_2) := (blk_cell BK270.out 2).trans rfl; have hcz14_3 : w13.cell? ⟨gb270, 3, none⟩ = some (.int .i64 a0_3) := (blk_cell BK270.out 3).trans rfl; have hcz14_4 : w13.cell? ⟨gb270, 4, none⟩ = some (.int .i64 a0_4) := (blk_cell BK270.out 4).trans rfl; have hcz14_5 : w13.cell? ⟨gb270, 5, none⟩ = some (.int .i64 a0_5) := (blk_cell BK270.out 5).trans rfl; have hcz14_6 : w13.cell? ⟨gb270, 6, none⟩ = some (.int .i64 a0_6) := (blk_cell BK270.out 6).trans rfl; have hcz14_7 : w13.cell? ⟨gb270, 7, none⟩ = some (.int .i64 a0_7) := (blk_cell BK270.out 7).trans rfl; have hcz14_8 : w13.cell? ⟨gb270, 8, none⟩ = some (.int .i64 a0_8) := (blk_cell BK270.out 8).trans rfl; have hcz14_9 : w13.cell? ⟨gb270, 9, none⟩ = some (.string a0_9) := (blk_cell BK270.out 9).trans rfl; have hcz14_10 : w13.cell? ⟨gb270, 10, none⟩ = some (.int .i64 a0_10) := (blk_cell BK270.out 10).trans rfl; have hcz14_11 : w13.cell? ⟨gb270, 11, none⟩ = some (.int .i64 a0_11) := (blk_cell BK270.out 11).trans rfl; have hcz14_12 : w13.cell? ⟨gb270, 12, none⟩ = some (.string a0_12) := (blk_cell BK270.out 12).trans rfl; have hcz14_13 : w13.cell? ⟨gb270, 13, none⟩ = some (.slice A0_13 l0_13.length c0_13) := (blk_cell BK270.out 13).trans rfl; have hfz14_0 := blk_frozen BK270.out 0; have hfz14_1 := blk_frozen BK270.out 1; have hfz14_2 := blk_frozen BK270.out 2; have hfz14_3 := blk_frozen BK270.out 3; have hfz14_4 := blk_frozen BK270.out 4; have hfz14_5 := blk_frozen BK270.out 5; have hfz14_6 := blk_frozen BK270.out 6; have hfz14_7 := blk_frozen BK270.out 7; have hfz14_8 := blk_frozen BK270.out 8; have hfz14_9 := blk_frozen BK270.out 9; have hfz14_10 := blk_frozen BK270.out 10; have hfz14_11 := blk_frozen BK270.out 11; have hfz14_12 := blk_frozen BK270.out 12; have hfz14_13 := blk_frozen BK270.out 13))
          go_ret
          exact ⟨by first | rfl | (simp [errW_none, errW_some] <;> rfl) | (simp [*, errW_none, errW_some] <;> rfl), by repeat (first | (with_reducible first | exact HB.out | apply below_alloc | apply pw_below_drewN | apply below_drew1 | refine below_set ?_ GE270.out) | exact HB.out)⟩
        · rw [if_neg c12] at H
          have c12b0 : (a1 == 70) = false := beq_eq_false_iff_ne.mpr c12
          have c12b1 : (a1 != 70) = true := bne_iff_ne.mpr c12
          by_cases c15 : a1 = 84
          · rw [if_pos c15] at H
            have c15b0 : (a1 == 84) = true := beq_iff_eq.mpr c15
            have c15b1 : (a1 != 84) = false := bne_eq_false_iff_eq.mpr c15
            clear c15
            obtain rfl := Option.some.inj H
            go_enter Tryz.func64, Tryz.ntmps64
            go_wp2_with (first | ((with_reducible refine gate_dst (N := 2) rfl ?_); refine box_event ?hg (N := 2) ?hd (cs := #[.int .i64 a0_0, .int .i64 a0_1, .int .i64 a0_2, .int .i64 a0_3, .int .i64 a0_4, .int .i64 a0_5, .int .i64 a0_6, .int .i64 a0_7, .int .i64 a0_8, .string a0_9, .int .i64 a0_10, .int .i64 a0_11, .string a0_12, .slice A0_13 l0_13.length c0_13]) (t := 27) ?hr ?_; (case hd => rfl); (case hg => rfl); (case hr => first | (go_simp; done) | (go_simp; rfl)); intro gb270 hg w16 hbox hb; have n0_ := Aside0.mk (below_step (by repeat (first | (with_reducible first | exact HB.out | apply below_alloc | apply pw_below_drewN | apply below_drew1) | exact HB.out)) hb); have n1_ := Aside0.mk (hbox); have n2_ := Aside0.mk ((by rw [hg]; exact (below_size (by repeat (first | (with_reducible first | exact HB.out | apply below_alloc | apply pw_below_drewN | apply below_drew1) | exact HB.out))) : w.heap.size ≤ gb270)); have n3_ := Aside0.mk ((by rw [hg]; exact (below_size (by repeat (first | (with_reducible first | exact HB.out | apply below_alloc | apply pw_below_drewN | apply below_drew1) | exact HB.out))) : w.heap.size ≤ gb270)); clear HB; have HB := n0_; have BK270 := n1_; have GW270 := n2_; have GE270 := n3_; clear n0_ n1_ n2_ n3_; clear hb hbox hg; have hcz17_0 : w16.cell? ⟨gb270, 0, none⟩ = some (.int .i64 a0_0) := (blk_cell BK270.out 0).trans rfl; have hcz17_1 : w16.cell? ⟨gb270, 1, none⟩ = some (.int .i64 a0_1) := (blk_cell BK270.out 1).trans rfl; have hcz17_2 : w16.cell? ⟨gb270, 2, none⟩ = some (.int .i64 a0_2) := (blk_cell BK270.out 2).trans rfl; have hcz17_3 : w16.cell? ⟨gb270, 3, none⟩ = some (.int .i64 a0_3) := (blk_cell BK270.out 3).trans rfl; have hcz17_4 : w16.cell? ⟨gb270, 4, none⟩ = some (.int .i64 a0_4) := (blk_cell BK270.out 4).trans rfl; have hcz17_5 : w16.cell? ⟨gb270, 5, none⟩ = some (.int .i64 a0_5) := (blk_cell BK270.out 5).trans rfl; have hcz17_6 : w16.cell? ⟨gb270, 6, none⟩ = some (.int .i64 a0_6) := (blk_cell BK270.out 6).trans rfl; have hcz17_7 : w16.cell? ⟨gb270, 7, none⟩ = some (.int .i64 a0_7) := (blk_cell BK270.out 7).trans rfl; have hcz17_8 : w16.cell? ⟨gb270, 8, none⟩ = some (.int .i64 a0_8) := (blk_cell BK270.out 8).trans rfl; have hcz17_9 : w16.cell? ⟨gb270, 9, none⟩ = some (.string a0_9) := (blk_cell BK270.out 9).trans rfl; have hcz17_10 : w16.cell? ⟨gb270, 10, none⟩ = some (.int .i64 a0_10) := (blk_cell BK270.out 10).trans rfl; have hcz17_11 : w16.cell? ⟨gb270, 11, none⟩ = some (.int .i64 a0_11) := (blk_cell BK270.out 11).trans rfl; have hcz17_12 : w16.cell? ⟨gb270, 12, none⟩ = some (.string a0_12) := (blk_cell BK270.out 12).trans rfl; have hcz17_13 : w16.cell? ⟨gb270, 13, none⟩ = some (.slice A0_13 l0_13.length c0_13) := (blk_cell BK270.out 13).trans rfl; have hfz17_0 := blk_frozen BK270.out 0; have hfz17_1 := blk_frozen BK270.out 1; have hfz17_2 := blk_frozen BK270.out 2; have hfz17_3 := blk_frozen BK270.out 3; have hfz17_4 := blk_frozen BK270.out 4; have hfz17_5 := blk_frozen BK270.out 5; have hfz17_6 := blk_frozen BK270.out 6; have hfz17_7 := blk_frozen BK270.out 7; have hfz17_8 := blk_frozen BK270.out 8; have hfz17_9 := blk_frozen BK270.out 9; have hfz17_10 := blk_frozen BK270.out 10; have hfz17_11 := blk_frozen BK270.out 11; have hfz17_12 := blk_frozen BK270.out 12; have hfz17_13 := blk_frozen BK270.out 13))
            go_ret
            exact ⟨by first | rfl | (simp [errW_none, errW_some] <;> rfl) | (simp [*, errW_none, errW_some] <;> rfl), by repeat (first | (with_reducible first | exact HB.out | apply below_alloc | apply pw_below_drewN | apply below_drew1 | refine below_set ?_ GE270.out) | exact HB.out)⟩
          · rw [if_neg c15] at H
            have c15b0 : (a1 == 84) = false := beq_eq_false_iff_ne.mpr c15
            have c15b1 : (a1 != 84) = true := bne_iff_ne.mpr c15
            obtain rfl := Option.some.inj H
            go_enter Tryz.func64, Tryz.ntmps64
            go_wp2_with (first | ((with_reducible refine gate_dst (N := 2) rfl ?_); refine box_event ?hg (N := 2) ?hd (cs := #[.int .i64 a0_0, .int .i64 a0_1, .int .i64 a0_2, .int .i64 a0_3, .int .i64 a0_4, .int .i64 a0_5, .int .i64 a0_6, .int .i64 a0_7, .int .i64 a0_8, .string a0_9, .int .i64 a0_10, .int .i64 a0_11, .string a0_12, .slice A0_13 l0_13.length c0_13]) (t := 27) ?hr ?_; (case hd => rfl); (case hg => rfl); (case hr => first | (go_simp; done) | (go_simp; rfl)); intro gb270 hg w18 hbox hb; have n0_ := Aside0.mk (below_step (by repeat (first | (with_reducible first | exact HB.out | apply below_alloc | apply pw_below_drewN | apply below_drew1) | exact HB.out)) hb); have n1_ := Aside0.mk (hbox); have n2_ := Aside0.mk ((by rw [hg]; exact (below_size (by repeat (first | (with_reducible first | exact HB.out | apply below_alloc | apply pw_below_drewN | apply below_drew1) | exact HB.out))) : w.heap.size ≤ gb270)); have n3_ := Aside0.mk ((by rw [hg]; exact (below_size (by repeat (first | (with_reducible first | exact HB.out | apply below_alloc | apply pw_below_drewN | apply below_drew1) | exact HB.out))) : w.heap.size ≤ gb270)); clear HB; have HB := n0_; have BK270 := n1_; have GW270 := n2_; have GE270 := n3_; clear n0_ n1_ n2_ n3_; clear hb hbox hg; have hcz19_0 : w18.cell? ⟨gb270, 0, none⟩ = some (.int .i64 a0_0) := (blk_cell BK270.out 0).trans rfl; have hcz19_1 : w18.cell? ⟨gb270, 1, none⟩ = some (.int .i64 a0_1) := (blk_cell BK270.out 1).trans rfl; have hcz19_2 : w18.cell? ⟨gb270, 2, none⟩ = some (.int .i64 a0_2) := (blk_cell BK270.out 2).trans rfl; have hcz19_3 : w18.cell? ⟨gb270, 3, none⟩ = some (.int .i64 a0_3) := (blk_cell BK270.out 3).trans rfl; have hcz19_4 : w18.cell? ⟨gb270, 4, none⟩ = some (.int .i64 a0_4) := (blk_cell BK270.out 4).trans rfl; have hcz19_5 : w18.cell? ⟨gb270, 5, none⟩ = some (.int .i64 a0_5) := (blk_cell BK270.out 5).trans rfl; have hcz19_6 : w18.cell? ⟨gb270, 6, none⟩ = some (.int .i64 a0_6) := (blk_cell BK270.out 6).trans rfl; have hcz19_7 : w18.cell? ⟨gb270, 7, none⟩ = some (.int .i64 a0_7) := (blk_cell BK270.out 7).trans rfl; have hcz19_8 : w18.cell? ⟨gb270, 8, none⟩ = some (.int .i64 a0_8) := (blk_cell BK270.out 8).trans rfl; have hcz19_9 : w18.cell? ⟨gb270, 9, none⟩ = some (.string a0_9) := (blk_cell BK270.out 9).trans rfl; have hcz19_10 : w18.cell? ⟨gb270, 10, none⟩ = some (.int .i64 a0_10) := (blk_cell BK270.out 10).trans rfl; have hcz19_11 : w18.cell? ⟨gb270, 11, none⟩ = some (.int .i64 a0_11) := (blk_cell BK270.out 11).trans rfl; have hcz19_12 : w18.cell? ⟨gb270, 12, none⟩ = some (.string a0_12) := (blk_cell BK270.out 12).trans rfl; have hcz19_13 : w18.cell? ⟨gb270, 13, none⟩ = some (.slice A0_13 l0_13.length c0_13) := (blk_cell BK270.out 13).trans rfl; have hfz19_0 := blk_frozen BK270.out 0; have hfz19_1 := blk_frozen BK270.out 1; have hfz19_2 := blk_frozen BK270.out 2; have hfz19_3 := blk_frozen BK270.out 3; have hfz19_4 := blk_frozen BK270.out 4; have hfz19_5 := blk_frozen BK270.out 5; have hfz19_6 := blk_frozen BK270.out 6; have hfz19_7 := blk_frozen BK270.out 7; have hfz19_8 := blk_frozen BK270.out 8; have hfz19_9 := blk_frozen BK270.out 9; have hfz19_10 := blk_frozen BK270.out 10; have hfz19_11 := blk_frozen BK270.out 11; have hfz19_12 := blk_frozen BK270.out 12; have hfz19_13 := blk_frozen BK270.out 13))
            go_ret
            exact ⟨by first | rfl | (simp [errW_none, errW_some] <;> rfl) | (simp [*, errW_none, errW_some] <;> rfl), by repeat (first | (with_reducible first | exact HB.out | apply below_alloc | apply pw_below_drewN | apply below_drew1 | refine below_set ?_ GE270.out) | exact HB.out)⟩

end Go.Proofs.YtcbecbalhnomcaaGreatDoor.PCoordServes
