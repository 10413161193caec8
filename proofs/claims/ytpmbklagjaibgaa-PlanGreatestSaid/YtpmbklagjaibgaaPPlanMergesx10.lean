-- PRINTED BY print.sh 35421559b90ae4d0a3588c463048766b98c2df88dd9212a6774a882060cdf62d: not written by this session
import Derived.Test.YtpmbklagjaibgaaPPlanMergesx0
namespace Go.Proofs.Ytpmbklagjaibgaa.PPlanMerges
open Go.RowKit Go.Proofs.YtpmbklagjaibgaaW.PrintWords Go.Proofs.YtpmbklagjaibgaaW.PrintLast Go.Proofs.YtpmbklagjaibgaaW.PrintMore
attribute [local go_sem] max2_int min2_int max_two min_two max_three min_three max_four min_four   -- for this text's walks alone
set_option linter.unusedVariables false
set_option linter.unusedSimpArgs false

/-! ### barquelaw19_merged: function 24 -/
mutual
def barquelaw19_merged.l0 : Nat → List (S44) → Int → Int → Int → Option (Int × Int × (List (S50)) × (List (S50)))
  | 0, _, _, _, _ => none
  | k + 1, x0, x6, x7, x8 => if x8 < (x0.length : Int) then (if 0 ≤ x8 then (if ((rd_T44 x0 x8).f0) > x6 then (if ((rd_T44 x0 x8).f1) > x7 then (barquelaw19_merged.l0 k x0 ((rd_T44 x0 x8).f0) ((rd_T44 x0 x8).f1) (wrap64 (x8 + 1))) else (barquelaw19_merged.l0 k x0 ((rd_T44 x0 x8).f0) x7 (wrap64 (x8 + 1)))) else (if ((rd_T44 x0 x8).f1) > x7 then (barquelaw19_merged.l0 k x0 x6 ((rd_T44 x0 x8).f1) (wrap64 (x8 + 1))) else (barquelaw19_merged.l0 k x0 x6 x7 (wrap64 (x8 + 1))))) else (none)) else (if x6 > x7 then (barquelaw19_merged.j1 k x0 x7 x7) else (barquelaw19_merged.j1 k x0 x6 x7))
def barquelaw19_merged.j1 : Nat → List (S44) → Int → Int → Option (Int × Int × (List (S50)) × (List (S50)))
  | 0, _, _, _ => none
  | k + 1, x0, x6, x7 => barquelaw19_merged.l1 k x0 x6 x7 ([] : List (S50)) x6
def barquelaw19_merged.l1 : Nat → List (S44) → Int → Int → List (S50) → Int → Option (Int × Int × (List (S50)) × (List (S50)))
  | 0, _, _, _, _, _ => none
  | k + 1, x0, x6, x7, x9, x11 => if x11 < x7 then (barquelaw19_merged.j3 k x0 x6 x7 x9 ([] : List (S50)) x11 (decide (x11 < (wrap64 (x6 + 64))))) else (barquelaw19_merged.j3 k x0 x6 x7 x9 ([] : List (S50)) x11 false)
def barquelaw19_merged.j3 : Nat → List (S44) → Int → Int → List (S50) → List (S50) → Int → Bool → Option (Int × Int × (List (S50)) × (List (S50)))
  | 0, _, _, _, _, _, _, _ => none
  | k + 1, x0, x6, x7, x9, x10, x11, x64 => if x64 = true then (barquelaw19_merged.l2 k x0 x6 x7 x9 x11 false 0) else (barquelaw19_merged.l4 k x0 x6 x7 x9 x10 x7)
def barquelaw19_merged.l2 : Nat → List (S44) → Int → Int → List (S50) → Int → Bool → Int → Option (Int × Int × (List (S50)) × (List (S50)))
  | 0, _, _, _, _, _, _, _ => none
  | k + 1, x0, x6, x7, x9, x11, x12, x13 => if x13 < (x0.length : Int) then (barquelaw19_merged.l3 k x0 x6 x7 x9 x11 x12 x13 0) else (barquelaw19_merged.l1 k x0 x6 x7 x9 (wrap64 (x11 + 1)))
def barquelaw19_merged.l3 : Nat → List (S44) → Int → Int → List (S50) → Int → Bool → Int → Int → Option (Int × Int × (List (S50)) × (List (S50)))
  | 0, _, _, _, _, _, _, _, _ => none
  | k + 1, x0, x6, x7, x9, x11, x12, x13, x14 => if 0 ≤ x13 then (if x13 < (x0.length : Int) then (if x14 < (((rd_T44 x0 x13).f2).length : Int) then (barquelaw19_merged.j6 k x0 x6 x7 x9 x11 x12 x13 x14 (!x12)) else (barquelaw19_merged.j6 k x0 x6 x7 x9 x11 x12 x13 x14 false)) else (none)) else (none)
def barquelaw19_merged.j6 : Nat → List (S44) → Int → Int → List (S50) → Int → Bool → Int → Int → Bool → Option (Int × Int × (List (S50)) × (List (S50)))
  | 0, _, _, _, _, _, _, _, _, _ => none
  | k + 1, x0, x6, x7, x9, x11, x12, x13, x14, x84 => if x84 = true then (if 0 ≤ x13 then (if x13 < (x0.length : Int) then (if ((rd_T44 x0 x13).f1) > x11 then (if 0 ≤ x14 then (if x14 < (((rd_T44 x0 x13).f2).length : Int) then (if ((rd_T50 ((rd_T44 x0 x13).f2) x14).f0) = x11 then (if x9.length < 4398046511104 then (barquelaw19_merged.l3 k x0 x6 x7 (x9 ++ [(⟨x11, 0, (rd_T50 ((rd_T44 x0 x13).f2) x14).f2⟩ : S50)]) x11 true x13 (wrap64 (x14 + 1))) else (none)) else (barquelaw19_merged.l3 k x0 x6 x7 x9 x11 x12 x13 (wrap64 (x14 + 1)))) else (none)) else (none)) else (barquelaw19_merged.l3 k x0 x6 x7 x9 x11 x12 x13 (wrap64 (x14 + 1)))) else (none)) else (none)) else (barquelaw19_merged.l2 k x0 x6 x7 x9 x11 x12 (wrap64 (x13 + 1)))
def barquelaw19_merged.l4 : Nat → List (S44) → Int → Int → List (S50) → List (S50) → Int → Option (Int × Int × (List (S50)) × (List (S50)))
  | 0, _, _, _, _, _, _ => none
  | k + 1, x0, x6, x7, x9, x10, x15 => if x15 < (wrap64 (x7 + 16)) then (barquelaw19_merged.l5 k x0 x6 x7 x9 x10 x15 false 0 0 (-1) (⟨#[]⟩ : ByteArray)) else (some (x6, x7, x9, x10))
def barquelaw19_merged.l5 : Nat → List (S44) → Int → Int → List (S50) → List (S50) → Int → Bool → Int → Int → Int → ByteArray → Option (Int × Int × (List (S50)) × (List (S50)))
  | 0, _, _, _, _, _, _, _, _, _, _, _ => none
  | k + 1, x0, x6, x7, x9, x10, x15, x17, x18, x285000, x285001, x285002 => if x18 < (x0.length : Int) then (barquelaw19_merged.l6 k x0 x6 x7 x9 x10 x15 x17 x18 0 x285000 x285001 x285002) else (if x17 = true then (if x10.length < 4398046511104 then (barquelaw19_merged.l4 k x0 x6 x7 x9 (x10 ++ [(⟨x285000, x285001, x285002⟩ : S50)]) (wrap64 (x15 + 1))) else (none)) else (some (x6, x7, x9, x10)))
def barquelaw19_merged.l6 : Nat → List (S44) → Int → Int → List (S50) → List (S50) → Int → Bool → Int → Int → Int → Int → ByteArray → Option (Int × Int × (List (S50)) × (List (S50)))
  | 0, _, _, _, _, _, _, _, _, _, _, _, _ => none
  | k + 1, x0, x6, x7, x9, x10, x15, x17, x18, x19, x285000, x285001, x285002 => if 0 ≤ x18 then (if x18 < (x0.length : Int) then (if x19 < (((rd_T44 x0 x18).f2).length : Int) then (if 0 ≤ x19 then (if ((rd_T50 ((rd_T44 x0 x18).f2) x19).f0) = x15 then (if x17 = true then (if ((rd_T50 ((rd_T44 x0 x18).f2) x19).f1) > x285001 then (barquelaw19_merged.l6 k x0 x6 x7 x9 x10 x15 true x18 (wrap64 (x19 + 1)) ((rd_T50 ((rd_T44 x0 x18).f2) x19).f0) ((rd_T50 ((rd_T44 x0 x18).f2) x19).f1) ((rd_T50 ((rd_T44 x0 x18).f2) x19).f2)) else (barquelaw19_merged.l6 k x0 x6 x7 x9 x10 x15 x17 x18 (wrap64 (x19 + 1)) x285000 x285001 x285002)) else (barquelaw19_merged.l6 k x0 x6 x7 x9 x10 x15 true x18 (wrap64 (x19 + 1)) ((rd_T50 ((rd_T44 x0 x18).f2) x19).f0) ((rd_T50 ((rd_T44 x0 x18).f2) x19).f1) ((rd_T50 ((rd_T44 x0 x18).f2) x19).f2))) else (barquelaw19_merged.l6 k x0 x6 x7 x9 x10 x15 x17 x18 (wrap64 (x19 + 1)) x285000 x285001 x285002)) else (none)) else (barquelaw19_merged.l5 k x0 x6 x7 x9 x10 x15 x17 (wrap64 (x18 + 1)) x285000 x285001 x285002)) else (none)) else (none)
end
def barquelaw19_merged.f (k : Nat) (l0 : List (S44)) : Option (Int × Int × (List (S50)) × (List (S50))) := barquelaw19_merged.l0 k l0 0 0 0
theorem barquelaw19_merged.mono_l : ∀ k, (∀ y0 y1 y2 y3, LeO (barquelaw19_merged.l0 k y0 y1 y2 y3) (barquelaw19_merged.l0 (k + 1) y0 y1 y2 y3)) ∧ (∀ y0 y1 y2, LeO (barquelaw19_merged.j1 k y0 y1 y2) (barquelaw19_merged.j1 (k + 1) y0 y1 y2)) ∧ (∀ y0 y1 y2 y3 y4, LeO (barquelaw19_merged.l1 k y0 y1 y2 y3 y4) (barquelaw19_merged.l1 (k + 1) y0 y1 y2 y3 y4)) ∧ (∀ y0 y1 y2 y3 y4 y5 y6, LeO (barquelaw19_merged.j3 k y0 y1 y2 y3 y4 y5 y6) (barquelaw19_merged.j3 (k + 1) y0 y1 y2 y3 y4 y5 y6)) ∧ (∀ y0 y1 y2 y3 y4 y5 y6, LeO (barquelaw19_merged.l2 k y0 y1 y2 y3 y4 y5 y6) (barquelaw19_merged.l2 (k + 1) y0 y1 y2 y3 y4 y5 y6)) ∧ (∀ y0 y1 y2 y3 y4 y5 y6 y7, LeO (barquelaw19_merged.l3 k y0 y1 y2 y3 y4 y5 y6 y7) (barquelaw19_merged.l3 (k + 1) y0 y1 y2 y3 y4 y5 y6 y7)) ∧ (∀ y0 y1 y2 y3 y4 y5 y6 y7 y8, LeO (barquelaw19_merged.j6 k y0 y1 y2 y3 y4 y5 y6 y7 y8) (barquelaw19_merged.j6 (k + 1) y0 y1 y2 y3 y4 y5 y6 y7 y8)) ∧ (∀ y0 y1 y2 y3 y4 y5, LeO (barquelaw19_merged.l4 k y0 y1 y2 y3 y4 y5) (barquelaw19_merged.l4 (k + 1) y0 y1 y2 y3 y4 y5)) ∧ (∀ y0 y1 y2 y3 y4 y5 y6 y7 y8 y9 y10, LeO (barquelaw19_merged.l5 k y0 y1 y2 y3 y4 y5 y6 y7 y8 y9 y10) (barquelaw19_merged.l5 (k + 1) y0 y1 y2 y3 y4 y5 y6 y7 y8 y9 y10)) ∧ (∀ y0 y1 y2 y3 y4 y5 y6 y7 y8 y9 y10 y11, LeO (barquelaw19_merged.l6 k y0 y1 y2 y3 y4 y5 y6 y7 y8 y9 y10 y11) (barquelaw19_merged.l6 (k + 1) y0 y1 y2 y3 y4 y5 y6 y7 y8 y9 y10 y11))
  | 0 => ⟨fun _ _ _ _ r h => by simp [barquelaw19_merged.l0] at h, fun _ _ _ r h => by simp [barquelaw19_merged.j1] at h, fun _ _ _ _ _ r h => by simp [barquelaw19_merged.l1] at h, fun _ _ _ _ _ _ _ r h => by simp [barquelaw19_merged.j3] at h, fun _ _ _ _ _ _ _ r h => by simp [barquelaw19_merged.l2] at h, fun _ _ _ _ _ _ _ _ r h => by simp [barquelaw19_merged.l3] at h, fun _ _ _ _ _ _ _ _ _ r h => by simp [barquelaw19_merged.j6] at h, fun _ _ _ _ _ _ r h => by simp [barquelaw19_merged.l4] at h, fun _ _ _ _ _ _ _ _ _ _ _ r h => by simp [barquelaw19_merged.l5] at h, fun _ _ _ _ _ _ _ _ _ _ _ _ r h => by simp [barquelaw19_merged.l6] at h⟩
  | k + 1 => by
    obtain ⟨ih0, ih1, ih2, ih3, ih4, ih5, ih6, ih7, ih8, ih9⟩ := barquelaw19_merged.mono_l k
    refine ⟨?_, ?_, ?_, ?_, ?_, ?_, ?_, ?_, ?_, ?_⟩
    · intro y0 y1 y2 y3
      unfold barquelaw19_merged.l0
      repeat' first
      | (with_reducible exact ih0 _ _ _ _)
      | (with_reducible exact ih1 _ _ _)
      | (with_reducible exact ih2 _ _ _ _ _)
      | (with_reducible exact ih3 _ _ _ _ _ _ _)
      | (with_reducible exact ih4 _ _ _ _ _ _ _)
      | (with_reducible exact ih5 _ _ _ _ _ _ _ _)
      | (with_reducible exact ih6 _ _ _ _ _ _ _ _ _)
      | (with_reducible exact ih7 _ _ _ _ _ _)
      | (with_reducible exact ih8 _ _ _ _ _ _ _ _ _ _ _)
      | (with_reducible exact ih9 _ _ _ _ _ _ _ _ _ _ _ _)
      | (with_reducible exact LeO.refl _)
      | (with_reducible exact LeO.none _)
      | (with_reducible refine LeO.ite ?_ ?_)
      | (with_reducible refine LeO.bind ?_ (fun _ => ?_))
      | exact ih0 _ _ _ _
      | exact ih1 _ _ _
      | exact ih2 _ _ _ _ _
      | exact ih3 _ _ _ _ _ _ _
      | exact ih4 _ _ _ _ _ _ _
      | exact ih5 _ _ _ _ _ _ _ _
      | exact ih6 _ _ _ _ _ _ _ _ _
      | exact ih7 _ _ _ _ _ _
      | exact ih8 _ _ _ _ _ _ _ _ _ _ _
      | exact ih9 _ _ _ _ _ _ _ _ _ _ _ _
      | exact LeO.none _
      | refine LeO.ite ?_ ?_
      | refine LeO.bind ?_ (fun _ => ?_)
    · intro y0 y1 y2
      unfold barquelaw19_merged.j1
      repeat' first
      | (with_reducible exact ih0 _ _ _ _)
      | (with_reducible exact ih1 _ _ _)
      | (with_reducible exact ih2 _ _ _ _ _)
      | (with_reducible exact ih3 _ _ _ _ _ _ _)
      | (with_reducible exact ih4 _ _ _ _ _ _ _)
      | (with_reducible exact ih5 _ _ _ _ _ _ _ _)
      | (with_reducible exact ih6 _ _ _ _ _ _ _ _ _)
      | (with_reducible exact ih7 _ _ _ _ _ _)
      | (with_reducible exact ih8 _ _ _ _ _ _ _ _ _ _ _)
      | (with_reducible exact ih9 _ _ _ _ _ _ _ _ _ _ _ _)
      | (with_reducible exact LeO.refl _)
      | (with_reducible exact LeO.none _)
      | (with_reducible refine LeO.ite ?_ ?_)
      | (with_reducible refine LeO.bind ?_ (fun _ => ?_))
      | exact ih0 _ _ _ _
      | exact ih1 _ _ _
      | exact ih2 _ _ _ _ _
      | exact ih3 _ _ _ _ _ _ _
      | exact ih4 _ _ _ _ _ _ _
      | exact ih5 _ _ _ _ _ _ _ _
      | exact ih6 _ _ _ _ _ _ _ _ _
      | exact ih7 _ _ _ _ _ _
      | exact ih8 _ _ _ _ _ _ _ _ _ _ _
      | exact ih9 _ _ _ _ _ _ _ _ _ _ _ _
      | exact LeO.none _
      | refine LeO.ite ?_ ?_
      | refine LeO.bind ?_ (fun _ => ?_)
    · intro y0 y1 y2 y3 y4
      unfold barquelaw19_merged.l1
      repeat' first
      | (with_reducible exact ih0 _ _ _ _)
      | (with_reducible exact ih1 _ _ _)
      | (with_reducible exact ih2 _ _ _ _ _)
      | (with_reducible exact ih3 _ _ _ _ _ _ _)
      | (with_reducible exact ih4 _ _ _ _ _ _ _)
      | (with_reducible exact ih5 _ _ _ _ _ _ _ _)
      | (with_reducible exact ih6 _ _ _ _ _ _ _ _ _)
      | (with_reducible exact ih7 _ _ _ _ _ _)
      | (with_reducible exact ih8 _ _ _ _ _ _ _ _ _ _ _)
      | (with_reducible exact ih9 _ _ _ _ _ _ _ _ _ _ _ _)
      | (with_reducible exact LeO.refl _)
      | (with_reducible exact LeO.none _)
      | (with_reducible refine LeO.ite ?_ ?_)
      | (with_reducible refine LeO.bind ?_ (fun _ => ?_))
      | exact ih0 _ _ _ _
      | exact ih1 _ _ _
      | exact ih2 _ _ _ _ _
      | exact ih3 _ _ _ _ _ _ _
      | exact ih4 _ _ _ _ _ _ _
      | exact ih5 _ _ _ _ _ _ _ _
      | exact ih6 _ _ _ _ _ _ _ _ _
      | exact ih7 _ _ _ _ _ _
      | exact ih8 _ _ _ _ _ _ _ _ _ _ _
      | exact ih9 _ _ _ _ _ _ _ _ _ _ _ _
      | exact LeO.none _
      | refine LeO.ite ?_ ?_
      | refine LeO.bind ?_ (fun _ => ?_)
    · intro y0 y1 y2 y3 y4 y5 y6
      unfold barquelaw19_merged.j3
      repeat' first
      | (with_reducible exact ih0 _ _ _ _)
      | (with_reducible exact ih1 _ _ _)
      | (with_reducible exact ih2 _ _ _ _ _)
      | (with_reducible exact ih3 _ _ _ _ _ _ _)
      | (with_reducible exact ih4 _ _ _ _ _ _ _)
      | (with_reducible exact ih5 _ _ _ _ _ _ _ _)
      | (with_reducible exact ih6 _ _ _ _ _ _ _ _ _)
      | (with_reducible exact ih7 _ _ _ _ _ _)
      | (with_reducible exact ih8 _ _ _ _ _ _ _ _ _ _ _)
      | (with_reducible exact ih9 _ _ _ _ _ _ _ _ _ _ _ _)
      | (with_reducible exact LeO.refl _)
      | (with_reducible exact LeO.none _)
      | (with_reducible refine LeO.ite ?_ ?_)
      | (with_reducible refine LeO.bind ?_ (fun _ => ?_))
      | exact ih0 _ _ _ _
      | exact ih1 _ _ _
      | exact ih2 _ _ _ _ _
      | exact ih3 _ _ _ _ _ _ _
      | exact ih4 _ _ _ _ _ _ _
      | exact ih5 _ _ _ _ _ _ _ _
      | exact ih6 _ _ _ _ _ _ _ _ _
      | exact ih7 _ _ _ _ _ _
      | exact ih8 _ _ _ _ _ _ _ _ _ _ _
      | exact ih9 _ _ _ _ _ _ _ _ _ _ _ _
      | exact LeO.none _
      | refine LeO.ite ?_ ?_
      | refine LeO.bind ?_ (fun _ => ?_)
    · intro y0 y1 y2 y3 y4 y5 y6
      unfold barquelaw19_merged.l2
      repeat' first
      | (with_reducible exact ih0 _ _ _ _)
      | (with_reducible exact ih1 _ _ _)
      | (with_reducible exact ih2 _ _ _ _ _)
      | (with_reducible exact ih3 _ _ _ _ _ _ _)
      | (with_reducible exact ih4 _ _ _ _ _ _ _)
      | (with_reducible exact ih5 _ _ _ _ _ _ _ _)
      | (with_reducible exact ih6 _ _ _ _ _ _ _ _ _)
      | (with_reducible exact ih7 _ _ _ _ _ _)
      | (with_reducible exact ih8 _ _ _ _ _ _ _ _ _ _ _)
      | (with_reducible exact ih9 _ _ _ _ _ _ _ _ _ _ _ _)
      | (with_reducible exact LeO.refl _)
      | (with_reducible exact LeO.none _)
      | (with_reducible refine LeO.ite ?_ ?_)
      | (with_reducible refine LeO.bind ?_ (fun _ => ?_))
      | exact ih0 _ _ _ _
      | exact ih1 _ _ _
      | exact ih2 _ _ _ _ _
      | exact ih3 _ _ _ _ _ _ _
      | exact ih4 _ _ _ _ _ _ _
      | exact ih5 _ _ _ _ _ _ _ _
      | exact ih6 _ _ _ _ _ _ _ _ _
      | exact ih7 _ _ _ _ _ _
      | exact ih8 _ _ _ _ _ _ _ _ _ _ _
      | exact ih9 _ _ _ _ _ _ _ _ _ _ _ _
      | exact LeO.none _
      | refine LeO.ite ?_ ?_
      | refine LeO.bind ?_ (fun _ => ?_)
    · intro y0 y1 y2 y3 y4 y5 y6 y7
      unfold barquelaw19_merged.l3
      repeat' first
      | (with_reducible exact ih0 _ _ _ _)
      | (with_reducible exact ih1 _ _ _)
      | (with_reducible exact ih2 _ _ _ _ _)
      | (with_reducible exact ih3 _ _ _ _ _ _ _)
      | (with_reducible exact ih4 _ _ _ _ _ _ _)
      | (with_reducible exact ih5 _ _ _ _ _ _ _ _)
      | (with_reducible exact ih6 _ _ _ _ _ _ _ _ _)
      | (with_reducible exact ih7 _ _ _ _ _ _)
      | (with_reducible exact ih8 _ _ _ _ _ _ _ _ _ _ _)
      | (with_reducible exact ih9 _ _ _ _ _ _ _ _ _ _ _ _)
      | (with_reducible exact LeO.refl _)
      | (with_reducible exact LeO.none _)
      | (with_reducible refine LeO.ite ?_ ?_)
      | (with_reducible refine LeO.bind ?_ (fun _ => ?_))
      | exact ih0 _ _ _ _
      | exact ih1 _ _ _
      | exact ih2 _ _ _ _ _
      | exact ih3 _ _ _ _ _ _ _
      | exact ih4 _ _ _ _ _ _ _
      | exact ih5 _ _ _ _ _ _ _ _
      | exact ih6 _ _ _ _ _ _ _ _ _
      | exact ih7 _ _ _ _ _ _
      | exact ih8 _ _ _ _ _ _ _ _ _ _ _
      | exact ih9 _ _ _ _ _ _ _ _ _ _ _ _
      | exact LeO.none _
      | refine LeO.ite ?_ ?_
      | refine LeO.bind ?_ (fun _ => ?_)
    · intro y0 y1 y2 y3 y4 y5 y6 y7 y8
      unfold barquelaw19_merged.j6
      repeat' first
      | (with_reducible exact ih0 _ _ _ _)
      | (with_reducible exact ih1 _ _ _)
      | (with_reducible exact ih2 _ _ _ _ _)
      | (with_reducible exact ih3 _ _ _ _ _ _ _)
      | (with_reducible exact ih4 _ _ _ _ _ _ _)
      | (with_reducible exact ih5 _ _ _ _ _ _ _ _)
      | (with_reducible exact ih6 _ _ _ _ _ _ _ _ _)
      | (with_reducible exact ih7 _ _ _ _ _ _)
      | (with_reducible exact ih8 _ _ _ _ _ _ _ _ _ _ _)
      | (with_reducible exact ih9 _ _ _ _ _ _ _ _ _ _ _ _)
      | (with_reducible exact LeO.refl _)
      | (with_reducible exact LeO.none _)
      | (with_reducible refine LeO.ite ?_ ?_)
      | (with_reducible refine LeO.bind ?_ (fun _ => ?_))
      | exact ih0 _ _ _ _
      | exact ih1 _ _ _
      | exact ih2 _ _ _ _ _
      | exact ih3 _ _ _ _ _ _ _
      | exact ih4 _ _ _ _ _ _ _
      | exact ih5 _ _ _ _ _ _ _ _
      | exact ih6 _ _ _ _ _ _ _ _ _
      | exact ih7 _ _ _ _ _ _
      | exact ih8 _ _ _ _ _ _ _ _ _ _ _
      | exact ih9 _ _ _ _ _ _ _ _ _ _ _ _
      | exact LeO.none _
      | refine LeO.ite ?_ ?_
      | refine LeO.bind ?_ (fun _ => ?_)
    · intro y0 y1 y2 y3 y4 y5
      unfold barquelaw19_merged.l4
      repeat' first
      | (with_reducible exact ih0 _ _ _ _)
      | (with_reducible exact ih1 _ _ _)
      | (with_reducible exact ih2 _ _ _ _ _)
      | (with_reducible exact ih3 _ _ _ _ _ _ _)
      | (with_reducible exact ih4 _ _ _ _ _ _ _)
      | (with_reducible exact ih5 _ _ _ _ _ _ _ _)
      | (with_reducible exact ih6 _ _ _ _ _ _ _ _ _)
      | (with_reducible exact ih7 _ _ _ _ _ _)
      | (with_reducible exact ih8 _ _ _ _ _ _ _ _ _ _ _)
      | (with_reducible exact ih9 _ _ _ _ _ _ _ _ _ _ _ _)
      | (with_reducible exact LeO.refl _)
      | (with_reducible exact LeO.none _)
      | (with_reducible refine LeO.ite ?_ ?_)
      | (with_reducible refine LeO.bind ?_ (fun _ => ?_))
      | exact ih0 _ _ _ _
      | exact ih1 _ _ _
      | exact ih2 _ _ _ _ _
      | exact ih3 _ _ _ _ _ _ _
      | exact ih4 _ _ _ _ _ _ _
      | exact ih5 _ _ _ _ _ _ _ _
      | exact ih6 _ _ _ _ _ _ _ _ _
      | exact ih7 _ _ _ _ _ _
      | exact ih8 _ _ _ _ _ _ _ _ _ _ _
      | exact ih9 _ _ _ _ _ _ _ _ _ _ _ _
      | exact LeO.none _
      | refine LeO.ite ?_ ?_
      | refine LeO.bind ?_ (fun _ => ?_)
    · intro y0 y1 y2 y3 y4 y5 y6 y7 y8 y9 y10
      unfold barquelaw19_merged.l5
      repeat' first
      | (with_reducible exact ih0 _ _ _ _)
      | (with_reducible exact ih1 _ _ _)
      | (with_reducible exact ih2 _ _ _ _ _)
      | (with_reducible exact ih3 _ _ _ _ _ _ _)
      | (with_reducible exact ih4 _ _ _ _ _ _ _)
      | (with_reducible exact ih5 _ _ _ _ _ _ _ _)
      | (with_reducible exact ih6 _ _ _ _ _ _ _ _ _)
      | (with_reducible exact ih7 _ _ _ _ _ _)
      | (with_reducible exact ih8 _ _ _ _ _ _ _ _ _ _ _)
      | (with_reducible exact ih9 _ _ _ _ _ _ _ _ _ _ _ _)
      | (with_reducible exact LeO.refl _)
      | (with_reducible exact LeO.none _)
      | (with_reducible refine LeO.ite ?_ ?_)
      | (with_reducible refine LeO.bind ?_ (fun _ => ?_))
      | exact ih0 _ _ _ _
      | exact ih1 _ _ _
      | exact ih2 _ _ _ _ _
      | exact ih3 _ _ _ _ _ _ _
      | exact ih4 _ _ _ _ _ _ _
      | exact ih5 _ _ _ _ _ _ _ _
      | exact ih6 _ _ _ _ _ _ _ _ _
      | exact ih7 _ _ _ _ _ _
      | exact ih8 _ _ _ _ _ _ _ _ _ _ _
      | exact ih9 _ _ _ _ _ _ _ _ _ _ _ _
      | exact LeO.none _
      | refine LeO.ite ?_ ?_
      | refine LeO.bind ?_ (fun _ => ?_)
    · intro y0 y1 y2 y3 y4 y5 y6 y7 y8 y9 y10 y11
      unfold barquelaw19_merged.l6
      repeat' first
      | (with_reducible exact ih0 _ _ _ _)
      | (with_reducible exact ih1 _ _ _)
      | (with_reducible exact ih2 _ _ _ _ _)
      | (with_reducible exact ih3 _ _ _ _ _ _ _)
      | (with_reducible exact ih4 _ _ _ _ _ _ _)
      | (with_reducible exact ih5 _ _ _ _ _ _ _ _)
      | (with_reducible exact ih6 _ _ _ _ _ _ _ _ _)
      | (with_reducible exact ih7 _ _ _ _ _ _)
      | (with_reducible exact ih8 _ _ _ _ _ _ _ _ _ _ _)
      | (with_reducible exact ih9 _ _ _ _ _ _ _ _ _ _ _ _)
      | (with_reducible exact LeO.refl _)
      | (with_reducible exact LeO.none _)
      | (with_reducible refine LeO.ite ?_ ?_)
      | (with_reducible refine LeO.bind ?_ (fun _ => ?_))
      | exact ih0 _ _ _ _
      | exact ih1 _ _ _
      | exact ih2 _ _ _ _ _
      | exact ih3 _ _ _ _ _ _ _
      | exact ih4 _ _ _ _ _ _ _
      | exact ih5 _ _ _ _ _ _ _ _
      | exact ih6 _ _ _ _ _ _ _ _ _
      | exact ih7 _ _ _ _ _ _
      | exact ih8 _ _ _ _ _ _ _ _ _ _ _
      | exact ih9 _ _ _ _ _ _ _ _ _ _ _ _
      | exact LeO.none _
      | refine LeO.ite ?_ ?_
      | refine LeO.bind ?_ (fun _ => ?_)
theorem barquelaw19_merged.mono : ∀ a0 k, LeO (barquelaw19_merged.f k a0) (barquelaw19_merged.f (k + 1) a0) := by
  intro a0 k
  obtain ⟨ih0, ih1, ih2, ih3, ih4, ih5, ih6, ih7, ih8, ih9⟩ := barquelaw19_merged.mono_l k
  unfold barquelaw19_merged.f
  repeat' first
      | (with_reducible exact ih0 _ _ _ _)
      | (with_reducible exact ih1 _ _ _)
      | (with_reducible exact ih2 _ _ _ _ _)
      | (with_reducible exact ih3 _ _ _ _ _ _ _)
      | (with_reducible exact ih4 _ _ _ _ _ _ _)
      | (with_reducible exact ih5 _ _ _ _ _ _ _ _)
      | (with_reducible exact ih6 _ _ _ _ _ _ _ _ _)
      | (with_reducible exact ih7 _ _ _ _ _ _)
      | (with_reducible exact ih8 _ _ _ _ _ _ _ _ _ _ _)
      | (with_reducible exact ih9 _ _ _ _ _ _ _ _ _ _ _ _)
      | (with_reducible exact LeO.refl _)
      | (with_reducible exact LeO.none _)
      | (with_reducible refine LeO.ite ?_ ?_)
      | (with_reducible refine LeO.bind ?_ (fun _ => ?_))
      | exact ih0 _ _ _ _
      | exact ih1 _ _ _
      | exact ih2 _ _ _ _ _
      | exact ih3 _ _ _ _ _ _ _
      | exact ih4 _ _ _ _ _ _ _
      | exact ih5 _ _ _ _ _ _ _ _
      | exact ih6 _ _ _ _ _ _ _ _ _
      | exact ih7 _ _ _ _ _ _
      | exact ih8 _ _ _ _ _ _ _ _ _ _ _
      | exact ih9 _ _ _ _ _ _ _ _ _ _ _ _
      | exact LeO.none _
      | refine LeO.ite ?_ ?_
      | refine LeO.bind ?_ (fun _ => ?_)
set_option maxHeartbeats 8000000 in
set_option maxRecDepth 100000 in
theorem barquelaw19_merged.calls (k : Nat) (A0 : Option Addr) (c0 : Nat) (l0 : List (S44)) (r1 : Int) (r2 : Int) (r3 : List (S50)) (r4 : List (S50)) (w : World) (hr0 : Kd.C k44 w A0 l0.length l0) (hc0 : l0.length ≤ c0) (h : barquelaw19_merged.f k l0 = some (r1, r2, r3, r4)) :
    Calls Try.prog 24 #[.slice A0 l0.length c0] w fun e w' => ∃ v2_ v3_ : Value, e = .returned (.tuple #[.int .i64 r1, .int .i64 r2, v2_, v3_]) ∧ Kd.R k50 50 w' w.heap.size (fun k_ => some k_ ≠ (v3_ : Value).ownBlock) v2_ r3 ∧ Kd.R k50 50 w' w.heap.size (fun k_ => some k_ ≠ (v2_ : Value).ownBlock) v3_ r4 ∧ Below w.heap.size w w' := by
  have hu50 := Try.underlying50
  have HR0 := Aside0.mk hr0
  have HC0 := Aside0.mk hc0
  clear hr0 hc0
  have HB := Aside0.mk (Below.refl w.heap.size w)
  have H : (barquelaw19_merged.l0 k l0 0 0 0) = some (r1, r2, r3, r4) := h
  clear h
  have H' := Aside0.mk H
  clear H
  go_enter Try.func24, Try.ntmps24
  go_wp2
  go_loopg [6, 7, 8] k (fun kq v6 v7 v8 w' => ∃ (x6_1 : Int) (x7_1 : Int) (x8_1 : Int), v6 = .int .i64 x6_1 ∧ v7 = .int .i64 x7_1 ∧ v8 = .int .i64 x8_1 ∧ Aside0 (barquelaw19_merged.l0 kq l0 x6_1 x7_1 x8_1 = some (r1, r2, r3, r4)) ∧ Aside0 (kq ≤ k) ∧ Aside0 (Below w.heap.size w w'))
  case atStart => exact ⟨(0), (0), (0), (by first | rfl | (simp; done) | (simp [*]; done)), (by first | rfl | (simp; done) | (simp [*]; done)), (by first | rfl | (simp; done) | (simp [*]; done)), H', ⟨Nat.le_refl _⟩, ⟨by repeat (first | (with_reducible first | exact HB.out | apply below_alloc | apply pw_below_drewN | apply below_drew1) | exact HB.out)⟩⟩
  case round =>
    clear H'
    obtain ⟨x6_1, x7_1, x8_1, rfl, rfl, rfl, HA, HK1, HB⟩ := hrel
    cases gk with
    | zero => exact absurd HA.out (by simp [barquelaw19_merged.l0])
    | succ k1 =>
      have H := HA.out
      clear HA
      simp only [barquelaw19_merged.l0] at H
      by_cases c2 : x8_1 < (l0.length : Int)
      · rw [if_pos c2] at H
        have c2b0 : decide (x8_1 < (l0.length : Int)) = true := decide_eq_true c2
        clear c2
        by_cases c3 : 0 ≤ x8_1
        · rw [if_pos c3] at H
          have c3b0 : decide (0 ≤ x8_1) = true := decide_eq_true c3
          clear c3
          by_cases c4 : ((rd_T44 l0 x8_1).f0) > x6_1
          · rw [if_pos c4] at H
            have c4b0 : decide (x6_1 < ((rd_T44 l0 x8_1).f0)) = true := decide_eq_true c4
            clear c4
            by_cases c5 : ((rd_T44 l0 x8_1).f1) > x7_1
            · rw [if_pos c5] at H
              have c5b0 : decide (x7_1 < ((rd_T44 l0 x8_1).f1)) = true := decide_eq_true c5
              clear c5
              have H' := Aside0.mk H
              clear H
              have p269 : 0 ≤ (x8_1 : Int) := of_decide_eq_true (by first | (with_reducible assumption) | assumption)
              have q269 : x8_1 < (l0.length : Int) := of_decide_eq_true (by first | (with_reducible assumption) | assumption)
              obtain ⟨ad269, A269_2, c269_2, e269, hx269_0, hx269_1, hx269_2, hl269_2, hi269_2⟩ := at_T44 HR0.out x8_1 p269 q269
              cases e269
              replace hx269_0 := (HB.out.cell (World.block_lt_of_cell? w _ hx269_0)).trans hx269_0
              replace hx269_1 := (HB.out.cell (World.block_lt_of_cell? w _ hx269_1)).trans hx269_1
              replace hx269_2 := (HB.out.cell (World.block_lt_of_cell? w _ hx269_2)).trans hx269_2
              have HR269_2 := Aside0.mk hi269_2
              have HC269_2 := Aside0.mk hl269_2
              clear hi269_2 hl269_2
              replace p269 := eq_true p269
              replace q269 := eq_true q269
              have p270 : 0 ≤ (x8_1 : Int) := of_decide_eq_true (by first | (with_reducible assumption) | assumption)
              have q270 : x8_1 < (l0.length : Int) := of_decide_eq_true (by first | (with_reducible assumption) | assumption)
              obtain ⟨ad270, A270_2, c270_2, e270, hx270_0, hx270_1, hx270_2, hl270_2, hi270_2⟩ := at_T44 HR0.out x8_1 p270 q270
              obtain rfl : ad269 = ad270 := (by injection e270)
              replace hx270_0 := (HB.out.cell (World.block_lt_of_cell? w _ hx270_0)).trans hx270_0
              replace hx270_1 := (HB.out.cell (World.block_lt_of_cell? w _ hx270_1)).trans hx270_1
              replace hx270_2 := (HB.out.cell (World.block_lt_of_cell? w _ hx270_2)).trans hx270_2
              have HR270_2 := Aside0.mk hi270_2
              have HC270_2 := Aside0.mk hl270_2
              clear hi270_2 hl270_2
              replace p270 := eq_true p270
              replace q270 := eq_true q270
              have ea_ := Option.some.inj (hx269_2.symm.trans hx270_2)
              injection ea_ with ea_ en_ ec_
              subst ea_
              subst ec_
              clear en_
              have p271 : 0 ≤ (x8_1 : Int) := of_decide_eq_true (by first | (with_reducible assumption) | assumption)
              have q271 : x8_1 < (l0.length : Int) := of_decide_eq_true (by first | (with_reducible assumption) | assumption)
              obtain ⟨ad271, A271_2, c271_2, e271, hx271_0, hx271_1, hx271_2, hl271_2, hi271_2⟩ := at_T44 HR0.out x8_1 p271 q271
              obtain rfl : ad269 = ad271 := (by injection e271)
              replace hx271_0 := (HB.out.cell (World.block_lt_of_cell? w _ hx271_0)).trans hx271_0
              replace hx271_1 := (HB.out.cell (World.block_lt_of_cell? w _ hx271_1)).trans hx271_1
              replace hx271_2 := (HB.out.cell (World.block_lt_of_cell? w _ hx271_2)).trans hx271_2
              have HR271_2 := Aside0.mk hi271_2
              have HC271_2 := Aside0.mk hl271_2
              clear hi271_2 hl271_2
              replace p271 := eq_true p271
              replace q271 := eq_true q271
              have ea_ := Option.some.inj (hx269_2.symm.trans hx271_2)
              injection ea_ with ea_ en_ ec_
              subst ea_
              subst ec_
              clear en_
              have p272 : 0 ≤ (x8_1 : Int) := of_decide_eq_true (by first | (with_reducible assumption) | assumption)
              have q272 : x8_1 < (l0.length : Int) := of_decide_eq_true (by first | (with_reducible assumption) | assumption)
              obtain ⟨ad272, A272_2, c272_2, e272, hx272_0, hx272_1, hx272_2, hl272_2, hi272_2⟩ := at_T44 HR0.out x8_1 p272 q272
              obtain rfl : ad269 = ad272 := (by injection e272)
              replace hx272_0 := (HB.out.cell (World.block_lt_of_cell? w _ hx272_0)).trans hx272_0
              replace hx272_1 := (HB.out.cell (World.block_lt_of_cell? w _ hx272_1)).trans hx272_1
              replace hx272_2 := (HB.out.cell (World.block_lt_of_cell? w _ hx272_2)).trans hx272_2
              have HR272_2 := Aside0.mk hi272_2
              have HC272_2 := Aside0.mk hl272_2
              clear hi272_2 hl272_2
              replace p272 := eq_true p272
              replace q272 := eq_true q272
              have ea_ := Option.some.inj (hx269_2.symm.trans hx272_2)
              injection ea_ with ea_ en_ ec_
              subst ea_
              subst ec_
              clear en_
              go_wp2
              go_roundg k1
              case measure => have := HK1.out; omega
              case rel => exact ⟨((rd_T44 l0 x8_1).f0), ((rd_T44 l0 x8_1).f1), (wrap64 (x8_1 + 1)), (by first | rfl | (simp; done) | (simp [*]; done)), (by first | rfl | (simp; done) | (simp [*]; done)), (by first | rfl | (simp; done) | (simp [*]; done)), H', ⟨by have := HK1.out; omega⟩, ⟨by repeat (first | (with_reducible first | exact HB.out | apply below_alloc | apply pw_below_drewN | apply below_drew1) | exact HB.out)⟩⟩
            · rw [if_neg c5] at H
              have c5b0 : decide (x7_1 < ((rd_T44 l0 x8_1).f1)) = false := decide_eq_false c5
              clear c5
              have H' := Aside0.mk H
              clear H
              have p269 : 0 ≤ (x8_1 : Int) := of_decide_eq_true (by first | (with_reducible assumption) | assumption)
              have q269 : x8_1 < (l0.length : Int) := of_decide_eq_true (by first | (with_reducible assumption) | assumption)
              obtain ⟨ad269, A269_2, c269_2, e269, hx269_0, hx269_1, hx269_2, hl269_2, hi269_2⟩ := at_T44 HR0.out x8_1 p269 q269
              cases e269
              replace hx269_0 := (HB.out.cell (World.block_lt_of_cell? w _ hx269_0)).trans hx269_0
              replace hx269_1 := (HB.out.cell (World.block_lt_of_cell? w _ hx269_1)).trans hx269_1
              replace hx269_2 := (HB.out.cell (World.block_lt_of_cell? w _ hx269_2)).trans hx269_2
              have HR269_2 := Aside0.mk hi269_2
              have HC269_2 := Aside0.mk hl269_2
              clear hi269_2 hl269_2
              replace p269 := eq_true p269
              replace q269 := eq_true q269
              have p270 : 0 ≤ (x8_1 : Int) := of_decide_eq_true (by first | (with_reducible assumption) | assumption)
              have q270 : x8_1 < (l0.length : Int) := of_decide_eq_true (by first | (with_reducible assumption) | assumption)
              obtain ⟨ad270, A270_2, c270_2, e270, hx270_0, hx270_1, hx270_2, hl270_2, hi270_2⟩ := at_T44 HR0.out x8_1 p270 q270
              obtain rfl : ad269 = ad270 := (by injection e270)
              replace hx270_0 := (HB.out.cell (World.block_lt_of_cell? w _ hx270_0)).trans hx270_0
              replace hx270_1 := (HB.out.cell (World.block_lt_of_cell? w _ hx270_1)).trans hx270_1
              replace hx270_2 := (HB.out.cell (World.block_lt_of_cell? w _ hx270_2)).trans hx270_2
              have HR270_2 := Aside0.mk hi270_2
              have HC270_2 := Aside0.mk hl270_2
              clear hi270_2 hl270_2
              replace p270 := eq_true p270
              replace q270 := eq_true q270
              have ea_ := Option.some.inj (hx269_2.symm.trans hx270_2)
              injection ea_ with ea_ en_ ec_
              subst ea_
              subst ec_
              clear en_
              have p271 : 0 ≤ (x8_1 : Int) := of_decide_eq_true (by first | (with_reducible assumption) | assumption)
              have q271 : x8_1 < (l0.length : Int) := of_decide_eq_true (by first | (with_reducible assumption) | assumption)
              obtain ⟨ad271, A271_2, c271_2, e271, hx271_0, hx271_1, hx271_2, hl271_2, hi271_2⟩ := at_T44 HR0.out x8_1 p271 q271
              obtain rfl : ad269 = ad271 := (by injection e271)
              replace hx271_0 := (HB.out.cell (World.block_lt_of_cell? w _ hx271_0)).trans hx271_0
              replace hx271_1 := (HB.out.cell (World.block_lt_of_cell? w _ hx271_1)).trans hx271_1
              replace hx271_2 := (HB.out.cell (World.block_lt_of_cell? w _ hx271_2)).trans hx271_2
              have HR271_2 := Aside0.mk hi271_2
              have HC271_2 := Aside0.mk hl271_2
              clear hi271_2 hl271_2
              replace p271 := eq_true p271
              replace q271 := eq_true q271
              have ea_ := Option.some.inj (hx269_2.symm.trans hx271_2)
              injection ea_ with ea_ en_ ec_
              subst ea_
              subst ec_
              clear en_
              go_wp2
              go_roundg k1
              case measure => have := HK1.out; omega
              case rel => exact ⟨((rd_T44 l0 x8_1).f0), (x7_1), (wrap64 (x8_1 + 1)), (by first | rfl | (simp; done) | (simp [*]; done)), (by first | rfl | (simp; done) | (simp [*]; done)), (by first | rfl | (simp; done) | (simp [*]; done)), H', ⟨by have := HK1.out; omega⟩, ⟨by repeat (first | (with_reducible first | exact HB.out | apply below_alloc | apply pw_below_drewN | apply below_drew1) | exact HB.out)⟩⟩
          · rw [if_neg c4] at H
            have c4b0 : decide (x6_1 < ((rd_T44 l0 x8_1).f0)) = false := decide_eq_false c4
            clear c4
            by_cases c6 : ((rd_T44 l0 x8_1).f1) > x7_1
            · rw [if_pos c6] at H
              have c6b0 : decide (x7_1 < ((rd_T44 l0 x8_1).f1)) = true := decide_eq_true c6
              clear c6
              have H' := Aside0.mk H
              clear H
              have p269 : 0 ≤ (x8_1 : Int) := of_decide_eq_true (by first | (with_reducible assumption) | assumption)
              have q269 : x8_1 < (l0.length : Int) := of_decide_eq_true (by first | (with_reducible assumption) | assumption)
              obtain ⟨ad269, A269_2, c269_2, e269, hx269_0, hx269_1, hx269_2, hl269_2, hi269_2⟩ := at_T44 HR0.out x8_1 p269 q269
              cases e269
              replace hx269_0 := (HB.out.cell (World.block_lt_of_cell? w _ hx269_0)).trans hx269_0
              replace hx269_1 := (HB.out.cell (World.block_lt_of_cell? w _ hx269_1)).trans hx269_1
              replace hx269_2 := (HB.out.cell (World.block_lt_of_cell? w _ hx269_2)).trans hx269_2
              have HR269_2 := Aside0.mk hi269_2
              have HC269_2 := Aside0.mk hl269_2
              clear hi269_2 hl269_2
              replace p269 := eq_true p269
              replace q269 := eq_true q269
              have p273 : 0 ≤ (x8_1 : Int) := of_decide_eq_true (by first | (with_reducible assumption) | assumption)
              have q273 : x8_1 < (l0.length : Int) := of_decide_eq_true (by first | (with_reducible assumption) | assumption)
              obtain ⟨ad273, A273_2, c273_2, e273, hx273_0, hx273_1, hx273_2, hl273_2, hi273_2⟩ := at_T44 HR0.out x8_1 p273 q273
              obtain rfl : ad269 = ad273 := (by injection e273)
              replace hx273_0 := (HB.out.cell (World.block_lt_of_cell? w _ hx273_0)).trans hx273_0
              replace hx273_1 := (HB.out.cell (World.block_lt_of_cell? w _ hx273_1)).trans hx273_1
              replace hx273_2 := (HB.out.cell (World.block_lt_of_cell? w _ hx273_2)).trans hx273_2
              have HR273_2 := Aside0.mk hi273_2
              have HC273_2 := Aside0.mk hl273_2
              clear hi273_2 hl273_2
              replace p273 := eq_true p273
              replace q273 := eq_true q273
              have ea_ := Option.some.inj (hx269_2.symm.trans hx273_2)
              injection ea_ with ea_ en_ ec_
              subst ea_
              subst ec_
              clear en_
              have p274 : 0 ≤ (x8_1 : Int) := of_decide_eq_true (by first | (with_reducible assumption) | assumption)
              have q274 : x8_1 < (l0.length : Int) := of_decide_eq_true (by first | (with_reducible assumption) | assumption)
              obtain ⟨ad274, A274_2, c274_2, e274, hx274_0, hx274_1, hx274_2, hl274_2, hi274_2⟩ := at_T44 HR0.out x8_1 p274 q274
              obtain rfl : ad269 = ad274 := (by injection e274)
              replace hx274_0 := (HB.out.cell (World.block_lt_of_cell? w _ hx274_0)).trans hx274_0
              replace hx274_1 := (HB.out.cell (World.block_lt_of_cell? w _ hx274_1)).trans hx274_1
              replace hx274_2 := (HB.out.cell (World.block_lt_of_cell? w _ hx274_2)).trans hx274_2
              have HR274_2 := Aside0.mk hi274_2
              have HC274_2 := Aside0.mk hl274_2
              clear hi274_2 hl274_2
              replace p274 := eq_true p274
              replace q274 := eq_true q274
              have ea_ := Option.some.inj (hx269_2.symm.trans hx274_2)
              injection ea_ with ea_ en_ ec_
              subst ea_
              subst ec_
              clear en_
              go_wp2
              go_roundg k1
              case measure => have := HK1.out; omega
              case rel => exact ⟨(x6_1), ((rd_T44 l0 x8_1).f1), (wrap64 (x8_1 + 1)), (by first | rfl | (simp; done) | (simp [*]; done)), (by first | rfl | (simp; done) | (simp [*]; done)), (by first | rfl | (simp; done) | (simp [*]; done)), H', ⟨by have := HK1.out; omega⟩, ⟨by repeat (first | (with_reducible first | exact HB.out | apply below_alloc | apply pw_below_drewN | apply below_drew1) | exact HB.out)⟩⟩
            · rw [if_neg c6] at H
              have c6b0 : decide (x7_1 < ((rd_T44 l0 x8_1).f1)) = false := decide_eq_false c6
              clear c6
              have H' := Aside0.mk H
              clear H
              have p269 : 0 ≤ (x8_1 : Int) := of_decide_eq_true (by first | (with_reducible assumption) | assumption)
              have q269 : x8_1 < (l0.length : Int) := of_decide_eq_true (by first | (with_reducible assumption) | assumption)
              obtain ⟨ad269, A269_2, c269_2, e269, hx269_0, hx269_1, hx269_2, hl269_2, hi269_2⟩ := at_T44 HR0.out x8_1 p269 q269
              cases e269
              replace hx269_0 := (HB.out.cell (World.block_lt_of_cell? w _ hx269_0)).trans hx269_0
              replace hx269_1 := (HB.out.cell (World.block_lt_of_cell? w _ hx269_1)).trans hx269_1
              replace hx269_2 := (HB.out.cell (World.block_lt_of_cell? w _ hx269_2)).trans hx269_2
              have HR269_2 := Aside0.mk hi269_2
              have HC269_2 := Aside0.mk hl269_2
              clear hi269_2 hl269_2
              replace p269 := eq_true p269
              replace q269 := eq_true q269
              have p273 : 0 ≤ (x8_1 : Int) := of_decide_eq_true (by first | (with_reducible assumption) | assumption)
              have q273 : x8_1 < (l0.length : Int) := of_decide_eq_true (by first | (with_reducible assumption) | assumption)
              obtain ⟨ad273, A273_2, c273_2, e273, hx273_0, hx273_1, hx273_2, hl273_2, hi273_2⟩ := at_T44 HR0.out x8_1 p273 q273
              obtain rfl : ad269 = ad273 := (by injection e273)
              replace hx273_0 := (HB.out.cell (World.block_lt_of_cell? w _ hx273_0)).trans hx273_0
              replace hx273_1 := (HB.out.cell (World.block_lt_of_cell? w _ hx273_1)).trans hx273_1
              replace hx273_2 := (HB.out.cell (World.block_lt_of_cell? w _ hx273_2)).trans hx273_2
              have HR273_2 := Aside0.mk hi273_2
              have HC273_2 := Aside0.mk hl273_2
              clear hi273_2 hl273_2
              replace p273 := eq_true p273
              replace q273 := eq_true q273
              have ea_ := Option.some.inj (hx269_2.symm.trans hx273_2)
              injection ea_ with ea_ en_ ec_
              subst ea_
              subst ec_
              clear en_
              go_wp2
              go_roundg k1
              case measure => have := HK1.out; omega
              case rel => exact ⟨(x6_1), (x7_1), (wrap64 (x8_1 + 1)), (by first | rfl | (simp; done) | (simp [*]; done)), (by first | rfl | (simp; done) | (simp [*]; done)), (by first | rfl | (simp; done) | (simp [*]; done)), H', ⟨by have := HK1.out; omega⟩, ⟨by repeat (first | (with_reducible first | exact HB.out | apply below_alloc | apply pw_below_drewN | apply below_drew1) | exact HB.out)⟩⟩
        · rw [if_neg c3] at H
          exact absurd H (by simp)
      · rw [if_neg c2] at H
        have c2b0 : decide (x8_1 < (l0.length : Int)) = false := decide_eq_false c2
        clear c2
        have HC7 := Aside0.mk H
        clear H
        go_upto_if 53 with (fail)
        go_cut [6] (fun v6 wc => ∃ (kq : Nat) (x6_6 : Int), v6 = .int .i64 x6_6 ∧ Aside0 (barquelaw19_merged.j1 kq l0 x6_6 x7_1 = some (r1, r2, r3, r4)) ∧ Aside0 (kq ≤ k1) ∧ Aside0 (Below w.heap.size w wc))
        case first =>
          have H := HC7.out
          clear HC7
          by_cases c8 : x6_1 > x7_1
          · rw [if_pos c8] at H
            have c8b0 : decide (x7_1 < x6_1) = true := decide_eq_true c8
            clear c8
            (first | rw [c8b0] | (simp only [i64_w, i32_w]; rw [c8b0]) | skip)
            have H' := Aside0.mk H
            clear H
            go_wp2
            go_meet
            case rel => exact ⟨_, (x7_1), (by first | rfl | (simp; done) | (simp [*]; done)), H', ⟨by have := HK1.out; first | omega | exact Nat.le_refl _⟩, ⟨by repeat (first | (with_reducible first | exact HB.out | apply below_alloc | apply pw_below_drewN | apply below_drew1) | exact HB.out)⟩⟩
          · rw [if_neg c8] at H
            have c8b0 : decide (x7_1 < x6_1) = false := decide_eq_false c8
            clear c8
            (first | rw [c8b0] | (simp only [i64_w, i32_w]; rw [c8b0]) | skip)
            have H' := Aside0.mk H
            clear H
            go_wp2
            go_meet
            case rel => exact ⟨_, (x6_1), (by first | rfl | (simp; done) | (simp [*]; done)), H', ⟨by have := HK1.out; first | omega | exact Nat.le_refl _⟩, ⟨by repeat (first | (with_reducible first | exact HB.out | apply below_alloc | apply pw_below_drewN | apply below_drew1) | exact HB.out)⟩⟩
        case rest =>
          clear HC7
          try clear c2
          try clear c2b0
          try clear p2
          try clear q2
          try clear hx2
          try clear c3
          try clear c3b0
          try clear c4
          try clear c4b0
          try clear c5
          try clear c5b0
          try clear c6
          try clear c6b0
          try clear p6
          try clear c8
          try clear c8b0
          try clear hx269_0
          try clear hx269_1
          try clear hx269_2
          try clear hx270_0
          try clear hx270_1
          try clear hx270_2
          try clear hx271_0
          try clear hx271_1
          try clear hx271_2
          try clear hx272_0
          try clear hx272_1
          try clear hx272_2
          try clear hx273_0
          try clear hx273_1
          try clear hx273_2
          try clear hx274_0
          try clear hx274_1
          try clear hx274_2
          try clear p269
          try clear p270
          try clear p271
          try clear p272
          try clear p273
          try clear p274
          try clear q269
          try clear q270
          try clear q271
          try clear q272
          try clear q273
          try clear q274
          obtain ⟨kq, x6_6, rfl, HA, HJ6, HB⟩ := hcut
          cases kq with
          | zero => exact absurd HA.out (by simp [barquelaw19_merged.j1])
          | succ kj6 =>
            have H := HA.out
            clear HA
            simp only [barquelaw19_merged.j1] at H
            have H' := Aside0.mk H
            clear H
            go_wp2
            go_loopg [9, 11] kj6 (fun kq v9 v11 w' => ∃ (x9_3 : List (S50)) (x11_3 : Int), v11 = .int .i64 x11_3 ∧ Aside0 (barquelaw19_merged.l1 kq l0 x6_6 x7_1 x9_3 x11_3 = some (r1, r2, r3, r4)) ∧ Aside0 (kq ≤ kj6) ∧ Aside0 (Kd.R k50 50 w' w.heap.size (fun _ => True) v9 x9_3) ∧ Aside0 (Below w.heap.size w w'))
            case atStart => exact ⟨(([] : List (S50))), (x6_6), (by first | rfl | (simp; done) | (simp [*]; done)), H', ⟨Nat.le_refl _⟩, ⟨by first | exact Kd.R_nil _ _ _ _ _ | exact Kd.N_nil _ _ _ _ _ | exact Kd.V_nil _ _ _ _ _ | exact Kd.Q_nil _ _ _ _ _ | exact Kd.S_nil _ _ _ _ _⟩, ⟨by repeat (first | (with_reducible first | exact HB.out | apply below_alloc | apply pw_below_drewN | apply below_drew1) | exact HB.out)⟩⟩
            case round =>
              clear H'
              try clear c2
              try clear c2b0
              try clear p2
              try clear q2
              try clear hx2
              try clear c3
              try clear c3b0
              try clear c4
              try clear c4b0
              try clear c5
              try clear c5b0
              try clear c6
              try clear c6b0
              try clear p6
              try clear c8
              try clear c8b0
              try clear hx269_0
              try clear hx269_1
              try clear hx269_2
              try clear hx270_0
              try clear hx270_1
              try clear hx270_2
              try clear hx271_0
              try clear hx271_1
              try clear hx271_2
              try clear hx272_0
              try clear hx272_1
              try clear hx272_2
              try clear hx273_0
              try clear hx273_1
              try clear hx273_2
              try clear hx274_0
              try clear hx274_1
              try clear hx274_2
              try clear p2
              try clear p269
              try clear p270
              try clear p271
              try clear p272
              try clear p273
              try clear p274
              try clear p6
              try clear q2
              try clear q269
              try clear q270
              try clear q271
              try clear q272
              try clear q273
              try clear q274
              obtain ⟨x9_3, x11_3, rfl, HA, HK3, HO_9, HB⟩ := hrel
              cases gk with
              | zero => exact absurd HA.out (by simp [barquelaw19_merged.l1])
              | succ k3 =>
                have H := HA.out
                clear HA
                simp only [barquelaw19_merged.l1] at H
                have HC9 := Aside0.mk H
                clear H
                go_upto_region 13 with (fail)
                go_cut [64] (fun v64 wc => ∃ (kq : Nat) (x64_8 : Bool), v64 = .bool x64_8 ∧ Aside0 (barquelaw19_merged.j3 kq l0 x6_6 x7_1 x9_3 ([] : List (S50)) x11_3 x64_8 = some (r1, r2, r3, r4)) ∧ Aside0 (kq ≤ k3) ∧ Aside0 (Kd.R k50 50 wc w.heap.size (fun k_ => some k_ ≠ ((.slice none 0 0) : Value).ownBlock) u9 x9_3) ∧ Aside0 (Kd.R k50 50 wc w.heap.size (fun k_ => some k_ ≠ (u9 : Value).ownBlock) (.slice none 0 0) ([] : List (S50))) ∧ Aside0 (Below w.heap.size w wc))
                case first =>
                  have H := HC9.out
                  clear HC9
                  by_cases c10 : x11_3 < x7_1
                  · rw [if_pos c10] at H
                    have c10b0 : decide (x11_3 < x7_1) = true := decide_eq_true c10
                    clear c10
                    (first | rw [c10b0] | (simp only [i64_w, i32_w]; rw [c10b0]) | skip)
                    have H' := Aside0.mk H
                    clear H
                    go_wp2
                    go_meet
                    case rel => exact ⟨_, (decide (x11_3 < (wrap64 (x6_6 + 64)))), (by first | rfl | (simp; done) | (simp [*]; done)), H', ⟨by have := HK1.out; have := HJ6.out; have := HK3.out; first | omega | exact Nat.le_refl _⟩, ⟨by (with_reducible repeat (first | apply Kd.R_alloc | apply Kd.R_drewN | apply Kd.R_drew)); exact Kd.R_mono HO_9.out (fun _ hk => (by simp [Value.ownBlock]))⟩, ⟨by first | exact Kd.R_nil _ _ _ _ _ | exact Kd.N_nil _ _ _ _ _ | exact Kd.V_nil _ _ _ _ _ | exact Kd.Q_nil _ _ _ _ _ | exact Kd.S_nil _ _ _ _ _⟩, ⟨by repeat (first | (with_reducible first | exact HB.out | apply below_alloc | apply pw_below_drewN | apply below_drew1) | exact HB.out)⟩⟩
                  · rw [if_neg c10] at H
                    have c10b0 : decide (x11_3 < x7_1) = false := decide_eq_false c10
                    clear c10
                    (first | rw [c10b0] | (simp only [i64_w, i32_w]; rw [c10b0]) | skip)
                    have H' := Aside0.mk H
                    clear H
                    go_wp2
                    go_meet
                    case rel => exact ⟨_, (false), (by first | rfl | (simp; done) | (simp [*]; done)), H', ⟨by have := HK1.out; have := HJ6.out; have := HK3.out; first | omega | exact Nat.le_refl _⟩, ⟨by (with_reducible repeat (first | apply Kd.R_alloc | apply Kd.R_drewN | apply Kd.R_drew)); exact Kd.R_mono HO_9.out (fun _ hk => (by simp [Value.ownBlock]))⟩, ⟨by first | exact Kd.R_nil _ _ _ _ _ | exact Kd.N_nil _ _ _ _ _ | exact Kd.V_nil _ _ _ _ _ | exact Kd.Q_nil _ _ _ _ _ | exact Kd.S_nil _ _ _ _ _⟩, ⟨by repeat (first | (with_reducible first | exact HB.out | apply below_alloc | apply pw_below_drewN | apply below_drew1) | exact HB.out)⟩⟩
                case rest =>
                  clear HC9
                  try clear c1
                  try clear c2
                  try clear c2b0
                  try clear p2
                  try clear q2
                  try clear hx2
                  try clear c3
                  try clear c3b0
                  try clear c4
                  try clear c4b0
                  try clear c5
                  try clear c5b0
                  try clear c6
                  try clear c6b0
                  try clear p6
                  try clear c8
                  try clear c8b0
                  try clear c10
                  try clear c10b0
                  try clear hx269_0
                  try clear hx269_1
                  try clear hx269_2
                  try clear hx270_0
                  try clear hx270_1
                  try clear hx270_2
                  try clear hx271_0
                  try clear hx271_1
                  try clear hx271_2
                  try clear hx272_0
                  try clear hx272_1
                  try clear hx272_2
                  try clear hx273_0
                  try clear hx273_1
                  try clear hx273_2
                  try clear hx274_0
                  try clear hx274_1
                  try clear hx274_2
                  try clear p2
                  try clear p269
                  try clear p270
                  try clear p271
                  try clear p272
                  try clear p273
                  try clear p274
                  try clear p6
                  try clear q2
                  try clear q269
                  try clear q270
                  try clear q271
                  try clear q272
                  try clear q273
                  try clear q274
                  obtain ⟨kq, x64_8, rfl, HA, HJ8, HO_9, HO_10, HB⟩ := hcut
                  cases kq with
                  | zero => exact absurd HA.out (by simp [barquelaw19_merged.j3])
                  | succ kj8 =>
                    have H := HA.out
                    clear HA
                    simp only [barquelaw19_merged.j3] at H
                    by_cases c11 : x64_8 = true
                    · subst c11
                      have H1 : (barquelaw19_merged.l2 kj8 l0 x6_6 x7_1 x9_3 x11_3 false 0) = some (r1, r2, r3, r4) := by rw [if_pos rfl] at H; exact H
                      clear H
                      have H := H1
                      clear H1
                      have H' := Aside0.mk H
                      clear H
                      go_wp2
                      go_loopg [9, 12, 13] kj8 (fun kq v9 v12 v13 w' => ∃ (x9_5 : List (S50)) (x12_5 : Bool) (x13_5 : Int), v12 = .bool x12_5 ∧ v13 = .int .i64 x13_5 ∧ Aside0 (barquelaw19_merged.l2 kq l0 x6_6 x7_1 x9_5 x11_3 x12_5 x13_5 = some (r1, r2, r3, r4)) ∧ Aside0 (kq ≤ kj8) ∧ Aside0 (Kd.R k50 50 w' w.heap.size (fun _ => True) v9 x9_5) ∧ Aside0 (Below w.heap.size w w'))
                      case atStart => exact ⟨(x9_3), (false), (0), (by first | rfl | (simp; done) | (simp [*]; done)), (by first | rfl | (simp; done) | (simp [*]; done)), H', ⟨Nat.le_refl _⟩, ⟨by (with_reducible repeat (first | apply Kd.R_alloc | apply Kd.R_drewN | apply Kd.R_drew)); exact Kd.R_mono HO_9.out (fun _ hk => trivial)⟩, ⟨by repeat (first | (with_reducible first | exact HB.out | apply below_alloc | apply pw_below_drewN | apply below_drew1) | exact HB.out)⟩⟩
                      case round =>
                        clear H'
                        try clear c1
                        try clear c2
                        try clear c2b0
                        try clear p2
                        try clear q2
                        try clear hx2
                        try clear c3
                        try clear c3b0
                        try clear c4
                        try clear c4b0
                        try clear c5
                        try clear c5b0
                        try clear c6
                        try clear c6b0
                        try clear p6
                        try clear c8
                        try clear c8b0
                        try clear c10
                        try clear c10b0
                        try clear c11
                        try clear hx269_0
                        try clear hx269_1
                        try clear hx269_2
                        try clear hx270_0
                        try clear hx270_1
                        try clear hx270_2
                        try clear hx271_0
                        try clear hx271_1
                        try clear hx271_2
                        try clear hx272_0
                        try clear hx272_1
                        try clear hx272_2
                        try clear hx273_0
                        try clear hx273_1
                        try clear hx273_2
                        try clear hx274_0
                        try clear hx274_1
                        try clear hx274_2
                        try clear p2
                        try clear p269
                        try clear p270
                        try clear p271
                        try clear p272
                        try clear p273
                        try clear p274
                        try clear p6
                        try clear q2
                        try clear q269
                        try clear q270
                        try clear q271
                        try clear q272
                        try clear q273
                        try clear q274
                        obtain ⟨x9_5, x12_5, x13_5, rfl, rfl, HA, HK5, HO_9, HB⟩ := hrel
                        cases gk with
                        | zero => exact absurd HA.out (by simp [barquelaw19_merged.l2])
                        | succ k5 =>
                          have H := HA.out
                          clear HA
                          simp only [barquelaw19_merged.l2] at H
                          by_cases c12 : x13_5 < (l0.length : Int)
                          · rw [if_pos c12] at H
                            have c12b0 : decide (x13_5 < (l0.length : Int)) = true := decide_eq_true c12
                            clear c12
                            have H' := Aside0.mk H
                            clear H
                            go_wp2
                            go_loopg [9, 12, 14] k5 (fun kq v9 v12 v14 w' => ∃ (x9_6 : List (S50)) (x12_6 : Bool) (x14_6 : Int), v12 = .bool x12_6 ∧ v14 = .int .i64 x14_6 ∧ Aside0 (barquelaw19_merged.l3 kq l0 x6_6 x7_1 x9_6 x11_3 x12_6 x13_5 x14_6 = some (r1, r2, r3, r4)) ∧ Aside0 (kq ≤ k5) ∧ Aside0 (Kd.R k50 50 w' w.heap.size (fun _ => True) v9 x9_6) ∧ Aside0 (Below w.heap.size w w'))
                            case atStart => exact ⟨(x9_5), (x12_5), (0), (by first | rfl | (simp; done) | (simp [*]; done)), (by first | rfl | (simp; done) | (simp [*]; done)), H', ⟨Nat.le_refl _⟩, ⟨by (with_reducible repeat (first | apply Kd.R_alloc | apply Kd.R_drewN | apply Kd.R_drew)); exact HO_9.out⟩, ⟨by repeat (first | (with_reducible first | exact HB.out | apply below_alloc | apply pw_below_drewN | apply below_drew1) | exact HB.out)⟩⟩
                            case round =>
                              clear H'
                              try clear c1
                              try clear c2
                              try clear c2b0
                              try clear p2
                              try clear q2
                              try clear hx2
                              try clear c3
                              try clear c3b0
                              try clear c4
                              try clear c4b0
                              try clear c5
                              try clear c5b0
                              try clear c6
                              try clear c6b0
                              try clear p6
                              try clear c8
                              try clear c8b0
                              try clear c10
                              try clear c10b0
                              try clear c11
                              try clear c12
                              try clear c12b0
                              try clear hx269_0
                              try clear hx269_1
                              try clear hx269_2
                              try clear hx270_0
                              try clear hx270_1
                              try clear hx270_2
                              try clear hx271_0
                              try clear hx271_1
                              try clear hx271_2
                              try clear hx272_0
                              try clear hx272_1
                              try clear hx272_2
                              try clear hx273_0
                              try clear hx273_1
                              try clear hx273_2
                              try clear hx274_0
                              try clear hx274_1
                              try clear hx274_2
                              try clear p2
                              try clear p269
                              try clear p270
                              try clear p271
                              try clear p272
                              try clear p273
                              try clear p274
                              try clear p6
                              try clear q2
                              try clear q269
                              try clear q270
                              try clear q271
                              try clear q272
                              try clear q273
                              try clear q274
                              obtain ⟨x9_6, x12_6, x14_6, rfl, rfl, HA, HK6, HO_9, HB⟩ := hrel
                              cases gk with
                              | zero => exact absurd HA.out (by simp [barquelaw19_merged.l3])
                              | succ k6 =>
                                have H := HA.out
                                clear HA
                                simp only [barquelaw19_merged.l3] at H
                                have HC13 := Aside0.mk H
                                clear H
                                go_upto_region 20 with (fail)
                                go_cut [84] (fun v84 wc => ∃ (kq : Nat) (x84_12 : Bool), v84 = .bool x84_12 ∧ Aside0 (barquelaw19_merged.j6 kq l0 x6_6 x7_1 x9_6 x11_3 x12_6 x13_5 x14_6 x84_12 = some (r1, r2, r3, r4)) ∧ Aside0 (kq ≤ k6) ∧ Aside0 (Kd.R k50 50 wc w.heap.size (fun _ => True) u9 x9_6) ∧ Aside0 (Below w.heap.size w wc))
                                case first =>
                                  have H := HC13.out
                                  clear HC13
                                  by_cases c14 : 0 ≤ x13_5
                                  · rw [if_pos c14] at H
                                    have c14b0 : decide (0 ≤ x13_5) = true := decide_eq_true c14
                                    clear c14
                                    (first | rw [c14b0] | (simp only [i64_w, i32_w]; rw [c14b0]) | skip)
                                    by_cases c15 : x13_5 < (l0.length : Int)
                                    · rw [if_pos c15] at H
                                      have c15b0 : decide (x13_5 < (l0.length : Int)) = true := decide_eq_true c15
                                      clear c15
                                      by_cases c16 : x14_6 < (((rd_T44 l0 x13_5).f2).length : Int)
                                      · rw [if_pos c16] at H
                                        have c16b0 : decide (x14_6 < (((rd_T44 l0 x13_5).f2).length : Int)) = true := decide_eq_true c16
                                        clear c16
                                        have H' := Aside0.mk H
                                        clear H
                                        have p275 : 0 ≤ (x13_5 : Int) := of_decide_eq_true (by first | (with_reducible assumption) | assumption)
                                        have q275 : x13_5 < (l0.length : Int) := of_decide_eq_true (by first | (with_reducible assumption) | assumption)
                                        obtain ⟨ad275, A275_2, c275_2, e275, hx275_0, hx275_1, hx275_2, hl275_2, hi275_2⟩ := at_T44 HR0.out x13_5 p275 q275
                                        cases e275
                                        replace hx275_0 := (HB.out.cell (World.block_lt_of_cell? w _ hx275_0)).trans hx275_0
                                        replace hx275_1 := (HB.out.cell (World.block_lt_of_cell? w _ hx275_1)).trans hx275_1
                                        replace hx275_2 := (HB.out.cell (World.block_lt_of_cell? w _ hx275_2)).trans hx275_2
                                        have HR275_2 := Aside0.mk hi275_2
                                        have HC275_2 := Aside0.mk hl275_2
                                        clear hi275_2 hl275_2
                                        replace p275 := eq_true p275
                                        replace q275 := eq_true q275
                                        go_wp2
                                        go_meet
                                        case rel => exact ⟨_, (!x12_6), (by first | rfl | (simp; done) | (simp [*]; done)), H', ⟨by have := HK1.out; have := HJ6.out; have := HK3.out; have := HJ8.out; have := HK5.out; have := HK6.out; first | omega | exact Nat.le_refl _⟩, ⟨by (with_reducible repeat (first | apply Kd.R_alloc | apply Kd.R_drewN | apply Kd.R_drew)); exact HO_9.out⟩, ⟨by repeat (first | (with_reducible first | exact HB.out | apply below_alloc | apply pw_below_drewN | apply below_drew1) | exact HB.out)⟩⟩
                                      · rw [if_neg c16] at H
                                        have c16b0 : decide (x14_6 < (((rd_T44 l0 x13_5).f2).length : Int)) = false := decide_eq_false c16
                                        clear c16
                                        have H' := Aside0.mk H
                                        clear H
                                        have p275 : 0 ≤ (x13_5 : Int) := of_decide_eq_true (by first | (with_reducible assumption) | assumption)
                                        have q275 : x13_5 < (l0.length : Int) := of_decide_eq_true (by first | (with_reducible assumption) | assumption)
                                        obtain ⟨ad275, A275_2, c275_2, e275, hx275_0, hx275_1, hx275_2, hl275_2, hi275_2⟩ := at_T44 HR0.out x13_5 p275 q275
                                        cases e275
                                        replace hx275_0 := (HB.out.cell (World.block_lt_of_cell? w _ hx275_0)).trans hx275_0
                                        replace hx275_1 := (HB.out.cell (World.block_lt_of_cell? w _ hx275_1)).trans hx275_1
                                        replace hx275_2 := (HB.out.cell (World.block_lt_of_cell? w _ hx275_2)).trans hx275_2
                                        have HR275_2 := Aside0.mk hi275_2
                                        have HC275_2 := Aside0.mk hl275_2
                                        clear hi275_2 hl275_2
                                        replace p275 := eq_true p275
                                        replace q275 := eq_true q275
                                        go_wp2
                                        go_meet
                                        case rel => exact ⟨_, (false), (by first | rfl | (simp; done) | (simp [*]; done)), H', ⟨by have := HK1.out; have := HJ6.out; have := HK3.out; have := HJ8.out; have := HK5.out; have := HK6.out; first | omega | exact Nat.le_refl _⟩, ⟨by (with_reducible repeat (first | apply Kd.R_alloc | apply Kd.R_drewN | apply Kd.R_drew)); exact HO_9.out⟩, ⟨by repeat (first | (with_reducible first | exact HB.out | apply below_alloc | apply pw_below_drewN | apply below_drew1) | exact HB.out)⟩⟩
                                    · rw [if_neg c15] at H
                                      exact absurd H (by simp)
                                  · rw [if_neg c14] at H
                                    exact absurd H (by simp)
                                case rest =>
                                  clear HC13
                                  try clear c1
                                  try clear c2
                                  try clear c2b0
                                  try clear p2
                                  try clear q2
                                  try clear hx2
                                  try clear c3
                                  try clear c3b0
                                  try clear c4
                                  try clear c4b0
                                  try clear c5
                                  try clear c5b0
                                  try clear c6
                                  try clear c6b0
                                  try clear p6
                                  try clear c8
                                  try clear c8b0
                                  try clear c10
                                  try clear c10b0
                                  try clear c11
                                  try clear c12
                                  try clear c12b0
                                  try clear c14
                                  try clear c14b0
                                  try clear c15
                                  try clear c15b0
                                  try clear c16
                                  try clear c16b0
                                  try clear hx269_0
                                  try clear hx269_1
                                  try clear hx269_2
                                  try clear hx270_0
                                  try clear hx270_1
                                  try clear hx270_2
                                  try clear hx271_0
                                  try clear hx271_1
                                  try clear hx271_2
                                  try clear hx272_0
                                  try clear hx272_1
                                  try clear hx272_2
                                  try clear hx273_0
                                  try clear hx273_1
                                  try clear hx273_2
                                  try clear hx274_0
                                  try clear hx274_1
                                  try clear hx274_2
                                  try clear hx275_0
                                  try clear hx275_1
                                  try clear hx275_2
                                  try clear p2
                                  try clear p269
                                  try clear p270
                                  try clear p271
                                  try clear p272
                                  try clear p273
                                  try clear p274
                                  try clear p275
                                  try clear p6
                                  try clear q2
                                  try clear q269
                                  try clear q270
                                  try clear q271
                                  try clear q272
                                  try clear q273
                                  try clear q274
                                  try clear q275
                                  obtain ⟨kq, x84_12, rfl, HA, HJ12, HO_9, HB⟩ := hcut
                                  cases kq with
                                  | zero => exact absurd HA.out (by simp [barquelaw19_merged.j6])
                                  | succ kj12 =>
                                    have H := HA.out
                                    clear HA
                                    simp only [barquelaw19_merged.j6] at H
                                    by_cases c17 : x84_12 = true
                                    · subst c17
                                      have H1 : (if 0 ≤ x13_5 then (if x13_5 < (l0.length : Int) then (if ((rd_T44 l0 x13_5).f1) > x11_3 then (if 0 ≤ x14_6 then (if x14_6 < (((rd_T44 l0 x13_5).f2).length : Int) then (if ((rd_T50 ((rd_T44 l0 x13_5).f2) x14_6).f0) = x11_3 then (if x9_6.length < 4398046511104 then (barquelaw19_merged.l3 kj12 l0 x6_6 x7_1 (x9_6 ++ [(⟨x11_3, 0, (rd_T50 ((rd_T44 l0 x13_5).f2) x14_6).f2⟩ : S50)]) x11_3 true x13_5 (wrap64 (x14_6 + 1))) else (none)) else (barquelaw19_merged.l3 kj12 l0 x6_6 x7_1 x9_6 x11_3 x12_6 x13_5 (wrap64 (x14_6 + 1)))) else (none)) else (none)) else (barquelaw19_merged.l3 kj12 l0 x6_6 x7_1 x9_6 x11_3 x12_6 x13_5 (wrap64 (x14_6 + 1)))) else (none)) else (none)) = some (r1, r2, r3, r4) := by rw [if_pos rfl] at H; exact H
                                      clear H
                                      have H := H1
                                      clear H1
                                      by_cases c18 : 0 ≤ x13_5
                                      · rw [if_pos c18] at H
                                        have c18b0 : decide (0 ≤ x13_5) = true := decide_eq_true c18
                                        clear c18
                                        by_cases c19 : x13_5 < (l0.length : Int)
                                        · rw [if_pos c19] at H
                                          have c19b0 : decide (x13_5 < (l0.length : Int)) = true := decide_eq_true c19
                                          clear c19
                                          by_cases c20 : ((rd_T44 l0 x13_5).f1) > x11_3
                                          · rw [if_pos c20] at H
                                            have c20b0 : decide (x11_3 < ((rd_T44 l0 x13_5).f1)) = true := decide_eq_true c20
                                            clear c20
                                            by_cases c21 : 0 ≤ x14_6
                                            · rw [if_pos c21] at H
                                              have c21b0 : decide (0 ≤ x14_6) = true := decide_eq_true c21
                                              clear c21
                                              by_cases c22 : x14_6 < (((rd_T44 l0 x13_5).f2).length : Int)
                                              · rw [if_pos c22] at H
                                                have c22b0 : decide (x14_6 < (((rd_T44 l0 x13_5).f2).length : Int)) = true := decide_eq_true c22
                                                clear c22
                                                by_cases c23 : ((rd_T50 ((rd_T44 l0 x13_5).f2) x14_6).f0) = x11_3
                                                · rw [if_pos c23] at H
                                                  have c23b0 : (((rd_T50 ((rd_T44 l0 x13_5).f2) x14_6).f0) == x11_3) = true := beq_iff_eq.mpr c23
                                                  have c23b1 : (((rd_T50 ((rd_T44 l0 x13_5).f2) x14_6).f0) != x11_3) = false := bne_eq_false_iff_eq.mpr c23
                                                  clear c23
                                                  by_cases c24 : x9_6.length < 4398046511104
                                                  · rw [if_pos c24] at H
                                                    have LMc24 := Aside0.mk c24
                                                    clear c24
                                                    obtain ⟨y281, hy281⟩ : ∃ y_ : List (S50), y_ = (x9_6 ++ [(⟨x11_3, 0, (rd_T50 ((rd_T44 l0 x13_5).f2) x14_6).f2⟩ : S50)]) := ⟨_, rfl⟩
                                                    replace H : (barquelaw19_merged.l3 kj12 l0 x6_6 x7_1 y281 x11_3 true x13_5 (wrap64 (x14_6 + 1))) = some (r1, r2, r3, r4) := by first | (rw [hy281]; with_reducible exact H) | (have H2_ := (Option.bind_some _ _).symm.trans H; rw [hy281]; with_reducible exact H2_) | (have H2_ := (Option.bind_some _ _).symm.trans H; with_reducible exact H2_) | with_reducible exact H | (rw [hy281]; exact H) | exact H
                                                    have Ny281 := Aside0.mk hy281
                                                    clear hy281
                                                    have H' := Aside0.mk H
                                                    clear H
                                                    have p276 : 0 ≤ (x13_5 : Int) := of_decide_eq_true (by first | (with_reducible assumption) | assumption)
                                                    have q276 : x13_5 < (l0.length : Int) := of_decide_eq_true (by first | (with_reducible assumption) | assumption)
                                                    obtain ⟨ad276, A276_2, c276_2, e276, hx276_0, hx276_1, hx276_2, hl276_2, hi276_2⟩ := at_T44 HR0.out x13_5 p276 q276
                                                    cases e276
                                                    replace hx276_0 := (HB.out.cell (World.block_lt_of_cell? w _ hx276_0)).trans hx276_0
                                                    replace hx276_1 := (HB.out.cell (World.block_lt_of_cell? w _ hx276_1)).trans hx276_1
                                                    replace hx276_2 := (HB.out.cell (World.block_lt_of_cell? w _ hx276_2)).trans hx276_2
                                                    have HR276_2 := Aside0.mk hi276_2
                                                    have HC276_2 := Aside0.mk hl276_2
                                                    clear hi276_2 hl276_2
                                                    replace p276 := eq_true p276
                                                    replace q276 := eq_true q276
                                                    have p277 : 0 ≤ (x13_5 : Int) := of_decide_eq_true (by first | (with_reducible assumption) | assumption)
                                                    have q277 : x13_5 < (l0.length : Int) := of_decide_eq_true (by first | (with_reducible assumption) | assumption)
                                                    obtain ⟨ad277, A277_2, c277_2, e277, hx277_0, hx277_1, hx277_2, hl277_2, hi277_2⟩ := at_T44 HR0.out x13_5 p277 q277
                                                    obtain rfl : ad276 = ad277 := (by injection e277)
                                                    replace hx277_0 := (HB.out.cell (World.block_lt_of_cell? w _ hx277_0)).trans hx277_0
                                                    replace hx277_1 := (HB.out.cell (World.block_lt_of_cell? w _ hx277_1)).trans hx277_1
                                                    replace hx277_2 := (HB.out.cell (World.block_lt_of_cell? w _ hx277_2)).trans hx277_2
                                                    have HR277_2 := Aside0.mk hi277_2
                                                    have HC277_2 := Aside0.mk hl277_2
                                                    clear hi277_2 hl277_2
                                                    replace p277 := eq_true p277
                                                    replace q277 := eq_true q277
                                                    have ea_ := Option.some.inj (hx276_2.symm.trans hx277_2)
                                                    injection ea_ with ea_ en_ ec_
                                                    subst ea_
                                                    subst ec_
                                                    clear en_
                                                    have p278 : 0 ≤ (x14_6 : Int) := of_decide_eq_true (by first | (with_reducible assumption) | assumption)
                                                    have q278 : x14_6 < (((rd_T44 l0 x13_5).f2).length : Int) := of_decide_eq_true (by first | (with_reducible assumption) | assumption)
                                                    obtain ⟨ad278, e278, hx278_0, hx278_1, hx278_2⟩ := at_T50 HR277_2.out x14_6 p278 q278
                                                    cases e278
                                                    replace hx278_0 := (HB.out.cell (World.block_lt_of_cell? w _ hx278_0)).trans hx278_0
                                                    replace hx278_1 := (HB.out.cell (World.block_lt_of_cell? w _ hx278_1)).trans hx278_1
                                                    replace hx278_2 := (HB.out.cell (World.block_lt_of_cell? w _ hx278_2)).trans hx278_2
                                                    replace p278 := eq_true p278
                                                    replace q278 := eq_true q278
                                                    have p279 : 0 ≤ (x13_5 : Int) := of_decide_eq_true (by first | (with_reducible assumption) | assumption)
                                                    have q279 : x13_5 < (l0.length : Int) := of_decide_eq_true (by first | (with_reducible assumption) | assumption)
                                                    obtain ⟨ad279, A279_2, c279_2, e279, hx279_0, hx279_1, hx279_2, hl279_2, hi279_2⟩ := at_T44 HR0.out x13_5 p279 q279
                                                    obtain rfl : ad276 = ad279 := (by injection e279)
                                                    replace hx279_0 := (HB.out.cell (World.block_lt_of_cell? w _ hx279_0)).trans hx279_0
                                                    replace hx279_1 := (HB.out.cell (World.block_lt_of_cell? w _ hx279_1)).trans hx279_1
                                                    replace hx279_2 := (HB.out.cell (World.block_lt_of_cell? w _ hx279_2)).trans hx279_2
                                                    have HR279_2 := Aside0.mk hi279_2
                                                    have HC279_2 := Aside0.mk hl279_2
                                                    clear hi279_2 hl279_2
                                                    replace p279 := eq_true p279
                                                    replace q279 := eq_true q279
                                                    have ea_ := Option.some.inj (hx276_2.symm.trans hx279_2)
                                                    injection ea_ with ea_ en_ ec_
                                                    subst ea_
                                                    subst ec_
                                                    clear en_
                                                    have p280 : 0 ≤ (x14_6 : Int) := of_decide_eq_true (by first | (with_reducible assumption) | assumption)
                                                    have q280 : x14_6 < (((rd_T44 l0 x13_5).f2).length : Int) := of_decide_eq_true (by first | (with_reducible assumption) | assumption)
                                                    obtain ⟨ad280, e280, hx280_0, hx280_1, hx280_2⟩ := at_T50 HR279_2.out x14_6 p280 q280
                                                    cases e280
                                                    replace hx280_0 := (HB.out.cell (World.block_lt_of_cell? w _ hx280_0)).trans hx280_0
                                                    replace hx280_1 := (HB.out.cell (World.block_lt_of_cell? w _ hx280_1)).trans hx280_1
                                                    replace hx280_2 := (HB.out.cell (World.block_lt_of_cell? w _ hx280_2)).trans hx280_2
                                                    replace p280 := eq_true p280
                                                    replace q280 := eq_true q280
                                                    go_wp2_with (first | ((with_reducible refine gate_builtin (b := .append) (xs := #[.tmp 107, .tmp 119]) rfl ?_); at_builtin; refine Kd.R_append k50 (w0 := w) w.heap.size rfl (.tmp 107) (.tmp 119) 42 50 (.agg #[(.int .i64 0), (.int .i64 0), (.string ⟨#[]⟩)]) 32 rfl Try.underlying42 info50 rfl (by decide) (by omega) u9 x9_6 (⟨x11_3, 0, (rd_T50 ((rd_T44 l0 x13_5).f2) x14_6).f2⟩ : S50) [.int .i64 x11_3, .int .i64 0, .string ((rd_T50 ((rd_T44 l0 x13_5).f2) x14_6).f2)] (fun _ => True) (fun _ => False) rfl rfl ?aP (fun _ hk => hk.elim) ?aF ?aO ?aB ?aS ?aL ?_; (case aP => exact k50_mkM _ _ _ (⟨x11_3, 0, (rd_T50 ((rd_T44 l0 x13_5).f2) x14_6).f2⟩ : S50)); (case aB => exact (by repeat (first | (with_reducible first | exact HB.out | apply below_alloc | apply pw_below_drewN | apply below_drew1) | exact HB.out))); (case aF => exact (fun _ _ => trivial)); (case aO => exact (by (with_reducible repeat (first | apply Kd.R_alloc | apply Kd.R_drewN | apply Kd.R_drew)); exact HO_9.out)); (case aS => exact (below_size (by repeat (first | (with_reducible first | exact HB.out | apply below_alloc | apply pw_below_drewN | apply below_drew1) | exact HB.out)))); (case aL => have := LMc24.out; omega); intro v282 w25 ho hb hg hat; rw [← Ny281.out] at ho; have n0_ := Aside0.mk (hb); have n1_ := Aside0.mk (ho); clear HB; clear HO_9; have HB := n0_; have HO283 := n1_; clear n0_ n1_; clear ho hb hg hat))
                                                    go_roundg kj12
                                                    case measure => have := HK1.out; have := HJ6.out; have := HK3.out; have := HJ8.out; have := HK5.out; have := HK6.out; have := HJ12.out; omega
                                                    case rel => exact ⟨(y281), (true), (wrap64 (x14_6 + 1)), (by first | rfl | (simp; done) | (simp [*]; done)), (by first | rfl | (simp; done) | (simp [*]; done)), H', ⟨by have := HK1.out; have := HJ6.out; have := HK3.out; have := HJ8.out; have := HK5.out; have := HK6.out; have := HJ12.out; omega⟩, ⟨by (with_reducible repeat (first | apply Kd.R_alloc | apply Kd.R_drewN | apply Kd.R_drew)); exact HO283.out⟩, ⟨by repeat (first | (with_reducible first | exact HB.out | apply below_alloc | apply pw_below_drewN | apply below_drew1) | exact HB.out)⟩⟩
                                                  · rw [if_neg c24] at H
                                                    exact absurd H (by simp)
                                                · rw [if_neg c23] at H
                                                  have c23b0 : (((rd_T50 ((rd_T44 l0 x13_5).f2) x14_6).f0) == x11_3) = false := beq_eq_false_iff_ne.mpr c23
                                                  have c23b1 : (((rd_T50 ((rd_T44 l0 x13_5).f2) x14_6).f0) != x11_3) = true := bne_iff_ne.mpr c23
                                                  have H' := Aside0.mk H
                                                  clear H
                                                  have p276 : 0 ≤ (x13_5 : Int) := of_decide_eq_true (by first | (with_reducible assumption) | assumption)
                                                  have q276 : x13_5 < (l0.length : Int) := of_decide_eq_true (by first | (with_reducible assumption) | assumption)
                                                  obtain ⟨ad276, A276_2, c276_2, e276, hx276_0, hx276_1, hx276_2, hl276_2, hi276_2⟩ := at_T44 HR0.out x13_5 p276 q276
                                                  cases e276
                                                  replace hx276_0 := (HB.out.cell (World.block_lt_of_cell? w _ hx276_0)).trans hx276_0
                                                  replace hx276_1 := (HB.out.cell (World.block_lt_of_cell? w _ hx276_1)).trans hx276_1
                                                  replace hx276_2 := (HB.out.cell (World.block_lt_of_cell? w _ hx276_2)).trans hx276_2
                                                  have HR276_2 := Aside0.mk hi276_2
                                                  have HC276_2 := Aside0.mk hl276_2
                                                  clear hi276_2 hl276_2
                                                  replace p276 := eq_true p276
                                                  replace q276 := eq_true q276
                                                  have p277 : 0 ≤ (x13_5 : Int) := of_decide_eq_true (by first | (with_reducible assumption) | assumption)
                                                  have q277 : x13_5 < (l0.length : Int) := of_decide_eq_true (by first | (with_reducible assumption) | assumption)
                                                  obtain ⟨ad277, A277_2, c277_2, e277, hx277_0, hx277_1, hx277_2, hl277_2, hi277_2⟩ := at_T44 HR0.out x13_5 p277 q277
                                                  obtain rfl : ad276 = ad277 := (by injection e277)
                                                  replace hx277_0 := (HB.out.cell (World.block_lt_of_cell? w _ hx277_0)).trans hx277_0
                                                  replace hx277_1 := (HB.out.cell (World.block_lt_of_cell? w _ hx277_1)).trans hx277_1
                                                  replace hx277_2 := (HB.out.cell (World.block_lt_of_cell? w _ hx277_2)).trans hx277_2
                                                  have HR277_2 := Aside0.mk hi277_2
                                                  have HC277_2 := Aside0.mk hl277_2
                                                  clear hi277_2 hl277_2
                                                  replace p277 := eq_true p277
                                                  replace q277 := eq_true q277
                                                  have ea_ := Option.some.inj (hx276_2.symm.trans hx277_2)
                                                  injection ea_ with ea_ en_ ec_
                                                  subst ea_
                                                  subst ec_
                                                  clear en_
                                                  have p278 : 0 ≤ (x14_6 : Int) := of_decide_eq_true (by first | (with_reducible assumption) | assumption)
                                                  have q278 : x14_6 < (((rd_T44 l0 x13_5).f2).length : Int) := of_decide_eq_true (by first | (with_reducible assumption) | assumption)
                                                  obtain ⟨ad278, e278, hx278_0, hx278_1, hx278_2⟩ := at_T50 HR277_2.out x14_6 p278 q278
                                                  cases e278
                                                  replace hx278_0 := (HB.out.cell (World.block_lt_of_cell? w _ hx278_0)).trans hx278_0
                                                  replace hx278_1 := (HB.out.cell (World.block_lt_of_cell? w _ hx278_1)).trans hx278_1
                                                  replace hx278_2 := (HB.out.cell (World.block_lt_of_cell? w _ hx278_2)).trans hx278_2
                                                  replace p278 := eq_true p278
                                                  replace q278 := eq_true q278
                                                  go_wp2
                                                  go_roundg kj12
                                                  case measure => have := HK1.out; have := HJ6.out; have := HK3.out; have := HJ8.out; have := HK5.out; have := HK6.out; have := HJ12.out; omega
                                                  case rel => exact ⟨(x9_6), (x12_6), (wrap64 (x14_6 + 1)), (by first | rfl | (simp; done) | (simp [*]; done)), (by first | rfl | (simp; done) | (simp [*]; done)), H', ⟨by have := HK1.out; have := HJ6.out; have := HK3.out; have := HJ8.out; have := HK5.out; have := HK6.out; have := HJ12.out; omega⟩, ⟨by (with_reducible repeat (first | apply Kd.R_alloc | apply Kd.R_drewN | apply Kd.R_drew)); exact HO_9.out⟩, ⟨by repeat (first | (with_reducible first | exact HB.out | apply below_alloc | apply pw_below_drewN | apply below_drew1) | exact HB.out)⟩⟩
                                              · rw [if_neg c22] at H
                                                exact absurd H (by simp)
                                            · rw [if_neg c21] at H
                                              exact absurd H (by simp)
                                          · rw [if_neg c20] at H
                                            have c20b0 : decide (x11_3 < ((rd_T44 l0 x13_5).f1)) = false := decide_eq_false c20
                                            clear c20
                                            have H' := Aside0.mk H
                                            clear H
                                            have p276 : 0 ≤ (x13_5 : Int) := of_decide_eq_true (by first | (with_reducible assumption) | assumption)
                                            have q276 : x13_5 < (l0.length : Int) := of_decide_eq_true (by first | (with_reducible assumption) | assumption)
                                            obtain ⟨ad276, A276_2, c276_2, e276, hx276_0, hx276_1, hx276_2, hl276_2, hi276_2⟩ := at_T44 HR0.out x13_5 p276 q276
                                            cases e276
                                            replace hx276_0 := (HB.out.cell (World.block_lt_of_cell? w _ hx276_0)).trans hx276_0
                                            replace hx276_1 := (HB.out.cell (World.block_lt_of_cell? w _ hx276_1)).trans hx276_1
                                            replace hx276_2 := (HB.out.cell (World.block_lt_of_cell? w _ hx276_2)).trans hx276_2
                                            have HR276_2 := Aside0.mk hi276_2
                                            have HC276_2 := Aside0.mk hl276_2
                                            clear hi276_2 hl276_2
                                            replace p276 := eq_true p276
                                            replace q276 := eq_true q276
                                            go_wp2
                                            go_roundg kj12
                                            case measure => have := HK1.out; have := HJ6.out; have := HK3.out; have := HJ8.out; have := HK5.out; have := HK6.out; have := HJ12.out; omega
                                            case rel => exact ⟨(x9_6), (x12_6), (wrap64 (x14_6 + 1)), (by first | rfl | (simp; done) | (simp [*]; done)), (by first | rfl | (simp; done) | (simp [*]; done)), H', ⟨by have := HK1.out; have := HJ6.out; have := HK3.out; have := HJ8.out; have := HK5.out; have := HK6.out; have := HJ12.out; omega⟩, ⟨by (with_reducible repeat (first | apply Kd.R_alloc | apply Kd.R_drewN | apply Kd.R_drew)); exact HO_9.out⟩, ⟨by repeat (first | (with_reducible first | exact HB.out | apply below_alloc | apply pw_below_drewN | apply below_drew1) | exact HB.out)⟩⟩
                                        · rw [if_neg c19] at H
                                          exact absurd H (by simp)
                                      · rw [if_neg c18] at H
                                        exact absurd H (by simp)
                                    · replace c17 := Bool.eq_false_iff.mpr c17
                                      subst c17
                                      have H1 : (barquelaw19_merged.l2 kj12 l0 x6_6 x7_1 x9_6 x11_3 x12_6 (wrap64 (x13_5 + 1))) = some (r1, r2, r3, r4) := by rw [if_neg (show ¬ (false = true) by decide)] at H; exact H
                                      clear H
                                      have H := H1
                                      clear H1
                                      have H' := Aside0.mk H
                                      clear H
                                      go_wp2
                                      go_roundg kj12
                                      case measure => have := HK1.out; have := HJ6.out; have := HK3.out; have := HJ8.out; have := HK5.out; have := HK6.out; have := HJ12.out; omega
                                      case rel => exact ⟨(x9_6), (x12_6), (wrap64 (x13_5 + 1)), (by first | rfl | (simp; done) | (simp [*]; done)), (by first | rfl | (simp; done) | (simp [*]; done)), H', ⟨by have := HK1.out; have := HJ6.out; have := HK3.out; have := HJ8.out; have := HK5.out; have := HK6.out; have := HJ12.out; omega⟩, ⟨by (with_reducible repeat (first | apply Kd.R_alloc | apply Kd.R_drewN | apply Kd.R_drew)); exact HO_9.out⟩, ⟨by repeat (first | (with_reducible first | exact HB.out | apply below_alloc | apply pw_below_drewN | apply below_drew1) | exact HB.out)⟩⟩
                          · rw [if_neg c12] at H
                            have c12b0 : decide (x13_5 < (l0.length : Int)) = false := decide_eq_false c12
                            clear c12
                            have H' := Aside0.mk H
                            clear H
                            go_wp2
                            go_roundg k5
                            case measure => have := HK1.out; have := HJ6.out; have := HK3.out; have := HJ8.out; have := HK5.out; omega
                            case rel => exact ⟨(x9_5), (wrap64 (x11_3 + 1)), (by first | rfl | (simp; done) | (simp [*]; done)), H', ⟨by have := HK1.out; have := HJ6.out; have := HK3.out; have := HJ8.out; have := HK5.out; omega⟩, ⟨by (with_reducible repeat (first | apply Kd.R_alloc | apply Kd.R_drewN | apply Kd.R_drew)); exact HO_9.out⟩, ⟨by repeat (first | (with_reducible first | exact HB.out | apply below_alloc | apply pw_below_drewN | apply below_drew1) | exact HB.out)⟩⟩
                    · replace c11 := Bool.eq_false_iff.mpr c11
                      subst c11
                      have H1 : (barquelaw19_merged.l4 kj8 l0 x6_6 x7_1 x9_3 ([] : List (S50)) x7_1) = some (r1, r2, r3, r4) := by rw [if_neg (show ¬ (false = true) by decide)] at H; exact H
                      clear H
                      have H := H1
                      clear H1
                      have H' := Aside0.mk H
                      clear H
                      go_wp2
                      go_loopg [10, 15] kj8 (fun kq v10 v15 w' => ∃ (x10_5 : List (S50)) (x15_5 : Int), v15 = .int .i64 x15_5 ∧ Aside0 (barquelaw19_merged.l4 kq l0 x6_6 x7_1 x9_3 x10_5 x15_5 = some (r1, r2, r3, r4)) ∧ Aside0 (kq ≤ kj8) ∧ Aside0 (Kd.R k50 50 w' w.heap.size (fun k_ => some k_ ≠ (v10 : Value).ownBlock) u9 x9_3) ∧ Aside0 (Kd.R k50 50 w' w.heap.size (fun k_ => some k_ ≠ (u9 : Value).ownBlock) v10 x10_5) ∧ Aside0 (Below w.heap.size w w'))
                      case atStart => exact ⟨(([] : List (S50))), (x7_1), (by first | rfl | (simp; done) | (simp [*]; done)), H', ⟨Nat.le_refl _⟩, ⟨by (with_reducible repeat (first | apply Kd.R_alloc | apply Kd.R_drewN | apply Kd.R_drew)); exact HO_9.out⟩, ⟨by (with_reducible repeat (first | apply Kd.R_alloc | apply Kd.R_drewN | apply Kd.R_drew)); exact HO_10.out⟩, ⟨by repeat (first | (with_reducible first | exact HB.out | apply below_alloc | apply pw_below_drewN | apply below_drew1) | exact HB.out)⟩⟩
                      case round =>
                        clear H'
                        try clear c1
                        try clear c2
                        try clear c2b0
                        try clear p2
                        try clear q2
                        try clear hx2
                        try clear c3
                        try clear c3b0
                        try clear c4
                        try clear c4b0
                        try clear c5
                        try clear c5b0
                        try clear c6
                        try clear c6b0
                        try clear p6
                        try clear c8
                        try clear c8b0
                        try clear c10
                        try clear c10b0
                        try clear c11
                        try clear c12
                        try clear c12b0
                        try clear c14
                        try clear c14b0
                        try clear c15
                        try clear c15b0
                        try clear c16
                        try clear c16b0
                        try clear c17
                        try clear c18
                        try clear c18b0
                        try clear c19
                        try clear c19b0
                        try clear c20
                        try clear c20b0
                        try clear c21
                        try clear c21b0
                        try clear c22
                        try clear c22b0
                        try clear c23
                        try clear c23b0
                        try clear c23b1
                        try clear c24
                        try clear hx269_0
                        try clear hx269_1
                        try clear hx269_2
                        try clear hx270_0
                        try clear hx270_1
                        try clear hx270_2
                        try clear hx271_0
                        try clear hx271_1
                        try clear hx271_2
                        try clear hx272_0
                        try clear hx272_1
                        try clear hx272_2
                        try clear hx273_0
                        try clear hx273_1
                        try clear hx273_2
                        try clear hx274_0
                        try clear hx274_1
                        try clear hx274_2
                        try clear hx275_0
                        try clear hx275_1
                        try clear hx275_2
                        try clear hx276_0
                        try clear hx276_1
                        try clear hx276_2
                        try clear hx277_0
                        try clear hx277_1
                        try clear hx277_2
                        try clear hx278_0
                        try clear hx278_1
                        try clear hx278_2
                        try clear hx279_0
                        try clear hx279_1
                        try clear hx279_2
                        try clear hx280_0
                        try clear hx280_1
                        try clear hx280_2
                        try clear p2
                        try clear p269
                        try clear p270
                        try clear p271
                        try clear p272
                        try clear p273
                        try clear p274
                        try clear p275
                        try clear p276
                        try clear p277
                        try clear p278
                        try clear p279
                        try clear p280
                        try clear p6
                        try clear q2
                        try clear q269
                        try clear q270
                        try clear q271
                        try clear q272
                        try clear q273
                        try clear q274
                        try clear q275
                        try clear q276
                        try clear q277
                        try clear q278
                        try clear q279
                        try clear q280
                        obtain ⟨x10_5, x15_5, rfl, HA, HK5, HO_9, HO_10, HB⟩ := hrel
                        cases gk with
                        | zero => exact absurd HA.out (by simp [barquelaw19_merged.l4])
                        | succ k5 =>
                          have H := HA.out
                          clear HA
                          simp only [barquelaw19_merged.l4] at H
                          by_cases c26 : x15_5 < (wrap64 (x7_1 + 16))
                          · rw [if_pos c26] at H
                            have c26b0 : decide (x15_5 < (wrap64 (x7_1 + 16))) = true := decide_eq_true c26
                            clear c26
                            have H' := Aside0.mk H
                            clear H
                            go_wp2_with (first | ((with_reducible refine gate_dst (N := 16) rfl ?_); refine box_event ?hg (N := 16) ?hd (cs := #[.int .i64 0, .int .i64 0, .string (⟨#[]⟩ : ByteArray)]) (t := 50) ?hr ?_; (case hd => rfl); (case hg => rfl); (case hr => first | (go_simp; done) | (go_simp; rfl)); intro gb284 hg w27 hbox hb; have n0_ := Aside0.mk (Kd.R_below (Kd.R_elderB (by (with_reducible repeat (first | apply Kd.R_alloc | apply Kd.R_drewN | apply Kd.R_drew)); exact HO_9.out) gb284 (Nat.le_of_eq hg.symm)) hb); have n1_ := Aside0.mk (Kd.R_below (Kd.R_elderB (by (with_reducible repeat (first | apply Kd.R_alloc | apply Kd.R_drewN | apply Kd.R_drew)); exact HO_10.out) gb284 (Nat.le_of_eq hg.symm)) hb); have n2_ := Aside0.mk (below_step (by repeat (first | (with_reducible first | exact HB.out | apply below_alloc | apply pw_below_drewN | apply below_drew1) | exact HB.out)) hb); have n3_ := Aside0.mk (hbox); have n4_ := Aside0.mk ((by rw [hg]; exact (below_size (by repeat (first | (with_reducible first | exact HB.out | apply below_alloc | apply pw_below_drewN | apply below_drew1) | exact HB.out))) : w.heap.size ≤ gb284)); have n5_ := Aside0.mk ((by rw [hg]; exact (below_size (by repeat (first | (with_reducible first | exact HB.out | apply below_alloc | apply pw_below_drewN | apply below_drew1) | exact HB.out))) : w.heap.size ≤ gb284)); clear HO_9; clear HO_10; clear HB; have HO_9 := n0_; have HO_10 := n1_; have HB := n2_; have BK284 := n3_; have GW284 := n4_; have GE284 := n5_; clear n0_ n1_ n2_ n3_ n4_ n5_; clear hb hbox hg; have hcz28_0 : w27.cell? ⟨gb284, 0, none⟩ = some (.int .i64 0) := (blk_cell BK284.out 0).trans rfl; have hcz28_1 : w27.cell? ⟨gb284, 1, none⟩ = some (.int .i64 0) := (blk_cell BK284.out 1).trans rfl; have hcz28_2 : w27.cell? ⟨gb284, 2, none⟩ = some (.string (⟨#[]⟩ : ByteArray)) := (blk_cell BK284.out 2).trans rfl; have hfz28_0 := blk_frozen BK284.out 0; have hfz28_1 := blk_frozen BK284.out 1; have hfz28_2 := blk_frozen BK284.out 2))
                            go_loopg [17, 18] k5 (fun kq v17 v18 w' => ∃ (x17_6 : Bool) (x18_6 : Int) (x285000_6 : Int) (x285001_6 : Int) (x285002_6 : ByteArray), v17 = .bool x17_6 ∧ v18 = .int .i64 x18_6 ∧ Aside0 (barquelaw19_merged.l5 kq l0 x6_6 x7_1 x9_3 x10_5 x15_5 x17_6 x18_6 x285000_6 x285001_6 x285002_6 = some (r1, r2, r3, r4)) ∧ Aside0 (kq ≤ k5) ∧ Aside0 (Kd.R k50 50 w' w.heap.size (fun k_ => some k_ ≠ (u10 : Value).ownBlock ∧ k_ ≠ gb284) u9 x9_3) ∧ Aside0 (Kd.R k50 50 w' w.heap.size (fun k_ => some k_ ≠ (u9 : Value).ownBlock ∧ k_ ≠ gb284) u10 x10_5) ∧ Aside0 (w'.heap[gb284]? = some (.cells #[.int .i64 x285000_6, .int .i64 x285001_6, .string x285002_6] 50 (0, 0))) ∧ Aside0 (Below w.heap.size w w'))
                            case atStart => exact ⟨(false), (0), (0), ((-1)), ((⟨#[]⟩ : ByteArray)), (by first | rfl | (simp; done) | (simp [*]; done)), (by first | rfl | (simp; done) | (simp [*]; done)), H', ⟨Nat.le_refl _⟩, ⟨by (with_reducible repeat (first | apply Kd.R_alloc | apply Kd.R_drewN | apply Kd.R_drew)); exact Kd.R_mono (Kd.R_far (p := ⟨gb284, 2, none⟩) (Kd.R_far (p := ⟨gb284, 1, none⟩) (Kd.R_far (p := ⟨gb284, 0, none⟩) (Kd.R_mono HO_9.out (fun k_ hk => (⟨hk, hk.2⟩ : _ ∧ k_ ≠ gb284))) (fun _ hk => hk.2) (.int .i64 0)) (fun _ hk => hk.2) (.int .i64 (-1))) (fun _ hk => hk.2) (.string (⟨#[]⟩ : ByteArray))) (fun _ hk => ⟨hk.1.1, hk.1.2⟩)⟩, ⟨by (with_reducible repeat (first | apply Kd.R_alloc | apply Kd.R_drewN | apply Kd.R_drew)); exact Kd.R_mono (Kd.R_far (p := ⟨gb284, 2, none⟩) (Kd.R_far (p := ⟨gb284, 1, none⟩) (Kd.R_far (p := ⟨gb284, 0, none⟩) (Kd.R_mono HO_10.out (fun k_ hk => (⟨hk, hk.2⟩ : _ ∧ k_ ≠ gb284))) (fun _ hk => hk.2) (.int .i64 0)) (fun _ hk => hk.2) (.int .i64 (-1))) (fun _ hk => hk.2) (.string (⟨#[]⟩ : ByteArray))) (fun _ hk => ⟨hk.1.1, hk.1.2⟩)⟩, ⟨by (with_reducible repeat (first | refine blk_drewN ?_ _ | refine blk_drew ?_ | refine blk_alloc ?_ _)); refine blk_put (cs := #[.int .i64 0, .int .i64 (-1), .string (⟨#[]⟩ : ByteArray)]) ?_ 2 _ rfl; (with_reducible repeat (first | refine blk_drewN ?_ _ | refine blk_drew ?_ | refine blk_alloc ?_ _)); refine blk_put (cs := #[.int .i64 0, .int .i64 0, .string (⟨#[]⟩ : ByteArray)]) ?_ 1 _ rfl; (with_reducible repeat (first | refine blk_drewN ?_ _ | refine blk_drew ?_ | refine blk_alloc ?_ _)); refine blk_put (cs := #[.int .i64 0, .int .i64 0, .string (⟨#[]⟩ : ByteArray)]) ?_ 0 _ rfl; (with_reducible repeat (first | refine blk_drewN ?_ _ | refine blk_drew ?_ | refine blk_alloc ?_ _)); exact BK284.out⟩, ⟨by repeat (first | (with_reducible first | exact HB.out | apply below_alloc | apply pw_below_drewN | apply below_drew1 | refine below_set ?_ GE284.out) | exact HB.out)⟩⟩
                            case round =>
                              clear H'
                              try clear c1
                              try clear c2
                              try clear c2b0
                              try clear p2
                              try clear q2
                              try clear hx2
                              try clear c3
                              try clear c3b0
                              try clear c4
                              try clear c4b0
                              try clear c5
                              try clear c5b0
                              try clear c6
                              try clear c6b0
                              try clear p6
                              try clear c8
                              try clear c8b0
                              try clear c10
                              try clear c10b0
                              try clear c11
                              try clear c12
                              try clear c12b0
                              try clear c14
                              try clear c14b0
                              try clear c15
                              try clear c15b0
                              try clear c16
                              try clear c16b0
                              try clear c17
                              try clear c18
                              try clear c18b0
                              try clear c19
                              try clear c19b0
                              try clear c20
                              try clear c20b0
                              try clear c21
                              try clear c21b0
                              try clear c22
                              try clear c22b0
                              try clear c23
                              try clear c23b0
                              try clear c23b1
                              try clear c24
                              try clear c26
                              try clear c26b0
                              try clear p26
                              try clear q26
                              try clear hx26
                              try clear c27
                              try clear p27
                              try clear q27
                              try clear hx27
                              try clear p28
                              try clear q28
                              try clear hx28
                              try clear hcz28_0
                              try clear hcz28_1
                              try clear hcz28_2
                              try clear hfz28_0
                              try clear hfz28_1
                              try clear hfz28_2
                              try clear hx269_0
                              try clear hx269_1
                              try clear hx269_2
                              try clear hx270_0
                              try clear hx270_1
                              try clear hx270_2
                              try clear hx271_0
                              try clear hx271_1
                              try clear hx271_2
                              try clear hx272_0
                              try clear hx272_1
                              try clear hx272_2
                              try clear hx273_0
                              try clear hx273_1
                              try clear hx273_2
                              try clear hx274_0
                              try clear hx274_1
                              try clear hx274_2
                              try clear hx275_0
                              try clear hx275_1
                              try clear hx275_2
                              try clear hx276_0
                              try clear hx276_1
                              try clear hx276_2
                              try clear hx277_0
                              try clear hx277_1
                              try clear hx277_2
                              try clear hx278_0
                              try clear hx278_1
                              try clear hx278_2
                              try clear hx279_0
                              try clear hx279_1
                              try clear hx279_2
                              try clear hx280_0
                              try clear hx280_1
                              try clear hx280_2
                              try clear p2
                              try clear p269
                              try clear p270
                              try clear p271
                              try clear p272
                              try clear p273
                              try clear p274
                              try clear p275
                              try clear p276
                              try clear p277
                              try clear p278
                              try clear p279
                              try clear p280
                              try clear p6
                              try clear q2
                              try clear q269
                              try clear q270
                              try clear q271
                              try clear q272
                              try clear q273
                              try clear q274
                              try clear q275
                              try clear q276
                              try clear q277
                              try clear q278
                              try clear q279
                              try clear q280
                              obtain ⟨x17_6, x18_6, x285000_6, x285001_6, x285002_6, rfl, rfl, HA, HK6, HO_9, HO_10, BK284, HB⟩ := hrel
                              cases gk with
                              | zero => exact absurd HA.out (by simp [barquelaw19_merged.l5])
                              | succ k6 =>
                                have H := HA.out
                                clear HA
                                simp only [barquelaw19_merged.l5] at H
                                by_cases c29 : x18_6 < (l0.length : Int)
                                · rw [if_pos c29] at H
                                  have c29b0 : decide (x18_6 < (l0.length : Int)) = true := decide_eq_true c29
                                  clear c29
                                  have H' := Aside0.mk H
                                  clear H
                                  go_wp2
                                  go_loopg [17, 19] k6 (fun kq v17 v19 w' => ∃ (x17_7 : Bool) (x19_7 : Int) (x285000_7 : Int) (x285001_7 : Int) (x285002_7 : ByteArray), v17 = .bool x17_7 ∧ v19 = .int .i64 x19_7 ∧ Aside0 (barquelaw19_merged.l6 kq l0 x6_6 x7_1 x9_3 x10_5 x15_5 x17_7 x18_6 x19_7 x285000_7 x285001_7 x285002_7 = some (r1, r2, r3, r4)) ∧ Aside0 (kq ≤ k6) ∧ Aside0 (Kd.R k50 50 w' w.heap.size (fun k_ => some k_ ≠ (u10 : Value).ownBlock ∧ k_ ≠ gb284) u9 x9_3) ∧ Aside0 (Kd.R k50 50 w' w.heap.size (fun k_ => some k_ ≠ (u9 : Value).ownBlock ∧ k_ ≠ gb284) u10 x10_5) ∧ Aside0 (w'.heap[gb284]? = some (.cells #[.int .i64 x285000_7, .int .i64 x285001_7, .string x285002_7] 50 (0, 0))) ∧ Aside0 (Below w.heap.size w w'))
                                  case atStart => exact ⟨(x17_6), (0), (x285000_6), (x285001_6), (x285002_6), (by first | rfl | (simp; done) | (simp [*]; done)), (by first | rfl | (simp; done) | (simp [*]; done)), H', ⟨Nat.le_refl _⟩, ⟨by (with_reducible repeat (first | apply Kd.R_alloc | apply Kd.R_drewN | apply Kd.R_drew)); exact HO_9.out⟩, ⟨by (with_reducible repeat (first | apply Kd.R_alloc | apply Kd.R_drewN | apply Kd.R_drew)); exact HO_10.out⟩, ⟨by (with_reducible repeat (first | refine blk_drewN ?_ _ | refine blk_drew ?_ | refine blk_alloc ?_ _)); exact BK284.out⟩, ⟨by repeat (first | (with_reducible first | exact HB.out | apply below_alloc | apply pw_below_drewN | apply below_drew1 | refine below_set ?_ GE284.out) | exact HB.out)⟩⟩
                                  case round =>
                                    clear H'
                                    try clear c1
                                    try clear c2
                                    try clear c2b0
                                    try clear p2
                                    try clear q2
                                    try clear hx2
                                    try clear c3
                                    try clear c3b0
                                    try clear c4
                                    try clear c4b0
                                    try clear c5
                                    try clear c5b0
                                    try clear c6
                                    try clear c6b0
                                    try clear p6
                                    try clear c8
                                    try clear c8b0
                                    try clear c10
                                    try clear c10b0
                                    try clear c11
                                    try clear c12
                                    try clear c12b0
                                    try clear c14
                                    try clear c14b0
                                    try clear c15
                                    try clear c15b0
                                    try clear c16
                                    try clear c16b0
                                    try clear c17
                                    try clear c18
                                    try clear c18b0
                                    try clear c19
                                    try clear c19b0
                                    try clear c20
                                    try clear c20b0
                                    try clear c21
                                    try clear c21b0
                                    try clear c22
                                    try clear c22b0
                                    try clear c23
                                    try clear c23b0
                                    try clear c23b1
                                    try clear c24
                                    try clear c26
                                    try clear c26b0
                                    try clear p26
                                    try clear q26
                                    try clear hx26
                                    try clear c27
                                    try clear p27
                                    try clear q27
                                    try clear hx27
                                    try clear p28
                                    try clear q28
                                    try clear hx28
                                    try clear c29
                                    try clear c29b0
                                    try clear hcz28_0
                                    try clear hcz28_1
                                    try clear hcz28_2
                                    try clear hfz28_0
                                    try clear hfz28_1
                                    try clear hfz28_2
                                    try clear hx269_0
                                    try clear hx269_1
                                    try clear hx269_2
                                    try clear hx270_0
                                    try clear hx270_1
                                    try clear hx270_2
                                    try clear hx271_0
                                    try clear hx271_1
                                    try clear hx271_2
                                    try clear hx272_0
                                    try clear hx272_1
                                    try clear hx272_2
                                    try clear hx273_0
                                    try clear hx273_1
                                    try clear hx273_2
                                    try clear hx274_0
                                    try clear hx274_1
                                    try clear hx274_2
                                    try clear hx275_0
                                    try clear hx275_1
                                    try clear hx275_2
                                    try clear hx276_0
                                    try clear hx276_1
                                    try clear hx276_2
                                    try clear hx277_0
                                    try clear hx277_1
                                    try clear hx277_2
                                    try clear hx278_0
                                    try clear hx278_1
                                    try clear hx278_2
                                    try clear hx279_0
                                    try clear hx279_1
                                    try clear hx279_2
                                    try clear hx280_0
                                    try clear hx280_1
                                    try clear hx280_2
                                    try clear p2
                                    try clear p26
                                    try clear p269
                                    try clear p27
                                    try clear p270
                                    try clear p271
                                    try clear p272
                                    try clear p273
                                    try clear p274
                                    try clear p275
                                    try clear p276
                                    try clear p277
                                    try clear p278
                                    try clear p279
                                    try clear p28
                                    try clear p280
                                    try clear p6
                                    try clear q2
                                    try clear q26
                                    try clear q269
                                    try clear q27
                                    try clear q270
                                    try clear q271
                                    try clear q272
                                    try clear q273
                                    try clear q274
                                    try clear q275
                                    try clear q276
                                    try clear q277
                                    try clear q278
                                    try clear q279
                                    try clear q28
                                    try clear q280
                                    obtain ⟨x17_7, x19_7, x285000_7, x285001_7, x285002_7, rfl, rfl, HA, HK7, HO_9, HO_10, BK284, HB⟩ := hrel
                                    cases gk with
                                    | zero => exact absurd HA.out (by simp [barquelaw19_merged.l6])
                                    | succ k7 =>
                                      have H := HA.out
                                      clear HA
                                      simp only [barquelaw19_merged.l6] at H
                                      by_cases c30 : 0 ≤ x18_6
                                      · rw [if_pos c30] at H
                                        have c30b0 : decide (0 ≤ x18_6) = true := decide_eq_true c30
                                        clear c30
                                        by_cases c31 : x18_6 < (l0.length : Int)
                                        · rw [if_pos c31] at H
                                          have c31b0 : decide (x18_6 < (l0.length : Int)) = true := decide_eq_true c31
                                          clear c31
                                          by_cases c32 : x19_7 < (((rd_T44 l0 x18_6).f2).length : Int)
                                          · rw [if_pos c32] at H
                                            have c32b0 : decide (x19_7 < (((rd_T44 l0 x18_6).f2).length : Int)) = true := decide_eq_true c32
                                            clear c32
                                            by_cases c33 : 0 ≤ x19_7
                                            · rw [if_pos c33] at H
                                              have c33b0 : decide (0 ≤ x19_7) = true := decide_eq_true c33
                                              clear c33
                                              by_cases c34 : ((rd_T50 ((rd_T44 l0 x18_6).f2) x19_7).f0) = x15_5
                                              · rw [if_pos c34] at H
                                                have c34b0 : (((rd_T50 ((rd_T44 l0 x18_6).f2) x19_7).f0) == x15_5) = true := beq_iff_eq.mpr c34
                                                have c34b1 : (((rd_T50 ((rd_T44 l0 x18_6).f2) x19_7).f0) != x15_5) = false := bne_eq_false_iff_eq.mpr c34
                                                clear c34
                                                by_cases c35 : x17_7 = true
                                                · subst c35
                                                  have H1 : (if ((rd_T50 ((rd_T44 l0 x18_6).f2) x19_7).f1) > x285001_7 then (barquelaw19_merged.l6 k7 l0 x6_6 x7_1 x9_3 x10_5 x15_5 true x18_6 (wrap64 (x19_7 + 1)) ((rd_T50 ((rd_T44 l0 x18_6).f2) x19_7).f0) ((rd_T50 ((rd_T44 l0 x18_6).f2) x19_7).f1) ((rd_T50 ((rd_T44 l0 x18_6).f2) x19_7).f2)) else (barquelaw19_merged.l6 k7 l0 x6_6 x7_1 x9_3 x10_5 x15_5 true x18_6 (wrap64 (x19_7 + 1)) x285000_7 x285001_7 x285002_7)) = some (r1, r2, r3, r4) := by rw [if_pos rfl] at H; exact H
                                                  clear H
                                                  have H := H1
                                                  clear H1
                                                  by_cases c36 : ((rd_T50 ((rd_T44 l0 x18_6).f2) x19_7).f1) > x285001_7
                                                  · rw [if_pos c36] at H
                                                    have c36b0 : decide (x285001_7 < ((rd_T50 ((rd_T44 l0 x18_6).f2) x19_7).f1)) = true := decide_eq_true c36
                                                    clear c36
                                                    have H' := Aside0.mk H
                                                    clear H
                                                    have p288 : 0 ≤ (x18_6 : Int) := of_decide_eq_true (by first | (with_reducible assumption) | assumption)
                                                    have q288 : x18_6 < (l0.length : Int) := of_decide_eq_true (by first | (with_reducible assumption) | assumption)
                                                    obtain ⟨ad288, A288_2, c288_2, e288, hx288_0, hx288_1, hx288_2, hl288_2, hi288_2⟩ := at_T44 HR0.out x18_6 p288 q288
                                                    cases e288
                                                    replace hx288_0 := (HB.out.cell (World.block_lt_of_cell? w _ hx288_0)).trans hx288_0
                                                    replace hx288_1 := (HB.out.cell (World.block_lt_of_cell? w _ hx288_1)).trans hx288_1
                                                    replace hx288_2 := (HB.out.cell (World.block_lt_of_cell? w _ hx288_2)).trans hx288_2
                                                    have HR288_2 := Aside0.mk hi288_2
                                                    have HC288_2 := Aside0.mk hl288_2
                                                    clear hi288_2 hl288_2
                                                    replace p288 := eq_true p288
                                                    replace q288 := eq_true q288
                                                    have p289 : 0 ≤ (x18_6 : Int) := of_decide_eq_true (by first | (with_reducible assumption) | assumption)
                                                    have q289 : x18_6 < (l0.length : Int) := of_decide_eq_true (by first | (with_reducible assumption) | assumption)
                                                    obtain ⟨ad289, A289_2, c289_2, e289, hx289_0, hx289_1, hx289_2, hl289_2, hi289_2⟩ := at_T44 HR0.out x18_6 p289 q289
                                                    obtain rfl : ad288 = ad289 := (by injection e289)
                                                    replace hx289_0 := (HB.out.cell (World.block_lt_of_cell? w _ hx289_0)).trans hx289_0
                                                    replace hx289_1 := (HB.out.cell (World.block_lt_of_cell? w _ hx289_1)).trans hx289_1
                                                    replace hx289_2 := (HB.out.cell (World.block_lt_of_cell? w _ hx289_2)).trans hx289_2
                                                    have HR289_2 := Aside0.mk hi289_2
                                                    have HC289_2 := Aside0.mk hl289_2
                                                    clear hi289_2 hl289_2
                                                    replace p289 := eq_true p289
                                                    replace q289 := eq_true q289
                                                    have ea_ := Option.some.inj (hx288_2.symm.trans hx289_2)
                                                    injection ea_ with ea_ en_ ec_
                                                    subst ea_
                                                    subst ec_
                                                    clear en_
                                                    have p290 : 0 ≤ (x19_7 : Int) := of_decide_eq_true (by first | (with_reducible assumption) | assumption)
                                                    have q290 : x19_7 < (((rd_T44 l0 x18_6).f2).length : Int) := of_decide_eq_true (by first | (with_reducible assumption) | assumption)
                                                    obtain ⟨ad290, e290, hx290_0, hx290_1, hx290_2⟩ := at_T50 HR289_2.out x19_7 p290 q290
                                                    cases e290
                                                    replace hx290_0 := (HB.out.cell (World.block_lt_of_cell? w _ hx290_0)).trans hx290_0
                                                    replace hx290_1 := (HB.out.cell (World.block_lt_of_cell? w _ hx290_1)).trans hx290_1
                                                    replace hx290_2 := (HB.out.cell (World.block_lt_of_cell? w _ hx290_2)).trans hx290_2
                                                    replace p290 := eq_true p290
                                                    replace q290 := eq_true q290
                                                    go_wp2_with (first | ((with_reducible refine gate_dst (N := 20) rfl ?_); refine box_event ?hg (N := 20) ?hd (cs := #[.int .i64 0, .int .i64 0, .string (⟨#[]⟩ : ByteArray)]) (t := 50) ?hr ?_; (case hd => rfl); (case hg => rfl); (case hr => first | (go_simp; done) | (go_simp; rfl)); intro gb291 hg w37 hbox hb; have n0_ := Aside0.mk (Kd.R_below (Kd.R_elderB (by (with_reducible repeat (first | apply Kd.R_alloc | apply Kd.R_drewN | apply Kd.R_drew)); exact HO_9.out) gb291 (Nat.le_of_eq hg.symm)) hb); have n1_ := Aside0.mk (Kd.R_below (Kd.R_elderB (by (with_reducible repeat (first | apply Kd.R_alloc | apply Kd.R_drewN | apply Kd.R_drew)); exact HO_10.out) gb291 (Nat.le_of_eq hg.symm)) hb); have n2_ := Aside0.mk (blk_below (g := gb284) (o := .cells #[.int .i64 x285000_7, .int .i64 x285001_7, .string x285002_7] 50 (0, 0)) (by (with_reducible repeat (first | refine blk_drewN ?_ _ | refine blk_drew ?_ | refine blk_alloc ?_ _)); exact BK284.out) hb); have n3_ := Aside0.mk (below_step (by repeat (first | (with_reducible first | exact HB.out | apply below_alloc | apply pw_below_drewN | apply below_drew1 | refine below_set ?_ GE284.out) | exact HB.out)) hb); have n4_ := Aside0.mk (hbox); have n5_ := Aside0.mk ((by rw [hg]; exact (below_size (by repeat (first | (with_reducible first | exact HB.out | apply below_alloc | apply pw_below_drewN | apply below_drew1 | refine below_set ?_ GE284.out) | exact HB.out))) : w.heap.size ≤ gb291)); have n6_ := Aside0.mk ((by rw [hg]; exact (below_size (by repeat (first | (with_reducible first | exact HB.out | apply below_alloc | apply pw_below_drewN | apply below_drew1 | refine below_set ?_ GE284.out) | exact HB.out))) : w.heap.size ≤ gb291)); have n7_ := Aside0.mk ((by rw [hg]; exact Nat.ne_of_lt (blk_lt (g := gb284) (o := .cells #[.int .i64 x285000_7, .int .i64 x285001_7, .string x285002_7] 50 (0, 0)) (by (with_reducible repeat (first | refine blk_drewN ?_ _ | refine blk_drew ?_ | refine blk_alloc ?_ _)); exact BK284.out)) : gb284 ≠ gb291)); have n8_ := Aside0.mk ((by rw [hg]; exact Nat.ne_of_gt (blk_lt (g := gb284) (o := .cells #[.int .i64 x285000_7, .int .i64 x285001_7, .string x285002_7] 50 (0, 0)) (by (with_reducible repeat (first | refine blk_drewN ?_ _ | refine blk_drew ?_ | refine blk_alloc ?_ _)); exact BK284.out)) : gb291 ≠ gb284)); clear HO_9; clear HO_10; clear BK284; clear HB; have HO_9 := n0_; have HO_10 := n1_; have BK284 := n2_; have HB := n3_; have BK291 := n4_; have GW291 := n5_; have GE291 := n6_; have NB284_291 := n7_; have NB291_284 := n8_; clear n0_ n1_ n2_ n3_ n4_ n5_ n6_ n7_ n8_; clear hb hbox hg; have hnb38 := NB291_284.out; have hnc38 := NB284_291.out; have hcz39_0 : w37.cell? ⟨gb291, 0, none⟩ = some (.int .i64 0) := (blk_cell BK291.out 0).trans rfl; have hcz39_1 : w37.cell? ⟨gb291, 1, none⟩ = some (.int .i64 0) := (blk_cell BK291.out 1).trans rfl; have hcz39_2 : w37.cell? ⟨gb291, 2, none⟩ = some (.string (⟨#[]⟩ : ByteArray)) := (blk_cell BK291.out 2).trans rfl; have hfz39_0 := blk_frozen BK291.out 0; have hfz39_1 := blk_frozen BK291.out 1; have hfz39_2 := blk_frozen BK291.out 2; have hcz40_0 : w37.cell? ⟨gb284, 0, none⟩ = some (.int .i64 x285000_7) := (blk_cell BK284.out 0).trans rfl; have hcz40_1 : w37.cell? ⟨gb284, 1, none⟩ = some (.int .i64 x285001_7) := (blk_cell BK284.out 1).trans rfl; have hcz40_2 : w37.cell? ⟨gb284, 2, none⟩ = some (.string x285002_7) := (blk_cell BK284.out 2).trans rfl; have hfz40_0 := blk_frozen BK284.out 0; have hfz40_1 := blk_frozen BK284.out 1; have hfz40_2 := blk_frozen BK284.out 2))
                                                    go_roundg k7
                                                    case measure => have := HK1.out; have := HJ6.out; have := HK3.out; have := HJ8.out; have := HK5.out; have := HK6.out; have := HK7.out; omega
                                                    case rel => exact ⟨(true), (wrap64 (x19_7 + 1)), ((rd_T50 ((rd_T44 l0 x18_6).f2) x19_7).f0), ((rd_T50 ((rd_T44 l0 x18_6).f2) x19_7).f1), ((rd_T50 ((rd_T44 l0 x18_6).f2) x19_7).f2), (by first | rfl | (simp; done) | (simp [*]; done)), (by first | rfl | (simp; done) | (simp [*]; done)), H', ⟨by have := HK1.out; have := HJ6.out; have := HK3.out; have := HJ8.out; have := HK5.out; have := HK6.out; have := HK7.out; omega⟩, ⟨by (with_reducible repeat (first | apply Kd.R_alloc | apply Kd.R_drewN | apply Kd.R_drew)); exact Kd.R_mono (Kd.R_far (p := ⟨gb284, 2, none⟩) (Kd.R_far (p := ⟨gb284, 1, none⟩) (Kd.R_far (p := ⟨gb284, 0, none⟩) (Kd.R_far (p := ⟨gb291, 2, none⟩) (Kd.R_far (p := ⟨gb291, 1, none⟩) (Kd.R_far (p := ⟨gb291, 0, none⟩) (Kd.R_mono (Kd.R_mono HO_9.out (fun k_ hk => (⟨hk, hk.2⟩ : _ ∧ k_ ≠ gb291))) (fun k_ hk => (⟨hk, hk.1.1.2⟩ : _ ∧ k_ ≠ gb284))) (fun _ hk => hk.1.2) (.int .i64 ((rd_T50 ((rd_T44 l0 x18_6).f2) x19_7).f0))) (fun _ hk => hk.1.2) (.int .i64 ((rd_T50 ((rd_T44 l0 x18_6).f2) x19_7).f1))) (fun _ hk => hk.1.2) (.string ((rd_T50 ((rd_T44 l0 x18_6).f2) x19_7).f2))) (fun _ hk => hk.2) (.int .i64 ((rd_T50 ((rd_T44 l0 x18_6).f2) x19_7).f0))) (fun _ hk => hk.2) (.int .i64 ((rd_T50 ((rd_T44 l0 x18_6).f2) x19_7).f1))) (fun _ hk => hk.2) (.string ((rd_T50 ((rd_T44 l0 x18_6).f2) x19_7).f2))) (fun _ hk => ⟨hk.1.1.1.1, hk.1.1.1.2⟩)⟩, ⟨by (with_reducible repeat (first | apply Kd.R_alloc | apply Kd.R_drewN | apply Kd.R_drew)); exact Kd.R_mono (Kd.R_far (p := ⟨gb284, 2, none⟩) (Kd.R_far (p := ⟨gb284, 1, none⟩) (Kd.R_far (p := ⟨gb284, 0, none⟩) (Kd.R_far (p := ⟨gb291, 2, none⟩) (Kd.R_far (p := ⟨gb291, 1, none⟩) (Kd.R_far (p := ⟨gb291, 0, none⟩) (Kd.R_mono (Kd.R_mono HO_10.out (fun k_ hk => (⟨hk, hk.2⟩ : _ ∧ k_ ≠ gb291))) (fun k_ hk => (⟨hk, hk.1.1.2⟩ : _ ∧ k_ ≠ gb284))) (fun _ hk => hk.1.2) (.int .i64 ((rd_T50 ((rd_T44 l0 x18_6).f2) x19_7).f0))) (fun _ hk => hk.1.2) (.int .i64 ((rd_T50 ((rd_T44 l0 x18_6).f2) x19_7).f1))) (fun _ hk => hk.1.2) (.string ((rd_T50 ((rd_T44 l0 x18_6).f2) x19_7).f2))) (fun _ hk => hk.2) (.int .i64 ((rd_T50 ((rd_T44 l0 x18_6).f2) x19_7).f0))) (fun _ hk => hk.2) (.int .i64 ((rd_T50 ((rd_T44 l0 x18_6).f2) x19_7).f1))) (fun _ hk => hk.2) (.string ((rd_T50 ((rd_T44 l0 x18_6).f2) x19_7).f2))) (fun _ hk => ⟨hk.1.1.1.1, hk.1.1.1.2⟩)⟩, ⟨by (with_reducible repeat (first | refine blk_drewN ?_ _ | refine blk_drew ?_ | refine blk_alloc ?_ _)); refine blk_put (cs := #[.int .i64 ((rd_T50 ((rd_T44 l0 x18_6).f2) x19_7).f0), .int .i64 ((rd_T50 ((rd_T44 l0 x18_6).f2) x19_7).f1), .string x285002_7]) ?_ 2 _ rfl; (with_reducible repeat (first | refine blk_drewN ?_ _ | refine blk_drew ?_ | refine blk_alloc ?_ _)); refine blk_put (cs := #[.int .i64 ((rd_T50 ((rd_T44 l0 x18_6).f2) x19_7).f0), .int .i64 x285001_7, .string x285002_7]) ?_ 1 _ rfl; (with_reducible repeat (first | refine blk_drewN ?_ _ | refine blk_drew ?_ | refine blk_alloc ?_ _)); refine blk_put (cs := #[.int .i64 x285000_7, .int .i64 x285001_7, .string x285002_7]) ?_ 0 _ rfl; (with_reducible repeat (first | refine blk_drewN ?_ _ | refine blk_drew ?_ | refine blk_alloc ?_ _)); refine blk_far ?_ NB284_291.out _; (with_reducible repeat (first | refine blk_drewN ?_ _ | refine blk_drew ?_ | refine blk_alloc ?_ _)); refine blk_far ?_ NB284_291.out _; (with_reducible repeat (first | refine blk_drewN ?_ _ | refine blk_drew ?_ | refine blk_alloc ?_ _)); refine blk_far ?_ NB284_291.out _; (with_reducible repeat (first | refine blk_drewN ?_ _ | refine blk_drew ?_ | refine blk_alloc ?_ _)); exact BK284.out⟩, ⟨by repeat (first | (with_reducible first | exact HB.out | apply below_alloc | apply pw_below_drewN | apply below_drew1 | refine below_set ?_ GE284.out | refine below_set ?_ GE291.out) | exact HB.out)⟩⟩
                                                  · rw [if_neg c36] at H
                                                    have c36b0 : decide (x285001_7 < ((rd_T50 ((rd_T44 l0 x18_6).f2) x19_7).f1)) = false := decide_eq_false c36
                                                    clear c36
                                                    have H' := Aside0.mk H
                                                    clear H
                                                    have p288 : 0 ≤ (x18_6 : Int) := of_decide_eq_true (by first | (with_reducible assumption) | assumption)
                                                    have q288 : x18_6 < (l0.length : Int) := of_decide_eq_true (by first | (with_reducible assumption) | assumption)
                                                    obtain ⟨ad288, A288_2, c288_2, e288, hx288_0, hx288_1, hx288_2, hl288_2, hi288_2⟩ := at_T44 HR0.out x18_6 p288 q288
                                                    cases e288
                                                    replace hx288_0 := (HB.out.cell (World.block_lt_of_cell? w _ hx288_0)).trans hx288_0
                                                    replace hx288_1 := (HB.out.cell (World.block_lt_of_cell? w _ hx288_1)).trans hx288_1
                                                    replace hx288_2 := (HB.out.cell (World.block_lt_of_cell? w _ hx288_2)).trans hx288_2
                                                    have HR288_2 := Aside0.mk hi288_2
                                                    have HC288_2 := Aside0.mk hl288_2
                                                    clear hi288_2 hl288_2
                                                    replace p288 := eq_true p288
                                                    replace q288 := eq_true q288
                                                    have p289 : 0 ≤ (x18_6 : Int) := of_decide_eq_true (by first | (with_reducible assumption) | assumption)
                                                    have q289 : x18_6 < (l0.length : Int) := of_decide_eq_true (by first | (with_reducible assumption) | assumption)
                                                    obtain ⟨ad289, A289_2, c289_2, e289, hx289_0, hx289_1, hx289_2, hl289_2, hi289_2⟩ := at_T44 HR0.out x18_6 p289 q289
                                                    obtain rfl : ad288 = ad289 := (by injection e289)
                                                    replace hx289_0 := (HB.out.cell (World.block_lt_of_cell? w _ hx289_0)).trans hx289_0
                                                    replace hx289_1 := (HB.out.cell (World.block_lt_of_cell? w _ hx289_1)).trans hx289_1
                                                    replace hx289_2 := (HB.out.cell (World.block_lt_of_cell? w _ hx289_2)).trans hx289_2
                                                    have HR289_2 := Aside0.mk hi289_2
                                                    have HC289_2 := Aside0.mk hl289_2
                                                    clear hi289_2 hl289_2
                                                    replace p289 := eq_true p289
                                                    replace q289 := eq_true q289
                                                    have ea_ := Option.some.inj (hx288_2.symm.trans hx289_2)
                                                    injection ea_ with ea_ en_ ec_
                                                    subst ea_
                                                    subst ec_
                                                    clear en_
                                                    have p290 : 0 ≤ (x19_7 : Int) := of_decide_eq_true (by first | (with_reducible assumption) | assumption)
                                                    have q290 : x19_7 < (((rd_T44 l0 x18_6).f2).length : Int) := of_decide_eq_true (by first | (with_reducible assumption) | assumption)
                                                    obtain ⟨ad290, e290, hx290_0, hx290_1, hx290_2⟩ := at_T50 HR289_2.out x19_7 p290 q290
                                                    cases e290
                                                    replace hx290_0 := (HB.out.cell (World.block_lt_of_cell? w _ hx290_0)).trans hx290_0
                                                    replace hx290_1 := (HB.out.cell (World.block_lt_of_cell? w _ hx290_1)).trans hx290_1
                                                    replace hx290_2 := (HB.out.cell (World.block_lt_of_cell? w _ hx290_2)).trans hx290_2
                                                    replace p290 := eq_true p290
                                                    replace q290 := eq_true q290
                                                    go_wp2_with (first | ((with_reducible refine gate_dst (N := 20) rfl ?_); refine box_event ?hg (N := 20) ?hd (cs := #[.int .i64 0, .int .i64 0, .string (⟨#[]⟩ : ByteArray)]) (t := 50) ?hr ?_; (case hd => rfl); (case hg => rfl); (case hr => first | (go_simp; done) | (go_simp; rfl)); intro gb291 hg w41 hbox hb; have n0_ := Aside0.mk (Kd.R_below (Kd.R_elderB (by (with_reducible repeat (first | apply Kd.R_alloc | apply Kd.R_drewN | apply Kd.R_drew)); exact HO_9.out) gb291 (Nat.le_of_eq hg.symm)) hb); have n1_ := Aside0.mk (Kd.R_below (Kd.R_elderB (by (with_reducible repeat (first | apply Kd.R_alloc | apply Kd.R_drewN | apply Kd.R_drew)); exact HO_10.out) gb291 (Nat.le_of_eq hg.symm)) hb); have n2_ := Aside0.mk (blk_below (g := gb284) (o := .cells #[.int .i64 x285000_7, .int .i64 x285001_7, .string x285002_7] 50 (0, 0)) (by (with_reducible repeat (first | refine blk_drewN ?_ _ | refine blk_drew ?_ | refine blk_alloc ?_ _)); exact BK284.out) hb); have n3_ := Aside0.mk (below_step (by repeat (first | (with_reducible first | exact HB.out | apply below_alloc | apply pw_below_drewN | apply below_drew1 | refine below_set ?_ GE284.out) | exact HB.out)) hb); have n4_ := Aside0.mk (hbox); have n5_ := Aside0.mk ((by rw [hg]; exact (below_size (by repeat (first | (with_reducible first | exact HB.out | apply below_alloc | apply pw_below_drewN | apply below_drew1 | refine below_set ?_ GE284.out) | exact HB.out))) : w.heap.size ≤ gb291)); have n6_ := Aside0.mk ((by rw [hg]; exact (below_size (by repeat (first | (with_reducible first | exact HB.out | apply below_alloc | apply pw_below_drewN | apply below_drew1 | refine below_set ?_ GE284.out) | exact HB.out))) : w.heap.size ≤ gb291)); have n7_ := Aside0.mk ((by rw [hg]; exact Nat.ne_of_lt (blk_lt (g := gb284) (o := .cells #[.int .i64 x285000_7, .int .i64 x285001_7, .string x285002_7] 50 (0, 0)) (by (with_reducible repeat (first | refine blk_drewN ?_ _ | refine blk_drew ?_ | refine blk_alloc ?_ _)); exact BK284.out)) : gb284 ≠ gb291)); have n8_ := Aside0.mk ((by rw [hg]; exact Nat.ne_of_gt (blk_lt (g := gb284) (o := .cells #[.int .i64 x285000_7, .int .i64 x285001_7, .string x285002_7] 50 (0, 0)) (by (with_reducible repeat (first | refine blk_drewN ?_ _ | refine blk_drew ?_ | refine blk_alloc ?_ _)); exact BK284.out)) : gb291 ≠ gb284)); clear HO_9; clear HO_10; clear BK284; clear HB; have HO_9 := n0_; have HO_10 := n1_; have BK284 := n2_; have HB := n3_; have BK291 := n4_; have GW291 := n5_; have GE291 := n6_; have NB284_291 := n7_; have NB291_284 := n8_; clear n0_ n1_ n2_ n3_ n4_ n5_ n6_ n7_ n8_; clear hb hbox hg; have hnb42 := NB291_284.out; have hnc42 := NB284_291.out; have hcz43_0 : w41.cell? ⟨gb291, 0, none⟩ = some (.int .i64 0) := (blk_cell BK291.out 0).trans rfl; have hcz43_1 : w41.cell? ⟨gb291, 1, none⟩ = some (.int .i64 0) := (blk_cell BK291.out 1).trans rfl; have hcz43_2 : w41.cell? ⟨gb291, 2, none⟩ = some (.string (⟨#[]⟩ : ByteArray)) := (blk_cell BK291.out 2).trans rfl; have hfz43_0 := blk_frozen BK291.out 0; have hfz43_1 := blk_frozen BK291.out 1; have hfz43_2 := blk_frozen BK291.out 2; have hcz44_0 : w41.cell? ⟨gb284, 0, none⟩ = some (.int .i64 x285000_7) := (blk_cell BK284.out 0).trans rfl; have hcz44_1 : w41.cell? ⟨gb284, 1, none⟩ = some (.int .i64 x285001_7) := (blk_cell BK284.out 1).trans rfl; have hcz44_2 : w41.cell? ⟨gb284, 2, none⟩ = some (.string x285002_7) := (blk_cell BK284.out 2).trans rfl; have hfz44_0 := blk_frozen BK284.out 0; have hfz44_1 := blk_frozen BK284.out 1; have hfz44_2 := blk_frozen BK284.out 2))
                                                    go_roundg k7
                                                    case measure => have := HK1.out; have := HJ6.out; have := HK3.out; have := HJ8.out; have := HK5.out; have := HK6.out; have := HK7.out; omega
                                                    case rel => exact ⟨(true), (wrap64 (x19_7 + 1)), (x285000_7), (x285001_7), (x285002_7), (by first | rfl | (simp; done) | (simp [*]; done)), (by first | rfl | (simp; done) | (simp [*]; done)), H', ⟨by have := HK1.out; have := HJ6.out; have := HK3.out; have := HJ8.out; have := HK5.out; have := HK6.out; have := HK7.out; omega⟩, ⟨by (with_reducible repeat (first | apply Kd.R_alloc | apply Kd.R_drewN | apply Kd.R_drew)); exact Kd.R_mono (Kd.R_far (p := ⟨gb291, 2, none⟩) (Kd.R_far (p := ⟨gb291, 1, none⟩) (Kd.R_far (p := ⟨gb291, 0, none⟩) (Kd.R_mono HO_9.out (fun k_ hk => (⟨hk, hk.2⟩ : _ ∧ k_ ≠ gb291))) (fun _ hk => hk.2) (.int .i64 ((rd_T50 ((rd_T44 l0 x18_6).f2) x19_7).f0))) (fun _ hk => hk.2) (.int .i64 ((rd_T50 ((rd_T44 l0 x18_6).f2) x19_7).f1))) (fun _ hk => hk.2) (.string ((rd_T50 ((rd_T44 l0 x18_6).f2) x19_7).f2))) (fun _ hk => ⟨hk.1.1.1, hk.1.1.2⟩)⟩, ⟨by (with_reducible repeat (first | apply Kd.R_alloc | apply Kd.R_drewN | apply Kd.R_drew)); exact Kd.R_mono (Kd.R_far (p := ⟨gb291, 2, none⟩) (Kd.R_far (p := ⟨gb291, 1, none⟩) (Kd.R_far (p := ⟨gb291, 0, none⟩) (Kd.R_mono HO_10.out (fun k_ hk => (⟨hk, hk.2⟩ : _ ∧ k_ ≠ gb291))) (fun _ hk => hk.2) (.int .i64 ((rd_T50 ((rd_T44 l0 x18_6).f2) x19_7).f0))) (fun _ hk => hk.2) (.int .i64 ((rd_T50 ((rd_T44 l0 x18_6).f2) x19_7).f1))) (fun _ hk => hk.2) (.string ((rd_T50 ((rd_T44 l0 x18_6).f2) x19_7).f2))) (fun _ hk => ⟨hk.1.1.1, hk.1.1.2⟩)⟩, ⟨by (with_reducible repeat (first | refine blk_drewN ?_ _ | refine blk_drew ?_ | refine blk_alloc ?_ _)); refine blk_far ?_ NB284_291.out _; (with_reducible repeat (first | refine blk_drewN ?_ _ | refine blk_drew ?_ | refine blk_alloc ?_ _)); refine blk_far ?_ NB284_291.out _; (with_reducible repeat (first | refine blk_drewN ?_ _ | refine blk_drew ?_ | refine blk_alloc ?_ _)); refine blk_far ?_ NB284_291.out _; (with_reducible repeat (first | refine blk_drewN ?_ _ | refine blk_drew ?_ | refine blk_alloc ?_ _)); exact BK284.out⟩, ⟨by repeat (first | (with_reducible first | exact HB.out | apply below_alloc | apply pw_below_drewN | apply below_drew1 | refine below_set ?_ GE284.out | refine below_set ?_ GE291.out) | exact HB.out)⟩⟩
                                                · replace c35 := Bool.eq_false_iff.mpr c35
                                                  subst c35
                                                  have H1 : (barquelaw19_merged.l6 k7 l0 x6_6 x7_1 x9_3 x10_5 x15_5 true x18_6 (wrap64 (x19_7 + 1)) ((rd_T50 ((rd_T44 l0 x18_6).f2) x19_7).f0) ((rd_T50 ((rd_T44 l0 x18_6).f2) x19_7).f1) ((rd_T50 ((rd_T44 l0 x18_6).f2) x19_7).f2)) = some (r1, r2, r3, r4) := by rw [if_neg (show ¬ (false = true) by decide)] at H; exact H
                                                  clear H
                                                  have H := H1
                                                  clear H1
                                                  have H' := Aside0.mk H
                                                  clear H
                                                  have p288 : 0 ≤ (x18_6 : Int) := of_decide_eq_true (by first | (with_reducible assumption) | assumption)
                                                  have q288 : x18_6 < (l0.length : Int) := of_decide_eq_true (by first | (with_reducible assumption) | assumption)
                                                  obtain ⟨ad288, A288_2, c288_2, e288, hx288_0, hx288_1, hx288_2, hl288_2, hi288_2⟩ := at_T44 HR0.out x18_6 p288 q288
                                                  cases e288
                                                  replace hx288_0 := (HB.out.cell (World.block_lt_of_cell? w _ hx288_0)).trans hx288_0
                                                  replace hx288_1 := (HB.out.cell (World.block_lt_of_cell? w _ hx288_1)).trans hx288_1
                                                  replace hx288_2 := (HB.out.cell (World.block_lt_of_cell? w _ hx288_2)).trans hx288_2
                                                  have HR288_2 := Aside0.mk hi288_2
                                                  have HC288_2 := Aside0.mk hl288_2
                                                  clear hi288_2 hl288_2
                                                  replace p288 := eq_true p288
                                                  replace q288 := eq_true q288
                                                  have p289 : 0 ≤ (x18_6 : Int) := of_decide_eq_true (by first | (with_reducible assumption) | assumption)
                                                  have q289 : x18_6 < (l0.length : Int) := of_decide_eq_true (by first | (with_reducible assumption) | assumption)
                                                  obtain ⟨ad289, A289_2, c289_2, e289, hx289_0, hx289_1, hx289_2, hl289_2, hi289_2⟩ := at_T44 HR0.out x18_6 p289 q289
                                                  obtain rfl : ad288 = ad289 := (by injection e289)
                                                  replace hx289_0 := (HB.out.cell (World.block_lt_of_cell? w _ hx289_0)).trans hx289_0
                                                  replace hx289_1 := (HB.out.cell (World.block_lt_of_cell? w _ hx289_1)).trans hx289_1
                                                  replace hx289_2 := (HB.out.cell (World.block_lt_of_cell? w _ hx289_2)).trans hx289_2
                                                  have HR289_2 := Aside0.mk hi289_2
                                                  have HC289_2 := Aside0.mk hl289_2
                                                  clear hi289_2 hl289_2
                                                  replace p289 := eq_true p289
                                                  replace q289 := eq_true q289
                                                  have ea_ := Option.some.inj (hx288_2.symm.trans hx289_2)
                                                  injection ea_ with ea_ en_ ec_
                                                  subst ea_
                                                  subst ec_
                                                  clear en_
                                                  have p290 : 0 ≤ (x19_7 : Int) := of_decide_eq_true (by first | (with_reducible assumption) | assumption)
                                                  have q290 : x19_7 < (((rd_T44 l0 x18_6).f2).length : Int) := of_decide_eq_true (by first | (with_reducible assumption) | assumption)
                                                  obtain ⟨ad290, e290, hx290_0, hx290_1, hx290_2⟩ := at_T50 HR289_2.out x19_7 p290 q290
                                                  cases e290
                                                  replace hx290_0 := (HB.out.cell (World.block_lt_of_cell? w _ hx290_0)).trans hx290_0
                                                  replace hx290_1 := (HB.out.cell (World.block_lt_of_cell? w _ hx290_1)).trans hx290_1
                                                  replace hx290_2 := (HB.out.cell (World.block_lt_of_cell? w _ hx290_2)).trans hx290_2
                                                  replace p290 := eq_true p290
                                                  replace q290 := eq_true q290
                                                  go_wp2_with (first | ((with_reducible refine gate_dst (N := 20) rfl ?_); refine box_event ?hg (N := 20) ?hd (cs := #[.int .i64 0, .int .i64 0, .string (⟨#[]⟩ : ByteArray)]) (t := 50) ?hr ?_; (case hd => rfl); (case hg => rfl); (case hr => first | (go_simp; done) | (go_simp; rfl)); intro gb291 hg w45 hbox hb; have n0_ := Aside0.mk (Kd.R_below (Kd.R_elderB (by (with_reducible repeat (first | apply Kd.R_alloc | apply Kd.R_drewN | apply Kd.R_drew)); exact HO_9.out) gb291 (Nat.le_of_eq hg.symm)) hb); have n1_ := Aside0.mk (Kd.R_below (Kd.R_elderB (by (with_reducible repeat (first | apply Kd.R_alloc | apply Kd.R_drewN | apply Kd.R_drew)); exact HO_10.out) gb291 (Nat.le_of_eq hg.symm)) hb); have n2_ := Aside0.mk (blk_below (g := gb284) (o := .cells #[.int .i64 x285000_7, .int .i64 x285001_7, .string x285002_7] 50 (0, 0)) (by (with_reducible repeat (first | refine blk_drewN ?_ _ | refine blk_drew ?_ | refine blk_alloc ?_ _)); exact BK284.out) hb); have n3_ := Aside0.mk (below_step (by repeat (first | (with_reducible first | exact HB.out | apply below_alloc | apply pw_below_drewN | apply below_drew1 | refine below_set ?_ GE284.out) | exact HB.out)) hb); have n4_ := Aside0.mk (hbox); have n5_ := Aside0.mk ((by rw [hg]; exact (below_size (by repeat (first | (with_reducible first | exact HB.out | apply below_alloc | apply pw_below_drewN | apply below_drew1 | refine below_set ?_ GE284.out) | exact HB.out))) : w.heap.size ≤ gb291)); have n6_ := Aside0.mk ((by rw [hg]; exact (below_size (by repeat (first | (with_reducible first | exact HB.out | apply below_alloc | apply pw_below_drewN | apply below_drew1 | refine below_set ?_ GE284.out) | exact HB.out))) : w.heap.size ≤ gb291)); have n7_ := Aside0.mk ((by rw [hg]; exact Nat.ne_of_lt (blk_lt (g := gb284) (o := .cells #[.int .i64 x285000_7, .int .i64 x285001_7, .string x285002_7] 50 (0, 0)) (by (with_reducible repeat (first | refine blk_drewN ?_ _ | refine blk_drew ?_ | refine blk_alloc ?_ _)); exact BK284.out)) : gb284 ≠ gb291)); have n8_ := Aside0.mk ((by rw [hg]; exact Nat.ne_of_gt (blk_lt (g := gb284) (o := .cells #[.int .i64 x285000_7, .int .i64 x285001_7, .string x285002_7] 50 (0, 0)) (by (with_reducible repeat (first | refine blk_drewN ?_ _ | refine blk_drew ?_ | refine blk_alloc ?_ _)); exact BK284.out)) : gb291 ≠ gb284)); clear HO_9; clear HO_10; clear BK284; clear HB; have HO_9 := n0_; have HO_10 := n1_; have BK284 := n2_; have HB := n3_; have BK291 := n4_; have GW291 := n5_; have GE291 := n6_; have NB284_291 := n7_; have NB291_284 := n8_; clear n0_ n1_ n2_ n3_ n4_ n5_ n6_ n7_ n8_; clear hb hbox hg; have hnb46 := NB291_284.out; have hnc46 := NB284_291.out; have hcz47_0 : w45.cell? ⟨gb291, 0, none⟩ = some (.int .i64 0) := (blk_cell BK291.out 0).trans rfl; have hcz47_1 : w45.cell? ⟨gb291, 1, none⟩ = some (.int .i64 0) := (blk_cell BK291.out 1).trans rfl; have hcz47_2 : w45.cell? ⟨gb291, 2, none⟩ = some (.string (⟨#[]⟩ : ByteArray)) := (blk_cell BK291.out 2).trans rfl; have hfz47_0 := blk_frozen BK291.out 0; have hfz47_1 := blk_frozen BK291.out 1; have hfz47_2 := blk_frozen BK291.out 2; have hcz48_0 : w45.cell? ⟨gb284, 0, none⟩ = some (.int .i64 x285000_7) := (blk_cell BK284.out 0).trans rfl; have hcz48_1 : w45.cell? ⟨gb284, 1, none⟩ = some (.int .i64 x285001_7) := (blk_cell BK284.out 1).trans rfl; have hcz48_2 : w45.cell? ⟨gb284, 2, none⟩ = some (.string x285002_7) := (blk_cell BK284.out 2).trans rfl; have hfz48_0 := blk_frozen BK284.out 0; have hfz48_1 := blk_frozen BK284.out 1; have hfz48_2 := blk_frozen BK284.out 2))
                                                  go_roundg k7
                                                  case measure => have := HK1.out; have := HJ6.out; have := HK3.out; have := HJ8.out; have := HK5.out; have := HK6.out; have := HK7.out; omega
                                                  case rel => exact ⟨(true), (wrap64 (x19_7 + 1)), ((rd_T50 ((rd_T44 l0 x18_6).f2) x19_7).f0), ((rd_T50 ((rd_T44 l0 x18_6).f2) x19_7).f1), ((rd_T50 ((rd_T44 l0 x18_6).f2) x19_7).f2), (by first | rfl | (simp; done) | (simp [*]; done)), (by first | rfl | (simp; done) | (simp [*]; done)), H', ⟨by have := HK1.out; have := HJ6.out; have := HK3.out; have := HJ8.out; have := HK5.out; have := HK6.out; have := HK7.out; omega⟩, ⟨by (with_reducible repeat (first | apply Kd.R_alloc | apply Kd.R_drewN | apply Kd.R_drew)); exact Kd.R_mono (Kd.R_far (p := ⟨gb284, 2, none⟩) (Kd.R_far (p := ⟨gb284, 1, none⟩) (Kd.R_far (p := ⟨gb284, 0, none⟩) (Kd.R_far (p := ⟨gb291, 2, none⟩) (Kd.R_far (p := ⟨gb291, 1, none⟩) (Kd.R_far (p := ⟨gb291, 0, none⟩) (Kd.R_mono (Kd.R_mono HO_9.out (fun k_ hk => (⟨hk, hk.2⟩ : _ ∧ k_ ≠ gb291))) (fun k_ hk => (⟨hk, hk.1.1.2⟩ : _ ∧ k_ ≠ gb284))) (fun _ hk => hk.1.2) (.int .i64 ((rd_T50 ((rd_T44 l0 x18_6).f2) x19_7).f0))) (fun _ hk => hk.1.2) (.int .i64 ((rd_T50 ((rd_T44 l0 x18_6).f2) x19_7).f1))) (fun _ hk => hk.1.2) (.string ((rd_T50 ((rd_T44 l0 x18_6).f2) x19_7).f2))) (fun _ hk => hk.2) (.int .i64 ((rd_T50 ((rd_T44 l0 x18_6).f2) x19_7).f0))) (fun _ hk => hk.2) (.int .i64 ((rd_T50 ((rd_T44 l0 x18_6).f2) x19_7).f1))) (fun _ hk => hk.2) (.string ((rd_T50 ((rd_T44 l0 x18_6).f2) x19_7).f2))) (fun _ hk => ⟨hk.1.1.1.1, hk.1.1.1.2⟩)⟩, ⟨by (with_reducible repeat (first | apply Kd.R_alloc | apply Kd.R_drewN | apply Kd.R_drew)); exact Kd.R_mono (Kd.R_far (p := ⟨gb284, 2, none⟩) (Kd.R_far (p := ⟨gb284, 1, none⟩) (Kd.R_far (p := ⟨gb284, 0, none⟩) (Kd.R_far (p := ⟨gb291, 2, none⟩) (Kd.R_far (p := ⟨gb291, 1, none⟩) (Kd.R_far (p := ⟨gb291, 0, none⟩) (Kd.R_mono (Kd.R_mono HO_10.out (fun k_ hk => (⟨hk, hk.2⟩ : _ ∧ k_ ≠ gb291))) (fun k_ hk => (⟨hk, hk.1.1.2⟩ : _ ∧ k_ ≠ gb284))) (fun _ hk => hk.1.2) (.int .i64 ((rd_T50 ((rd_T44 l0 x18_6).f2) x19_7).f0))) (fun _ hk => hk.1.2) (.int .i64 ((rd_T50 ((rd_T44 l0 x18_6).f2) x19_7).f1))) (fun _ hk => hk.1.2) (.string ((rd_T50 ((rd_T44 l0 x18_6).f2) x19_7).f2))) (fun _ hk => hk.2) (.int .i64 ((rd_T50 ((rd_T44 l0 x18_6).f2) x19_7).f0))) (fun _ hk => hk.2) (.int .i64 ((rd_T50 ((rd_T44 l0 x18_6).f2) x19_7).f1))) (fun _ hk => hk.2) (.string ((rd_T50 ((rd_T44 l0 x18_6).f2) x19_7).f2))) (fun _ hk => ⟨hk.1.1.1.1, hk.1.1.1.2⟩)⟩, ⟨by (with_reducible repeat (first | refine blk_drewN ?_ _ | refine blk_drew ?_ | refine blk_alloc ?_ _)); refine blk_put (cs := #[.int .i64 ((rd_T50 ((rd_T44 l0 x18_6).f2) x19_7).f0), .int .i64 ((rd_T50 ((rd_T44 l0 x18_6).f2) x19_7).f1), .string x285002_7]) ?_ 2 _ rfl; (with_reducible repeat (first | refine blk_drewN ?_ _ | refine blk_drew ?_ | refine blk_alloc ?_ _)); refine blk_put (cs := #[.int .i64 ((rd_T50 ((rd_T44 l0 x18_6).f2) x19_7).f0), .int .i64 x285001_7, .string x285002_7]) ?_ 1 _ rfl; (with_reducible repeat (first | refine blk_drewN ?_ _ | refine blk_drew ?_ | refine blk_alloc ?_ _)); refine blk_put (cs := #[.int .i64 x285000_7, .int .i64 x285001_7, .string x285002_7]) ?_ 0 _ rfl; (with_reducible repeat (first | refine blk_drewN ?_ _ | refine blk_drew ?_ | refine blk_alloc ?_ _)); refine blk_far ?_ NB284_291.out _; (with_reducible repeat (first | refine blk_drewN ?_ _ | refine blk_drew ?_ | refine blk_alloc ?_ _)); refine blk_far ?_ NB284_291.out _; (with_reducible repeat (first | refine blk_drewN ?_ _ | refine blk_drew ?_ | refine blk_alloc ?_ _)); refine blk_far ?_ NB284_291.out _; (with_reducible repeat (first | refine blk_drewN ?_ _ | refine blk_drew ?_ | refine blk_alloc ?_ _)); exact BK284.out⟩, ⟨by repeat (first | (with_reducible first | exact HB.out | apply below_alloc | apply pw_below_drewN | apply below_drew1 | refine below_set ?_ GE284.out | refine below_set ?_ GE291.out) | exact HB.out)⟩⟩
                                              · rw [if_neg c34] at H
                                                have c34b0 : (((rd_T50 ((rd_T44 l0 x18_6).f2) x19_7).f0) == x15_5) = false := beq_eq_false_iff_ne.mpr c34
                                                have c34b1 : (((rd_T50 ((rd_T44 l0 x18_6).f2) x19_7).f0) != x15_5) = true := bne_iff_ne.mpr c34
                                                have H' := Aside0.mk H
                                                clear H
                                                have p288 : 0 ≤ (x18_6 : Int) := of_decide_eq_true (by first | (with_reducible assumption) | assumption)
                                                have q288 : x18_6 < (l0.length : Int) := of_decide_eq_true (by first | (with_reducible assumption) | assumption)
                                                obtain ⟨ad288, A288_2, c288_2, e288, hx288_0, hx288_1, hx288_2, hl288_2, hi288_2⟩ := at_T44 HR0.out x18_6 p288 q288
                                                cases e288
                                                replace hx288_0 := (HB.out.cell (World.block_lt_of_cell? w _ hx288_0)).trans hx288_0
                                                replace hx288_1 := (HB.out.cell (World.block_lt_of_cell? w _ hx288_1)).trans hx288_1
                                                replace hx288_2 := (HB.out.cell (World.block_lt_of_cell? w _ hx288_2)).trans hx288_2
                                                have HR288_2 := Aside0.mk hi288_2
                                                have HC288_2 := Aside0.mk hl288_2
                                                clear hi288_2 hl288_2
                                                replace p288 := eq_true p288
                                                replace q288 := eq_true q288
                                                have p289 : 0 ≤ (x18_6 : Int) := of_decide_eq_true (by first | (with_reducible assumption) | assumption)
                                                have q289 : x18_6 < (l0.length : Int) := of_decide_eq_true (by first | (with_reducible assumption) | assumption)
                                                obtain ⟨ad289, A289_2, c289_2, e289, hx289_0, hx289_1, hx289_2, hl289_2, hi289_2⟩ := at_T44 HR0.out x18_6 p289 q289
                                                obtain rfl : ad288 = ad289 := (by injection e289)
                                                replace hx289_0 := (HB.out.cell (World.block_lt_of_cell? w _ hx289_0)).trans hx289_0
                                                replace hx289_1 := (HB.out.cell (World.block_lt_of_cell? w _ hx289_1)).trans hx289_1
                                                replace hx289_2 := (HB.out.cell (World.block_lt_of_cell? w _ hx289_2)).trans hx289_2
                                                have HR289_2 := Aside0.mk hi289_2
                                                have HC289_2 := Aside0.mk hl289_2
                                                clear hi289_2 hl289_2
                                                replace p289 := eq_true p289
                                                replace q289 := eq_true q289
                                                have ea_ := Option.some.inj (hx288_2.symm.trans hx289_2)
                                                injection ea_ with ea_ en_ ec_
                                                subst ea_
                                                subst ec_
                                                clear en_
                                                have p290 : 0 ≤ (x19_7 : Int) := of_decide_eq_true (by first | (with_reducible assumption) | assumption)
                                                have q290 : x19_7 < (((rd_T44 l0 x18_6).f2).length : Int) := of_decide_eq_true (by first | (with_reducible assumption) | assumption)
                                                obtain ⟨ad290, e290, hx290_0, hx290_1, hx290_2⟩ := at_T50 HR289_2.out x19_7 p290 q290
                                                cases e290
                                                replace hx290_0 := (HB.out.cell (World.block_lt_of_cell? w _ hx290_0)).trans hx290_0
                                                replace hx290_1 := (HB.out.cell (World.block_lt_of_cell? w _ hx290_1)).trans hx290_1
                                                replace hx290_2 := (HB.out.cell (World.block_lt_of_cell? w _ hx290_2)).trans hx290_2
                                                replace p290 := eq_true p290
                                                replace q290 := eq_true q290
                                                go_wp2_with (first | ((with_reducible refine gate_dst (N := 20) rfl ?_); refine box_event ?hg (N := 20) ?hd (cs := #[.int .i64 0, .int .i64 0, .string (⟨#[]⟩ : ByteArray)]) (t := 50) ?hr ?_; (case hd => rfl); (case hg => rfl); (case hr => first | (go_simp; done) | (go_simp; rfl)); intro gb291 hg w49 hbox hb; have n0_ := Aside0.mk (Kd.R_below (Kd.R_elderB (by (with_reducible repeat (first | apply Kd.R_alloc | apply Kd.R_drewN | apply Kd.R_drew)); exact HO_9.out) gb291 (Nat.le_of_eq hg.symm)) hb); have n1_ := Aside0.mk (Kd.R_below (Kd.R_elderB (by (with_reducible repeat (first | apply Kd.R_alloc | apply Kd.R_drewN | apply Kd.R_drew)); exact HO_10.out) gb291 (Nat.le_of_eq hg.symm)) hb); have n2_ := Aside0.mk (blk_below (g := gb284) (o := .cells #[.int .i64 x285000_7, .int .i64 x285001_7, .string x285002_7] 50 (0, 0)) (by (with_reducible repeat (first | refine blk_drewN ?_ _ | refine blk_drew ?_ | refine blk_alloc ?_ _)); exact BK284.out) hb); have n3_ := Aside0.mk (below_step (by repeat (first | (with_reducible first | exact HB.out | apply below_alloc | apply pw_below_drewN | apply below_drew1 | refine below_set ?_ GE284.out) | exact HB.out)) hb); have n4_ := Aside0.mk (hbox); have n5_ := Aside0.mk ((by rw [hg]; exact (below_size (by repeat (first | (with_reducible first | exact HB.out | apply below_alloc | apply pw_below_drewN | apply below_drew1 | refine below_set ?_ GE284.out) | exact HB.out))) : w.heap.size ≤ gb291)); have n6_ := Aside0.mk ((by rw [hg]; exact (below_size (by repeat (first | (with_reducible first | exact HB.out | apply below_alloc | apply pw_below_drewN | apply below_drew1 | refine below_set ?_ GE284.out) | exact HB.out))) : w.heap.size ≤ gb291)); have n7_ := Aside0.mk ((by rw [hg]; exact Nat.ne_of_lt (blk_lt (g := gb284) (o := .cells #[.int .i64 x285000_7, .int .i64 x285001_7, .string x285002_7] 50 (0, 0)) (by (with_reducible repeat (first | refine blk_drewN ?_ _ | refine blk_drew ?_ | refine blk_alloc ?_ _)); exact BK284.out)) : gb284 ≠ gb291)); have n8_ := Aside0.mk ((by rw [hg]; exact Nat.ne_of_gt (blk_lt (g := gb284) (o := .cells #[.int .i64 x285000_7, .int .i64 x285001_7, .string x285002_7] 50 (0, 0)) (by (with_reducible repeat (first | refine blk_drewN ?_ _ | refine blk_drew ?_ | refine blk_alloc ?_ _)); exact BK284.out)) : gb291 ≠ gb284)); clear HO_9; clear HO_10; clear BK284; clear HB; have HO_9 := n0_; have HO_10 := n1_; have BK284 := n2_; have HB := n3_; have BK291 := n4_; have GW291 := n5_; have GE291 := n6_; have NB284_291 := n7_; have NB291_284 := n8_; clear n0_ n1_ n2_ n3_ n4_ n5_ n6_ n7_ n8_; clear hb hbox hg; have hnb50 := NB291_284.out; have hnc50 := NB284_291.out; have hcz51_0 : w49.cell? ⟨gb291, 0, none⟩ = some (.int .i64 0) := (blk_cell BK291.out 0).trans rfl; have hcz51_1 : w49.cell? ⟨gb291, 1, none⟩ = some (.int .i64 0) := (blk_cell BK291.out 1).trans rfl; have hcz51_2 : w49.cell? ⟨gb291, 2, none⟩ = some (.string (⟨#[]⟩ : ByteArray)) := (blk_cell BK291.out 2).trans rfl; have hfz51_0 := blk_frozen BK291.out 0; have hfz51_1 := blk_frozen BK291.out 1; have hfz51_2 := blk_frozen BK291.out 2))
                                                go_roundg k7
                                                case measure => have := HK1.out; have := HJ6.out; have := HK3.out; have := HJ8.out; have := HK5.out; have := HK6.out; have := HK7.out; omega
                                                case rel => exact ⟨(x17_7), (wrap64 (x19_7 + 1)), (x285000_7), (x285001_7), (x285002_7), (by first | rfl | (simp; done) | (simp [*]; done)), (by first | rfl | (simp; done) | (simp [*]; done)), H', ⟨by have := HK1.out; have := HJ6.out; have := HK3.out; have := HJ8.out; have := HK5.out; have := HK6.out; have := HK7.out; omega⟩, ⟨by (with_reducible repeat (first | apply Kd.R_alloc | apply Kd.R_drewN | apply Kd.R_drew)); exact Kd.R_mono (Kd.R_far (p := ⟨gb291, 2, none⟩) (Kd.R_far (p := ⟨gb291, 1, none⟩) (Kd.R_far (p := ⟨gb291, 0, none⟩) (Kd.R_mono HO_9.out (fun k_ hk => (⟨hk, hk.2⟩ : _ ∧ k_ ≠ gb291))) (fun _ hk => hk.2) (.int .i64 ((rd_T50 ((rd_T44 l0 x18_6).f2) x19_7).f0))) (fun _ hk => hk.2) (.int .i64 ((rd_T50 ((rd_T44 l0 x18_6).f2) x19_7).f1))) (fun _ hk => hk.2) (.string ((rd_T50 ((rd_T44 l0 x18_6).f2) x19_7).f2))) (fun _ hk => ⟨hk.1.1.1, hk.1.1.2⟩)⟩, ⟨by (with_reducible repeat (first | apply Kd.R_alloc | apply Kd.R_drewN | apply Kd.R_drew)); exact Kd.R_mono (Kd.R_far (p := ⟨gb291, 2, none⟩) (Kd.R_far (p := ⟨gb291, 1, none⟩) (Kd.R_far (p := ⟨gb291, 0, none⟩) (Kd.R_mono HO_10.out (fun k_ hk => (⟨hk, hk.2⟩ : _ ∧ k_ ≠ gb291))) (fun _ hk => hk.2) (.int .i64 ((rd_T50 ((rd_T44 l0 x18_6).f2) x19_7).f0))) (fun _ hk => hk.2) (.int .i64 ((rd_T50 ((rd_T44 l0 x18_6).f2) x19_7).f1))) (fun _ hk => hk.2) (.string ((rd_T50 ((rd_T44 l0 x18_6).f2) x19_7).f2))) (fun _ hk => ⟨hk.1.1.1, hk.1.1.2⟩)⟩, ⟨by (with_reducible repeat (first | refine blk_drewN ?_ _ | refine blk_drew ?_ | refine blk_alloc ?_ _)); refine blk_far ?_ NB284_291.out _; (with_reducible repeat (first | refine blk_drewN ?_ _ | refine blk_drew ?_ | refine blk_alloc ?_ _)); refine blk_far ?_ NB284_291.out _; (with_reducible repeat (first | refine blk_drewN ?_ _ | refine blk_drew ?_ | refine blk_alloc ?_ _)); refine blk_far ?_ NB284_291.out _; (with_reducible repeat (first | refine blk_drewN ?_ _ | refine blk_drew ?_ | refine blk_alloc ?_ _)); exact BK284.out⟩, ⟨by repeat (first | (with_reducible first | exact HB.out | apply below_alloc | apply pw_below_drewN | apply below_drew1 | refine below_set ?_ GE284.out | refine below_set ?_ GE291.out) | exact HB.out)⟩⟩
                                            · rw [if_neg c33] at H
                                              exact absurd H (by simp)
                                          · rw [if_neg c32] at H
                                            have c32b0 : decide (x19_7 < (((rd_T44 l0 x18_6).f2).length : Int)) = false := decide_eq_false c32
                                            clear c32
                                            have H' := Aside0.mk H
                                            clear H
                                            have p288 : 0 ≤ (x18_6 : Int) := of_decide_eq_true (by first | (with_reducible assumption) | assumption)
                                            have q288 : x18_6 < (l0.length : Int) := of_decide_eq_true (by first | (with_reducible assumption) | assumption)
                                            obtain ⟨ad288, A288_2, c288_2, e288, hx288_0, hx288_1, hx288_2, hl288_2, hi288_2⟩ := at_T44 HR0.out x18_6 p288 q288
                                            cases e288
                                            replace hx288_0 := (HB.out.cell (World.block_lt_of_cell? w _ hx288_0)).trans hx288_0
                                            replace hx288_1 := (HB.out.cell (World.block_lt_of_cell? w _ hx288_1)).trans hx288_1
                                            replace hx288_2 := (HB.out.cell (World.block_lt_of_cell? w _ hx288_2)).trans hx288_2
                                            have HR288_2 := Aside0.mk hi288_2
                                            have HC288_2 := Aside0.mk hl288_2
                                            clear hi288_2 hl288_2
                                            replace p288 := eq_true p288
                                            replace q288 := eq_true q288
                                            go_wp2
                                            go_roundg k7
                                            case measure => have := HK1.out; have := HJ6.out; have := HK3.out; have := HJ8.out; have := HK5.out; have := HK6.out; have := HK7.out; omega
                                            case rel => exact ⟨(x17_7), (wrap64 (x18_6 + 1)), (x285000_7), (x285001_7), (x285002_7), (by first | rfl | (simp; done) | (simp [*]; done)), (by first | rfl | (simp; done) | (simp [*]; done)), H', ⟨by have := HK1.out; have := HJ6.out; have := HK3.out; have := HJ8.out; have := HK5.out; have := HK6.out; have := HK7.out; omega⟩, ⟨by (with_reducible repeat (first | apply Kd.R_alloc | apply Kd.R_drewN | apply Kd.R_drew)); exact HO_9.out⟩, ⟨by (with_reducible repeat (first | apply Kd.R_alloc | apply Kd.R_drewN | apply Kd.R_drew)); exact HO_10.out⟩, ⟨by (with_reducible repeat (first | refine blk_drewN ?_ _ | refine blk_drew ?_ | refine blk_alloc ?_ _)); exact BK284.out⟩, ⟨by repeat (first | (with_reducible first | exact HB.out | apply below_alloc | apply pw_below_drewN | apply below_drew1 | refine below_set ?_ GE284.out) | exact HB.out)⟩⟩
                                        · rw [if_neg c31] at H
                                          exact absurd H (by simp)
                                      · rw [if_neg c30] at H
                                        exact absurd H (by simp)
                                · rw [if_neg c29] at H
                                  have c29b0 : decide (x18_6 < (l0.length : Int)) = false := decide_eq_false c29
                                  clear c29
                                  by_cases c52 : x17_6 = true
                                  · subst c52
                                    have H1 : (if x10_5.length < 4398046511104 then (barquelaw19_merged.l4 k6 l0 x6_6 x7_1 x9_3 (x10_5 ++ [(⟨x285000_6, x285001_6, x285002_6⟩ : S50)]) (wrap64 (x15_5 + 1))) else (none)) = some (r1, r2, r3, r4) := by rw [if_pos rfl] at H; exact H
                                    clear H
                                    have H := H1
                                    clear H1
                                    by_cases c53 : x10_5.length < 4398046511104
                                    · rw [if_pos c53] at H
                                      have LMc53 := Aside0.mk c53
                                      clear c53
                                      obtain ⟨y285, hy285⟩ : ∃ y_ : List (S50), y_ = (x10_5 ++ [(⟨x285000_6, x285001_6, x285002_6⟩ : S50)]) := ⟨_, rfl⟩
                                      replace H : (barquelaw19_merged.l4 k6 l0 x6_6 x7_1 x9_3 y285 (wrap64 (x15_5 + 1))) = some (r1, r2, r3, r4) := by first | (rw [hy285]; with_reducible exact H) | (have H2_ := (Option.bind_some _ _).symm.trans H; rw [hy285]; with_reducible exact H2_) | (have H2_ := (Option.bind_some _ _).symm.trans H; with_reducible exact H2_) | with_reducible exact H | (rw [hy285]; exact H) | exact H
                                      have Ny285 := Aside0.mk hy285
                                      clear hy285
                                      have H' := Aside0.mk H
                                      clear H
                                      have hcz54_0 : wr.cell? ⟨gb284, 0, none⟩ = some (.int .i64 x285000_6) := (blk_cell BK284.out 0).trans rfl
                                      have hcz54_1 : wr.cell? ⟨gb284, 1, none⟩ = some (.int .i64 x285001_6) := (blk_cell BK284.out 1).trans rfl
                                      have hcz54_2 : wr.cell? ⟨gb284, 2, none⟩ = some (.string x285002_6) := (blk_cell BK284.out 2).trans rfl
                                      have hfz54_0 := blk_frozen BK284.out 0
                                      have hfz54_1 := blk_frozen BK284.out 1
                                      have hfz54_2 := blk_frozen BK284.out 2
                                      go_wp2_with (first | ((with_reducible refine gate_builtin (b := .append) (xs := #[.tmp 171, .tmp 173]) rfl ?_); at_builtin; refine Kd.R_append k50 (w0 := w) w.heap.size rfl (.tmp 171) (.tmp 173) 42 50 (.agg #[(.int .i64 0), (.int .i64 0), (.string ⟨#[]⟩)]) 32 rfl Try.underlying42 info50 rfl (by decide) (by omega) u10 x10_5 (⟨x285000_6, x285001_6, x285002_6⟩ : S50) [.int .i64 x285000_6, .int .i64 x285001_6, .string x285002_6] (fun k_ => some k_ ≠ (u9 : Value).ownBlock ∧ k_ ≠ gb284) (fun _ => False) rfl rfl ?aP (fun _ hk => hk.elim) ?aF ?aO ?aB ?aS ?aL ?_; (case aP => exact k50_mkM _ _ _ (⟨x285000_6, x285001_6, x285002_6⟩ : S50)); (case aB => exact (by repeat (first | (with_reducible first | exact HB.out | apply below_alloc | apply pw_below_drewN | apply below_drew1 | refine below_set ?_ GE284.out) | exact HB.out))); (case aF => exact (fun k_ hk => ⟨Kd.fresh' (Kd.R_lt (by (with_reducible repeat (first | apply Kd.R_alloc | apply Kd.R_drewN | apply Kd.R_drew)); exact HO_9.out)) k_ hk, Kd.freshB (g := gb284) (o := .cells #[.int .i64 x285000_6, .int .i64 x285001_6, .string x285002_6] 50 (0, 0)) (by (with_reducible repeat (first | refine blk_drewN ?_ _ | refine blk_drew ?_ | refine blk_alloc ?_ _)); exact BK284.out) k_ hk⟩)); (case aO => exact (by (with_reducible repeat (first | apply Kd.R_alloc | apply Kd.R_drewN | apply Kd.R_drew)); exact HO_10.out)); (case aS => exact (below_size (by repeat (first | (with_reducible first | exact HB.out | apply below_alloc | apply pw_below_drewN | apply below_drew1 | refine below_set ?_ GE284.out) | exact HB.out)))); (case aL => have := LMc53.out; omega); intro v286 w55 ho hb hg hat; rw [← Ny285.out] at ho; have n0_ := Aside0.mk (Kd.R_after (ok := (fun k_ => k_ ≠ gb284)) (by (with_reducible repeat (first | apply Kd.R_alloc | apply Kd.R_drewN | apply Kd.R_drew)); exact Kd.R_mono HO_9.out (fun _ hk => ⟨hk.2, hk.1⟩)) hg hat); have n1_ := Aside0.mk (blk_grown (g := gb284) (o := .cells #[.int .i64 x285000_6, .int .i64 x285001_6, .string x285002_6] 50 (0, 0)) (by (with_reducible repeat (first | refine blk_drewN ?_ _ | refine blk_drew ?_ | refine blk_alloc ?_ _)); exact BK284.out) hg (Kd.R_away HO_10.out (fun _ hk => hk.2))); have n2_ := Aside0.mk (hb); have n3_ := Aside0.mk (ho); clear HO_9; clear BK284; clear HB; clear HO_10; have HO_9 := n0_; have BK284 := n1_; have HB := n2_; have HO287 := n3_; clear n0_ n1_ n2_ n3_; clear ho hb hg hat))
                                      go_roundg k6
                                      case measure => have := HK1.out; have := HJ6.out; have := HK3.out; have := HJ8.out; have := HK5.out; have := HK6.out; omega
                                      case rel => exact ⟨(y285), (wrap64 (x15_5 + 1)), (by first | rfl | (simp; done) | (simp [*]; done)), H', ⟨by have := HK1.out; have := HJ6.out; have := HK3.out; have := HJ8.out; have := HK5.out; have := HK6.out; omega⟩, ⟨by (with_reducible repeat (first | apply Kd.R_alloc | apply Kd.R_drewN | apply Kd.R_drew)); exact Kd.R_mono HO_9.out (fun _ hk => hk.2)⟩, ⟨by (with_reducible repeat (first | apply Kd.R_alloc | apply Kd.R_drewN | apply Kd.R_drew)); exact Kd.R_mono HO287.out (fun _ hk => hk.1)⟩, ⟨by repeat (first | (with_reducible first | exact HB.out | apply below_alloc | apply pw_below_drewN | apply below_drew1 | refine below_set ?_ GE284.out) | exact HB.out)⟩⟩
                                    · rw [if_neg c53] at H
                                      exact absurd H (by simp)
                                  · replace c52 := Bool.eq_false_iff.mpr c52
                                    subst c52
                                    have H1 : (some (x6_6, x7_1, x9_3, x10_5)) = some (r1, r2, r3, r4) := by rw [if_neg (show ¬ (false = true) by decide)] at H; exact H
                                    clear H
                                    have H := H1
                                    clear H1
                                    simp only [Option.some.injEq, Prod.mk.injEq] at H
                                    obtain ⟨rfl, rfl, rfl, rfl⟩ := H
                                    go_wp2
                                    refine bodyPost_ret (results_list (rs := [.tmp 2, .tmp 3, .tmp 4, .tmp 5]) rfl (by simp) (.tmp (.tmp (.tmp (.tmp .nil))))) rfl ?_
                                    exact ⟨_, _, by first | rfl | (simp [errW_none, errW_some] <;> rfl) | (simp [*, errW_none, errW_some] <;> rfl), by (with_reducible repeat (first | apply Kd.R_alloc | apply Kd.R_drewN | apply Kd.R_drew)); exact Kd.R_mono HO_9.out (fun _ hk => hk.1), by (with_reducible repeat (first | apply Kd.R_alloc | apply Kd.R_drewN | apply Kd.R_drew)); exact Kd.R_mono HO_10.out (fun _ hk => hk.1), by repeat (first | (with_reducible first | exact HB.out | apply below_alloc | apply pw_below_drewN | apply below_drew1 | refine below_set ?_ GE284.out) | exact HB.out)⟩
                          · rw [if_neg c26] at H
                            have c26b0 : decide (x15_5 < (wrap64 (x7_1 + 16))) = false := decide_eq_false c26
                            clear c26
                            simp only [Option.some.injEq, Prod.mk.injEq] at H
                            obtain ⟨rfl, rfl, rfl, rfl⟩ := H
                            go_wp2
                            refine bodyPost_ret (results_list (rs := [.tmp 2, .tmp 3, .tmp 4, .tmp 5]) rfl (by simp) (.tmp (.tmp (.tmp (.tmp .nil))))) rfl ?_
                            exact ⟨_, _, by first | rfl | (simp [errW_none, errW_some] <;> rfl) | (simp [*, errW_none, errW_some] <;> rfl), by (with_reducible repeat (first | apply Kd.R_alloc | apply Kd.R_drewN | apply Kd.R_drew)); exact HO_9.out, by (with_reducible repeat (first | apply Kd.R_alloc | apply Kd.R_drewN | apply Kd.R_drew)); exact HO_10.out, by repeat (first | (with_reducible first | exact HB.out | apply below_alloc | apply pw_below_drewN | apply below_drew1) | exact HB.out)⟩

end Go.Proofs.Ytpmbklagjaibgaa.PPlanMerges
