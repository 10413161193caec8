/- Words for a region that draws its order and appends twice. -/
import Derived.Test.YtjfohacibijnoaaStep4
import Derived.Test.YtjfohacibijnoaaStep5
namespace Go.Proofs.Ytjfohacibijnoaa.Net
open Go.RowKit Go.Proofs.YtjfohacibijnoaaW.PrintWords

theorem lit_C (W : World) (s : ByteArray) : Kd.C Kd.string (W.alloc (.cells #[.string s] 9)) (some ⟨W.heap.size, 0, none⟩) [s].length [s] := by
  refine C_of_str (by simp) (fun _ => ⟨_, rfl, fun i hi => ?_⟩)
  obtain rfl : i = 0 := by simpa using hi
  have hb : (W.alloc (.cells #[.string s] 9)).heap[W.heap.size]? = some (.cells #[.string s] 9 (0, 0)) := by unfold World.alloc; simp
  simp only [Addr.add, if_pos, World.cell?, hb]
  rfl
theorem empty_R (W : World) {base : Nat} (hb : base ≤ W.heap.size) : Kd.R Kd.string 9 (W.alloc (.cells #[] 9)) base (fun _ => True) (.slice (some ⟨W.heap.size, 0, none⟩) 0 0) ([] : List ByteArray) := by
  refine ⟨fun _ _ => trivial, [], ?_, Reps.none _ _⟩
  have h := World.ownsRow_lit (base := base) (e := 9) (size := 1) W #[] 0 hb (by simp [maxLen]) (by simp)
  have h' : (W.alloc (.cells #[] 9)).ownsRow base 9 1 (.slice (some ⟨W.heap.size, 0, none⟩) 0 0) 0 [] := by simpa using h
  exact h'
/-- a list of one text stays where another row grows -/
theorem lit_grown {W W1 : World} {g : Nat} {s : ByteArray} {row : Option Nat} (h : Kd.C Kd.string W (some ⟨g, 0, none⟩) [s].length [s]) (hg : W.grownBy W1 row) (hn : row ≠ some g) : Kd.C Kd.string W1 (some ⟨g, 0, none⟩) [s].length [s] := by
  have hl : Lst W (.slice (some ⟨g, 0, none⟩) [s].length 1) [s] := ⟨_, _, rfl, Nat.le_refl _, h⟩
  have hlt : g < W.heap.size := hl.lt (by simp) g rfl
  obtain ⟨A, c, e, _, h2⟩ := hl.same (w' := W1) (fun k hk => by
    cases hk
    exact hg.block g hlt (fun e => hn e.symm))
  cases e
  exact h2
theorem Lst.of_R {W : World} {base : Nat} {v : Value} {xs : List ByteArray} (h : Kd.R Kd.string 9 W base (fun _ => True) v xs) : Lst W v xs ∧ ∀ k, v.ownBlock = some k → base ≤ k ∧ k < W.heap.size := by
  obtain ⟨A, c, rfl, l1, g1⟩ := Kd.R_reads h
  exact ⟨⟨A, c, rfl, l1, g1⟩, fun k hk => ⟨Kd.R_base h k hk, Kd.R_lt h k hk⟩⟩
end Go.Proofs.Ytjfohacibijnoaa.Net
