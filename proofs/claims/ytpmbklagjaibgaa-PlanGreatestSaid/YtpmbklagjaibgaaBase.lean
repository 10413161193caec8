/- Words for the plan's walks; majorities, ballots, the number that a majority has reached; the example that each law asks for at its end. -/
import Derived.Test.YtpmbklagjaibgaaShelf
import Derived.Test.YtpmbklagjaibgaaWMore
import Derived.Sort.OwnSortedInts
import Derived.Laws.OwnMore
import Derived.Lib.Hide
import Derived.WalkSpells
import Derived.BigQuiet
namespace Go.Proofs.Ytpmbklagjaibgaa.Plan
open Go.RowKit Go.Proofs.YtpmbklagjaibgaaW.PrintWords

theorem w64 {x : Int} (h : -9223372036854775808 ≤ x) (h' : x ≤ 9223372036854775807) : wrap64 x = x := by simp only [wrap64]; omega
theorem w64e {x y : Int} (e : x = y) (h : -9223372036854775808 ≤ y) (h' : y ≤ 9223372036854775807) : wrap64 x = y := by subst e; exact w64 h h'

theorem quiet0 {P : Program} {f : FuncId} {args : Array Value} {w : World} {n : Nat} {v : Value} (h : Calls P f args (w.drewN n) fun e w' => e = .returned v ∧ w.drewN n = w') :
    Calls P f args (w.drewN n) fun e w'' => e = .returned v ∧ ∃ m, w'' = w.drewN m :=
  Calls.quiet_of (h.mono fun _ _ ⟨he, hm⟩ => ⟨he, 0, hm.symm⟩)
theorem quiet1 {P : Program} {f : FuncId} {args : Array Value} {w : World} {n : Nat} {v : Value} (h : Calls P f args (w.drewN n) fun e w' => e = .returned v ∧ Drawn0 (w.drewN n) w') :
    Calls P f args (w.drewN n) fun e w'' => e = .returned v ∧ ∃ m, w'' = w.drewN m :=
  Calls.quiet_of (h.mono fun _ _ ⟨he, m, hm⟩ => ⟨he, m, hm⟩)

theorem majority_calls (n : Nat) (w : World) (h : n ≤ 9223372036854775806) : Calls Try.prog 13 #[.int .i64 n] w fun e w' => e = .returned (.int .i64 ((n / 2 + 1 : Nat) : Int)) ∧ w = w' := by
  go_enter Try.func13, Try.ntmps13
  go_wp2
  go_ret
  exact ⟨by simp, rfl⟩

theorem ballot_bad (a i : Int) (w : World) (h : i < 0 ∨ i ≥ 4 ∨ a < 1 ∨ a > 1099511627776) :
    Calls Try.prog 15 #[.int .i64 a, .int .i64 i] w fun e w' => e = .returned (.tuple #[.int .i64 0, .int .i64 1]) ∧ w = w' := by
  go_enter Try.func15, Try.ntmps15
  by_cases h1 : i < 0
  · go_wp2; go_ret2; exact ⟨rfl, rfl⟩
  by_cases h2 : i ≥ 4
  · go_wp2; go_ret2; exact ⟨rfl, rfl⟩
  by_cases h3 : a < 1
  · go_wp2; go_ret2; exact ⟨rfl, rfl⟩
  have h4 : a > 1099511627776 := by omega
  go_wp2; go_ret2; exact ⟨rfl, rfl⟩

theorem ballot_ok (a i : Int) (w : World) (h1 : 0 ≤ i) (h2 : i < 4) (h3 : 1 ≤ a) (h4 : a ≤ 1099511627776) :
    Calls Try.prog 15 #[.int .i64 a, .int .i64 i] w fun e w' => e = .returned (.tuple #[.int .i64 (a * 4 + i), .int .i64 0]) ∧ w = w' := by
  have e1 : ¬ i < 0 := by omega
  have e2 : ¬ i ≥ 4 := by omega
  have e3 : ¬ a < 1 := by omega
  have e4 : ¬ a > 1099511627776 := by omega
  go_enter Try.func15, Try.ntmps15
  go_wp2
  go_ret2
  exact ⟨rfl, rfl⟩

/-- a row of numbers in memory -/
def Row (w : World) (b off : Nat) (zs : List Int) : Prop := ∀ j, j < zs.length → w.cell? ⟨b, off + j, none⟩ = some (.int .i64 (zs.getD j 0))
theorem Row.same {w w' : World} {b off : Nat} {zs : List Int} (h : Row w b off zs) (e : w'.heap[b]? = w.heap[b]?) : Row w' b off zs := fun j hj => (World.cell?_of_block (w := w) e).trans (h j hj)
/-- the place of the number that a majority of n has reached, in the sorted row -/
def seat (n : Nat) : Nat := n - (n / 2 + 1)
def srt (zs : List Int) : List Int := zs.mergeSort fun x y => decide (x ≤ y)
def reach (zs : List Int) : Int := (srt zs).getD (seat zs.length) 0
theorem srt_length (zs : List Int) : (srt zs).length = zs.length := List.length_mergeSort zs

theorem reached_zero (p : Option Addr) (c : Nat) (w : World) : Calls Try.prog 14 #[.slice p 0 c] w fun e w' => e = .returned (.int .i64 0) ∧ w = w' := by
  go_enter Try.func14, Try.ntmps14
  go_wp2
  go_ret
  exact ⟨rfl, rfl⟩

theorem sort_calls (g : Nat) (cap : Nat) (zs : List Int) (cur : Array Value) (w : World) (hb : w.heap[g]? = some (.cells cur 3 (0, 0))) (ht : cur.toList.take zs.length = zs.map (Value.int .i64)) (hc : cur.size = cap) (hl : zs.length ≤ cap) (hn : zs.length < 4611686018427387904) (hm : cap ≤ maxLen) :
    Calls Try.prog 27 #[.slice (some ⟨g, 0, none⟩) zs.length cap] w fun e w' => e = .returned (.tuple #[]) ∧ Hid (Below g w w' ∧ w.heap.size ≤ w'.heap.size ∧ ∀ j, j < zs.length → w'.cell? ⟨g, j, none⟩ = some (.int .i64 ((srt zs).getD j 0))) := by
  have hg : g < w.heap.size := (Array.getElem?_eq_some_iff.1 hb).1
  refine (Try.slices_Sort_int g 0 cap zs w (holds_of_blockI hb ht) hg hn).mono ?_
  rintro e w' ⟨he, n, os, rfl⟩
  have hgr := grownBy_sortedI (w := w) (g := g) (n := n) (os := os) (srt zs).toArray
  refine ⟨he, ⟨(Below.refl g w).grown hgr (by omega) (fun k hk => by cases hk; omega), hgr.size, fun j hj => ?_⟩⟩
  have ho := ownsRow_sortedI (w := w) (base := 0) (n := n) (os := os) (srt_length zs) (Nat.zero_le g) hb hl hm (by omega)
  rw [show ((some ⟨g, 0, none⟩ : Option Addr)) = some ⟨g, 0, none⟩ from rfl] at ho
  have := ho.cellAt j (by rw [Nat.mul_one]; exact hj)
  refine Eq.trans this ?_
  have hj' : j < (srt zs).length := by rw [srt_length]; exact hj
  simp [List.getD, List.getElem?_eq_getElem hj']

theorem clone_calls (b off n c : Nat) (zs : List Int) (w : World) (h0 : 0 < n) (hz : n ≤ zs.length) (hbig : n * 8 ≤ 140737488355328) (hr : Row w b off zs) :
    Calls Try.prog 26 #[.slice (some ⟨b, off, none⟩) n c] w fun e w' => ∃ g cap, e = .returned (.slice (some ⟨g, 0, none⟩) n cap) ∧ Hid (∃ cur, w'.heap[g]? = some (.cells cur 3 (0, 0)) ∧ cur.toList.take n = (zs.take n).map (Value.int .i64) ∧ cur.size = cap ∧ n ≤ cap ∧ cap ≤ maxLen ∧ w.heap.size ≤ g ∧ Below w.heap.size w w') := by
  refine (Try.slices_Clone_int b off n c zs w hz hbig hr).mono ?_
  rintro e w' ⟨v, rfl, ho, _, hbel⟩
  rcases ho.2 with ⟨_, e0⟩ | ⟨g, cap, cur, rfl, hg, hb, h2, h3, h4, h5⟩
  · exact absurd e0 (by omega)
  · exact ⟨g, cap, rfl, ⟨cur, hb, by simpa using h5, by simpa using h4, h2, h3, hg, hbel⟩⟩

theorem sorted_calls (g n : Nat) (cap : Nat) (zs : List Int) (w w0 : World) (hz : n ≤ zs.length) (hn : n < 4611686018427387904)
    (h : ∃ cur, w.heap[g]? = some (.cells cur 3 (0, 0)) ∧ cur.toList.take n = (zs.take n).map (Value.int .i64) ∧ cur.size = cap ∧ n ≤ cap ∧ cap ≤ maxLen ∧ w0.heap.size ≤ g ∧ Below w0.heap.size w0 w) :
    Calls Try.prog 27 #[.slice (some ⟨g, 0, none⟩) n cap] w fun e w' => e = .returned (.tuple #[]) ∧ Hid (Below w0.heap.size w0 w' ∧ ∀ j, j < n → w'.cell? ⟨g, j, none⟩ = some (.int .i64 ((srt (zs.take n)).getD j 0))) := by
  obtain ⟨cur, h1, h2, h3, h4, h5, h6, h7⟩ := h
  have hlen : (zs.take n).length = n := by simp; omega
  have := sort_calls g cap (zs.take n) cur w h1 (by rw [hlen]; exact h2) h3 (by rw [hlen]; exact h4) (by rw [hlen]; exact hn) h5
  rw [hlen] at this
  exact this.mono fun e w' ⟨he, hh⟩ => ⟨he, ⟨h7.trans (hh.out.1.mono h6), hh.out.2.2⟩⟩

theorem reached_calls (b off n c : Nat) (zs : List Int) (w : World) (h0 : 0 < n) (hz : n ≤ zs.length) (hbig : n * 8 ≤ 140737488355328) (hr : Row w b off zs) :
    Calls Try.prog 14 #[.slice (some ⟨b, off, none⟩) n c] w fun e w' => e = .returned (.int .i64 (reach (zs.take n))) ∧ Hid (Below w.heap.size w w') := by
  have hlen : (zs.take n).length = n := by simp; omega
  have t0 : ((n : Int) == 0) = false := by simp; omega
  have hbg : n ≤ 9223372036854775806 := by omega
  have hbg2 : n < 4611686018427387904 := by omega
  have hs : seat n < n := by unfold seat; omega
  have hs1 : (seat n : Int) < (n : Int) := by omega
  have hs2 : (0 : Int) ≤ (seat n : Int) := by omega
  have hs3 : wrap64 ((n : Int) - ((n / 2 + 1 : Nat) : Int)) = (seat n : Int) := w64e (by unfold seat; omega) (by omega) (by omega)
  have hclone := clone_calls b off n c zs w h0 hz hbig hr
  generalize hm : ((n / 2 + 1 : Nat) : Int) = m at hs3
  have hmaj : ∀ w, Calls Try.prog 13 #[.int .i64 n] w fun e w' => e = .returned (.int .i64 m) ∧ w = w' := fun w => by rw [← hm]; exact majority_calls n w hbg
  clear hm
  go_enter Try.func14, Try.ntmps14
  go_wp2_with (first
    | (go_at_call 26; refine hclone.mono ?_; rintro e w1 ⟨g, cap, rfl, hh⟩)
    | (go_at_call 27; refine (sorted_calls g n cap zs _ w hz hbg2 hh.out).mono ?_; rintro e w2 ⟨rfl, hk⟩
       have hcell := hk.out.2 (seat n) hs)
    | (go_at_call 13; refine (hmaj _).mono ?_; rintro e w3 ⟨rfl, rfl⟩))
  go_ret
  refine ⟨?_, hk.out.1⟩
  unfold reach
  rw [hlen]
  rfl

theorem reach_three : reach [5, 1, 3] = 3 := by
  have : srt [5, 1, 3] = [1, 3, 5] := by simp [srt, List.mergeSort, List.MergeSort.Internal.splitInTwo]
  unfold reach
  rw [this]
  rfl

theorem awake_calls (w : World) : Calls Try.prog 12 #[] w fun e w' => e = .returned (.bool true) ∧ Hid (Below w.heap.size w w') := by
  have hb : ∀ w, Calls Try.prog 15 #[.int .i64 1, .int .i64 2] w fun e w' => e = .returned (.tuple #[.int .i64 6, .int .i64 0]) ∧ w = w' := fun w => ballot_ok 1 2 w (by decide) (by decide) (by decide) (by decide)
  have hm : ∀ w, Calls Try.prog 13 #[.int .i64 4] w fun e w' => e = .returned (.int .i64 3) ∧ w = w' := fun w => majority_calls 4 w (by decide)
  have hr : ∀ (a : Nat) (w : World), Row w a 0 [5, 1, 3] → Calls Try.prog 14 #[.slice (some ⟨a, 0, none⟩) 3 3] w fun e w' => e = .returned (.int .i64 3) ∧ Hid (Below w.heap.size w w') := fun a w h =>
    (reached_calls a 0 3 3 [5, 1, 3] w (by decide) (by decide) (by decide) h).mono fun e w' ⟨he, hh⟩ => ⟨by rw [he]; exact congrArg (fun x => Ending.returned (Value.int .i64 x)) reach_three, hh⟩
  have hrow : Row (w.alloc (.cells #[Value.int .i64 5, Value.int .i64 1, Value.int .i64 3] 3)) w.heap.size 0 [5, 1, 3] := by
    intro j hj
    have hb : (w.alloc (.cells #[Value.int .i64 5, Value.int .i64 1, Value.int .i64 3] 3)).heap[w.heap.size]? = some (.cells #[Value.int .i64 5, Value.int .i64 1, Value.int .i64 3] 3 (0, 0)) := by unfold World.alloc; simp
    rw [Nat.zero_add]
    simp only [World.cell?, hb]
    have : j = 0 ∨ j = 1 ∨ j = 2 := by simp only [List.length_cons, List.length_nil] at hj; omega
    rcases this with rfl | rfl | rfl <;> rfl
  have hbel : Below w.heap.size w (w.alloc (.cells #[Value.int .i64 5, Value.int .i64 1, Value.int .i64 3] 3)) := (Below.refl _ w).alloc (Nat.le_refl _) _
  have hsz : w.heap.size ≤ (w.alloc (.cells #[Value.int .i64 5, Value.int .i64 1, Value.int .i64 3] 3)).heap.size := by simp
  go_enter Try.func12, Try.ntmps12
  go_wp2_with (first
    | (go_at_call 15; refine (hb _).mono ?_; rintro e w' ⟨rfl, rfl⟩)
    | (go_at_call 13; refine (hm _).mono ?_; rintro e w' ⟨rfl, rfl⟩)
    | (go_at_call 14; refine (hr _ _ hrow).mono ?_; rintro e w' ⟨rfl, hh⟩))
  go_ret
  exact ⟨rfl, hbel.trans (hh.out.mono hsz)⟩

end Go.Proofs.Ytpmbklagjaibgaa.Plan
