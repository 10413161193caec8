/- A run of promises: how many have been counted, and what a coordinator is behind each. -/
import Derived.Test.YtcbecbalhnomcaaGreatDoorCoHandle
import Derived.Test.YtcbecbalhnomcaaGreatDoorCoFresh
namespace Go.Proofs.YtcbecbalhnomcaaGreatDoor.Co
open Go.RowKit Go.Proofs.YtcbecbalhnomcaaGreatDoorW.PrintWords

theorem cnt_new (m : Nat) (S : Nat → Bool) (k : Nat) (hk : k < m) (h : S k = false) : ∀ n, cnt m (plus S k) n = cnt m S n + (if k < n then 1 else 0) := by
  intro n
  induction n with
  | zero => simp [cnt]
  | succ n ih =>
    simp only [cnt, ih]
    by_cases e : n = k
    · subst e
      simp [hk, h, plus]
    · have e1 : (n == k) = false := by simpa using e
      simp only [plus, e1, Bool.or_false]
      by_cases e2 : k < n
      · rw [if_pos e2, if_pos (by omega : k < n + 1)]; omega
      · rw [if_neg e2, if_neg (by omega : ¬ k < n + 1)]; omega
theorem cnt_none (m n : Nat) : cnt m (fun _ => false) n = 0 := by
  induction n with
  | zero => rfl
  | succ n ih => simp [cnt, ih]
theorem plus_had (S : Nat → Bool) (k : Nat) (h : S k = true) : plus S k = S := by
  funext j
  unfold plus
  by_cases e : j = k
  · subst e; simp [h]
  · simp [e]
theorem cnt_past (n : Nat) (S : Nat → Bool) (k : Nat) : cnt n S (n + k) = cnt n S n := by
  induction k with
  | zero => rfl
  | succ k ih => rw [← Nat.add_assoc]; simp only [cnt, ih, decide_eq_false (by omega : ¬ n + k < n), Bool.false_and]; rfl
theorem asked_len (id ballot : Int) (n : Nat) (S : Nat → Bool) (k : Nat) (hk : k ≤ n) : (asked id ballot S k).length + cnt n S k = k := by
  induction k with
  | zero => rfl
  | succ k ih =>
    have := ih (by omega)
    simp only [asked, cnt, List.length_append, decide_eq_true (by omega : k < n), Bool.true_and]
    cases S k <;> simp <;> omega
theorem asked_get (id ballot : Int) (S : Nat → Bool) (k : Nat) (j : Nat) (hj : j < (asked id ballot S k).length) : ∃ q, q < k ∧ (asked id ballot S k)[j] = Mg.bare 1 id q ballot ∧ S q = false := by
  induction k with
  | zero => simp [asked] at hj
  | succ k ih =>
    by_cases h : j < (asked id ballot S k).length
    · obtain ⟨q, h1, h2, h3⟩ := ih h
      refine ⟨q, by omega, ?_, h3⟩
      rw [← h2]
      simp only [asked]
      rw [List.getElem_append_left h]
    · refine ⟨k, by omega, ?_⟩
      have hs : S k = false := by
        cases hs : S k
        · rfl
        · simp only [asked, List.length_append, hs] at hj
          simp at hj
          omega
      simp only [asked, hs]
      rw [List.getElem_append_right (by omega)]
      simp

/-- a run of promises under way: whom the coordinator has, whom the law has -/
structure Run (w0 w : World) (p b t bk hb n : Nat) (id bal : Int) (S T : Nat → Bool) : Prop where
  wd : Blk w p (wcells b bk id n (.slice none 0 0) (.slice none 0 0) 0) 42
  tal : Tal w t n S
  has : ∃ cs, Blk w hb cs 4 ∧ ∀ i, i < n → cs[i]? = some (.bool (T i))
  cd : ∃ s, Cd w b s ∧ s.n = n ∧ s.id = id ∧ s.ballot = bal ∧ s.phase = (if wonB n S then 2 else 1) ∧ (wonB n S = false → s.promised = some t ∧ s.call = none ∧ ∃ L : List Unit, Rw w w0.heap.size 120 3 PZ s.promises L ∧ L.length = cnt n S 9)
  below : Below w0.heap.size w0 w
  low : w0.heap.size ≤ p ∧ w0.heap.size ≤ b ∧ w0.heap.size ≤ t ∧ w0.heap.size ≤ hb
section
variable {w0 w w' : World} {p b t bk hb n : Nat} {id bal : Int} {S T : Nat → Bool}
theorem Run.bel (h : Run w0 w p b t bk hb n id bal S T) (hB : Below w.heap.size w w') : Run w0 w' p b t bk hb n id bal S T := by
  obtain ⟨wd, tal, ⟨cs, hc, hT⟩, ⟨s, c1, c2, c3, c4, c5, c6⟩, hb0, hlow⟩ := h
  refine ⟨wd.same (hB.block _ wd.lt), tal.same (hB.block _ tal.blk.lt), ⟨cs, hc.same (hB.block _ hc.lt), hT⟩, ⟨s, c1.same (hB.block _ c1.lt), c2, c3, c4, c5, fun hw => ?_⟩, hb0.trans (hB.mono hb0.size), hlow⟩
  obtain ⟨a1, a2, L, a3, a4⟩ := c6 hw
  exact ⟨a1, a2, L, a3.same (fun k hk => hB.block k (a3.lt k hk)), a4⟩
theorem Run.drewN (h : Run w0 w p b t bk hb n id bal S T) (k : Nat) : Run w0 (w.drewN k) p b t bk hb n id bal S T := h.bel (pw_below_drewN (Below.refl _ _) _)
theorem Run.store (h : Run w0 w p b t bk hb n id bal S T) (v : Nat) : Run w0 (w.setCell ⟨hb, v, none⟩ (.bool true)) p b t bk hb n id bal S (plus T v) := by
  obtain ⟨wd, tal, ⟨cs, hc, hT⟩, ⟨s, c1, c2, c3, c4, c5, c6⟩, hb0, hlow⟩ := h
  have hk : ∀ k, k ≠ hb → (w.setCell ⟨hb, v, none⟩ (.bool true)).heap[k]? = w.heap[k]? := fun k hk => Below.heap_setCell _ _ _ _ hk
  refine ⟨wd.same (hk _ (Blk.ne wd hc (by decide))), tal.same (hk _ (Blk.ne tal.blk hc (by decide))), ⟨_, hc.set v _, fun i hi => ?_⟩, ⟨s, c1.same (hk _ (Blk.ne c1 hc (by decide))), c2, c3, c4, c5, fun hw => ?_⟩, hb0.setCell hlow.2.2.2 _, hlow⟩
  · have hs : i < cs.size := (Array.getElem?_eq_some_iff.1 (hT i hi)).1
    rw [Array.getElem?_setIfInBounds]
    unfold plus
    by_cases e : v = i
    · subst e; rw [if_pos rfl, if_pos hs]; simp
    · have e' : (i == v) = false := by simpa using fun h => e h.symm
      rw [if_neg e, hT i hi, e', Bool.or_false]
  · obtain ⟨a1, a2, L, a3, a4⟩ := c6 hw
    exact ⟨a1, a2, L, a3.same (fun k hk' => hk k (a3.ne hc (by decide) k hk')), a4⟩
theorem Run.n9 (h : Run w0 w p b t bk hb n id bal S T) : n ≤ 9 := h.tal.le
end
theorem run_handle (w0 w : World) (p b t bk hb n : Nat) (id bal : Int) (S T : Nat → Bool) (h : Run w0 w p b t bk hb n id bal S T) (hw : wonB n S = false) (v : Nat) (hv : v < n) :
    Calls Tryz.prog 17 #[.pointer (some ⟨b, 0, none⟩), .agg (mcells (Mg.bare 2 v id bal))] w fun e w' => e = .returned (.tuple #[]) ∧ Hid (Run w0 w' p b t bk hb n id bal (plus S v) T) := by
  obtain ⟨s, c1, c2, c3, c4, c5, c6⟩ := h.cd
  obtain ⟨a1, a2, L, a3, a4⟩ := c6 hw
  rw [hw] at c5
  have c5' : s.phase = 1 := c5
  by_cases hS : S v = true
  · rw [plus_had S v hS]
    refine (handle_promise b s (Mg.bare 2 v id bal) v none 0 0 w (fun w' _ w'' => Below w'.heap.size w' w'') c1 (by omega) c5' (by omega) rfl c3.symm rfl c4.symm rfl (fun w' hB => ?_)).mono ?_
    · exact promise_same b t n S s _ v w' (c1.same (hB.block _ c1.lt)) a1 (h.tal.same (hB.block _ h.tal.blk.lt)) hv rfl hS
    · rintro e w'' ⟨rfl, hh⟩
      obtain ⟨w', hB, hB'⟩ := hh.out
      exact ⟨rfl, (h.bel hB).bel hB'⟩
  · have hS' : S v = false := by simpa using hS
    have h9 := cnt_le n S 9
    refine (handle_promise b s (Mg.bare 2 v id bal) v none 0 0 w (fun w' _ w'' => Mod (Foot b t s.promises) w' w'' ∧ ∃ pv, Got PZ (fun _ _ _ => True) b t n w0.heap.size (plus S v) (({ s with promises := pv }).setPeer v ((s.peers v).far 0 0)) 0 0 (L ++ [()]) w'') c1 (by omega) c5' (by omega) rfl c3.symm rfl c4.symm rfl (fun w' hB => ?_)).mono ?_
    · have hn := h.n9
      have hL : L.length + 1 ≤ 9 := by
        have e1 : cnt n S 9 + 1 = cnt n (plus S v) 9 := by rw [cnt_new n S v hv hS', if_pos (by omega)]
        have := cnt_le n (plus S v) 9
        omega
      refine promise_at PZ (fun _ _ _ => True) b t n w0.heap.size S s 0 0 L () (Mg.bare 2 v id bal) v none 0 0 w' (c1.same (hB.block _ c1.lt)) a1 (h.tal.same (hB.block _ h.tal.blk.lt)) (a3.same (fun k hk => hB.block k (a3.lt k hk))) (Nat.le_trans h.below.size hB.size) hv rfl hS' rfl rfl (by omega) ?_
      intro w1 pv hrw
      refine (merge_none _ pv _ w1 hrw (by simp; omega)).mono ?_
      rintro e w2 ⟨A2, n2, c2, A3, n3, c3, rfl, hb2⟩
      exact ⟨A2, n2, c2, A3, n3, c3, rfl, hb2, trivial⟩
    · rintro e w'' ⟨rfl, hh⟩
      obtain ⟨w', hB, hM, pv, got⟩ := hh.out
      refine ⟨rfl, ?_⟩
      show Run _ _ _ _ _ _ _ _ _ _ _ _
      have h' := h.bel hB
      obtain ⟨cs, hc, hT⟩ := h'.has
      have hkeep : ∀ k cs' ty, Blk w' k cs' ty → ty ≠ 90 → ty ≠ 135 → ty ≠ 120 → w''.heap[k]? = w'.heap[k]? := by
        intro k cs' ty hb1 n1 n2 n3
        refine hM.block k hb1.lt ?_
        rintro (rfl | rfl | hk)
        · exact Blk.ne hb1 (c1.same (hB.block _ c1.lt)) n1 rfl
        · exact Blk.ne hb1 h'.tal.blk n2 rfl
        · have a3' : Rw w' w0.heap.size 120 3 PZ s.promises L := a3.same (fun k hk => hB.block k (a3.lt k hk))
          exact a3'.ne hb1 (fun e => n3 e.symm) k hk rfl
      refine ⟨h'.wd.same (hkeep _ _ _ h'.wd (by decide) (by decide) (by decide)), got.tal, ⟨cs, hc.same (hkeep _ _ _ hc (by decide) (by decide) (by decide)), hT⟩, ?_, h'.below.trans (hM.below ?_ h'.below.size), h'.low⟩
      · cases hq : wonB n (plus S v)
        · obtain ⟨g1, g2⟩ := got.more hq
          refine ⟨_, g1, c2, c3, c4, c5, fun _ => ⟨a1, a2, _, g2, ?_⟩⟩
          rw [List.length_append, a4, cnt_new n S v hv hS', if_pos (by have := h.n9; omega)]
          rfl
        · obtain ⟨v2, v3, g1, _⟩ := got.won hq
          exact ⟨_, g1, c2, c3, c4, rfl, fun hx => by cases hx⟩
      · rintro k (rfl | rfl | hk)
        · exact h.low.2.1
        · exact h.low.2.2.1
        · exact a3.base_le k hk
end Go.Proofs.YtcbecbalhnomcaaGreatDoor.Co
