/- Rows of elements of several cells that a coordinator owns. -/
import Derived.Test.YtcbecbalhnomcaaGreatDoorCoAwake
import Derived.Test.YtcbecbalhnomcaaGreatDoorCoOpen
import Derived.Test.YtcbecbalhnomcaaGreatDoorHeld
namespace Go.Proofs.YtcbecbalhnomcaaGreatDoor.Co
open Go.RowKit Go.Proofs.YtcbecbalhnomcaaGreatDoorW.PrintWords

/-- a row of one's own, from its head on: R says what an element's cells are -/
def Rw {α : Type} (w : World) (base e size : Nat) (R : α → List Value → Prop) (v : Value) (L : List α) : Prop := ∃ cs, w.ownsRow base e size v L.length cs ∧ Reps R size L cs
section
variable {α : Type} {w w' : World} {base e size : Nat} {R : α → List Value → Prop} {v : Value} {L : List α}
theorem Rw.nil (w : World) (base e size : Nat) (R : α → List Value → Prop) : Rw w base e size R (.slice none 0 0) [] := ⟨[], own_nil w base e size, Reps.none R size⟩
theorem Rw.snoc {p : α} {c cs : List Value} (h : Reps R size L cs) (ho : w.ownsRow base e size v (L.length + 1) (cs ++ c)) (hp : R p c) (hc : c.length = size) : Rw w base e size R v (L ++ [p]) :=
  ⟨_, by rw [List.length_append]; exact ho, h.snoc hp hc⟩
theorem Rw.same (h : Rw w base e size R v L) (hm : ∀ k, v.ownBlock = some k → w'.heap[k]? = w.heap[k]?) : Rw w' base e size R v L := by
  obtain ⟨cs, ho, hr⟩ := h
  exact ⟨cs, own_move ho hm, hr⟩
theorem Rw.lt (h : Rw w base e size R v L) (k : Nat) (hk : v.ownBlock = some k) : k < w.heap.size := by
  obtain ⟨cs, ho, _⟩ := h
  exact own_lt ho k hk
theorem Rw.base_le (h : Rw w base e size R v L) (k : Nat) (hk : v.ownBlock = some k) : base ≤ k := by
  obtain ⟨cs, ho, _⟩ := h
  exact own_base ho k hk
theorem Rw.typed (h : Rw w base e size R v L) (k : Nat) (hk : v.ownBlock = some k) : ∃ cells, w.heap[k]? = some (.cells cells e (0, 0)) := by
  obtain ⟨cs, ho, _⟩ := h
  exact own_typed ho k hk
/-- its block is no block of another type -/
theorem Rw.ne {b t : Nat} {cs : Array Value} (h : Rw w base e size R v L) (hb : Blk w b cs t) (ht : e ≠ t) : ∀ k, v.ownBlock = some k → k ≠ b := by
  rintro k hk rfl
  obtain ⟨cells, hc⟩ := h.typed k hk
  unfold Blk at hb
  rw [hb] at hc
  injection hc with hc
  injection hc with _ hc
  exact ht hc.symm
theorem Rw.form (h : Rw w base e size R v L) : ∃ A c, v = .slice A L.length c ∧ L.length ≤ c ∧ L.length ≤ 9223372036854775807 := by
  obtain ⟨cs, ho, _⟩ := h
  rcases ho.2 with ⟨rfl, h0⟩ | ⟨g, cap, cur, rfl, _, _, h2, h3, _⟩
  · exact ⟨none, 0, by rw [h0], by omega, by omega⟩
  · exact ⟨_, cap, rfl, h2, by simp only [maxLen] at h3; omega⟩
theorem Rw.read (h : Rw w base e size R v L) : ∃ A c, v = .slice A L.length c ∧ L.length ≤ c ∧ ReadsRow R size w A L.length L := by
  obtain ⟨A, c, e1, h2, _⟩ := h.form
  obtain ⟨cs, ho, hr⟩ := h
  obtain ⟨A', c', e', hr'⟩ := own_reads_row ho hr rfl
  rw [e1] at e'
  cases e'
  exact ⟨A, c, e1, h2, hr'⟩
theorem Rw.lower {base' : Nat} (h : Rw w base e size R v L) (hb : base' ≤ base) : Rw w base' e size R v L := by
  obtain ⟨cs, ho, hr⟩ := h
  exact ⟨cs, own_less ho hb, hr⟩
end
end Go.Proofs.YtcbecbalhnomcaaGreatDoor.Co
