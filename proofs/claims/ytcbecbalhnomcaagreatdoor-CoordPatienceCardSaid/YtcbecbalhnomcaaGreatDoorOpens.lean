/- A list of states that came in, opened: what its datum says of memory, for whatever kind of state. -/
import Derived.Test.YtcbecbalhnomcaaGreatDoorWMore
import Derived.Deep.Slices
import Derived.Deep.Strs
import Derived.ChangeArms
namespace Go.Proofs.YtcbecbalhnomcaaGreatDoor.Opens
open Go.RowKit Go.Deep Go.ChangeShapes Go.WideShapes Go.Proofs.YtcbecbalhnomcaaGreatDoorW.PrintWords

section
variable {H : Type} {enc : TypeId × Value → H} {P : Program} {w : World} {base : Nat} {spare : Nat → Bool} {held : Bool} {α β γ : Type}

/-- what reads as a datum of type t is known as d knows it, and is as Q says -/
def Opens (enc : TypeId × Value → H) (P : Program) (w : World) (base : Nat) (spare : Nat → Bool) (held : Bool) (t : TypeId) (d : Kd α) (Q : α → Prop) : Prop :=
  ∀ fuel cs x, DataW.trod enc P w base spare held fuel t cs = some x → ∃ a, d.K w a cs ∧ Q a

theorem opens_int {t : TypeId} (k : IntKind) (ht : P.underlying t = some (.int k)) : Opens enc P w base spare held t (Kd.int k) (fun n => (Lit.int k n).wf = true) := by
  intro fuel cs x h
  obtain ⟨n, rfl, _, hw⟩ := DataW.trod_int ht h
  exact ⟨n, rfl, hw⟩
theorem opens_string {t : TypeId} (ht : P.underlying t = some .string) : Opens enc P w base spare held t Kd.string (fun s => s.size ≤ maxLen) := by
  intro fuel cs x h
  obtain ⟨s, rfl, _, hw⟩ := DataW.trod_string ht h
  exact ⟨s, rfl, hw⟩
theorem opens_bool {t : TypeId} (ht : P.underlying t = some .bool) : Opens enc P w base spare held t Kd.bool (fun _ => True) := by
  intro fuel cs x h
  obtain ⟨s, rfl, _⟩ := DataW.trod_bool ht h
  exact ⟨s, rfl, trivial⟩
theorem opens_iso {t : TypeId} {d : Kd α} {Q : α → Prop} (f : β → α) (hf : ∀ a, ∃ x, f x = a) (h : Opens enc P w base spare held t d Q) : Opens enc P w base spare held t (Kd.iso d f) (fun x => Q (f x)) := by
  intro fuel cs x hx
  obtain ⟨a, hk, hq⟩ := h fuel cs x hx
  obtain ⟨b, rfl⟩ := hf a
  exact ⟨b, hk, hq⟩

/-- the cells of the elements of a slice -/
theorem row_C {t e : TypeId} {d : Kd α} {Q : α → Prop} [Inhabited α] (ht : P.underlying t = some (.slice e)) (hc : P.cellsOf e = d.sz) (h : Opens enc P w base spare held e d Q)
    {fuel : Nat} {cs : List Value} {x : DataW H × List MemPlace} (hx : DataW.trod enc P w base spare held fuel t cs = some x) :
    ∃ A c l, cs = [.slice A l.length c] ∧ l.length ≤ c ∧ d.C w A l.length l ∧ ∀ a ∈ l, Q a := by
  rcases open_slice ht hx with ⟨rfl, _⟩ | ⟨a, len, cap, m, n, D, Pl, rfl, _, hl, hm, hmm, _, hel⟩
  · exact ⟨none, 0, [], rfl, Nat.le_refl _, ⟨rfl, by simp, fun h0 => absurd h0 (by simp)⟩, by simp⟩
  · have hlm : len ≤ m := by rw [hmm]; split <;> omega
    obtain ⟨f, hf⟩ := choose_lt (α := α) (p := fun i v => ∃ cs', w.cells? base (a.add (i * P.cellsOf e)) (P.cellsOf e) = some cs' ∧ d.K w v cs' ∧ Q v) (n := m) (fun i hi => by
      obtain ⟨cs', h1, h2⟩ := hel i hi
      obtain ⟨v, hk, hq⟩ := h _ _ _ h2
      exact ⟨v, cs', h1, hk, hq⟩)
    refine ⟨some a, cap, (List.range len).map f, by simp, by simpa using hl, ⟨rfl, by simp only [maxLen] at hm; simp; omega, fun _ => ⟨a, rfl, fun j p hj => ?_⟩⟩, ?_⟩
    · obtain ⟨hjl, hp⟩ : j < len ∧ f j = p := by
        rw [List.getElem?_map] at hj
        cases hr : (List.range len)[j]? with
        | none => rw [hr] at hj; cases hj
        | some q =>
          rw [hr] at hj
          obtain ⟨h1, h2⟩ := List.getElem?_eq_some_iff.1 hr
          simp at h1 h2
          subst h2
          exact ⟨h1, by simpa using hj⟩
      subst hp
      obtain ⟨cs', h1, h2, _⟩ := hf j (by omega)
      obtain ⟨_, hlen, hcell⟩ := World.cells?_some h1
      refine ⟨cs', by rw [hlen, hc], h2, fun i u hu => ?_⟩
      have hi : i < P.cellsOf e := by rw [← hlen]; exact (List.getElem?_eq_some_iff.1 hu).1
      have := hcell i hi
      rw [Go.Deep.add_add, hc] at this
      rw [this, hu]
    · intro v hv
      rw [List.mem_map] at hv
      obtain ⟨j, hj, rfl⟩ := hv
      obtain ⟨_, _, _, hq⟩ := hf j (by have := List.mem_range.1 hj; omega)
      exact hq
theorem opens_slice {t e : TypeId} {d : Kd α} {Q : α → Prop} [Inhabited α] (ht : P.underlying t = some (.slice e)) (hc : P.cellsOf e = d.sz) (h : Opens enc P w base spare held e d Q) :
    Opens enc P w base spare held t (Kd.slice e d) (fun l => ∀ a ∈ l, Q a) := by
  intro fuel cs x hx
  obtain ⟨A, c, l, rfl, h1, h2, h3⟩ := row_C ht hc h hx
  exact ⟨l, ⟨A, c, rfl, h1, h2⟩, h3⟩

/-- the fields of a struct from some cell on -/
def FOpens (enc : TypeId × Value → H) (P : Program) (w : World) (base : Nat) (spare : Nat → Bool) (held : Bool) (fs : List Field) (o : Nat) (d : Kd α) (Q : α → Prop) : Prop :=
  ∀ (n : Nat) (cs : List Value), (∀ f ∈ fs, ∃ y, DataW.trod enc P w base spare held n f.type ((cs.drop f.offset).take (P.cellsOf f.type)) = some y) → cs.length = o + d.sz → ∃ a, d.K w a (cs.drop o) ∧ Q a
theorem fopens_last {f : Field} {o : Nat} {d : Kd α} {Q : α → Prop} (ho : f.offset = o) (hc : P.cellsOf f.type = d.sz) (h : Opens enc P w base spare held f.type d Q) : FOpens enc P w base spare held [f] o d Q := by
  intro n cs hf hl
  obtain ⟨y, hy⟩ := hf f (List.mem_singleton.2 rfl)
  obtain ⟨a, ka, qa⟩ := h _ _ _ hy
  rw [ho, hc, List.take_of_length_le (by rw [List.length_drop]; omega)] at ka
  exact ⟨a, ka, qa⟩
theorem fopens_cons {f : Field} {fs : List Field} {o : Nat} {d0 : Kd α} {d1 : Kd β} {Q0 : α → Prop} {Q1 : β → Prop} (ho : f.offset = o) (hc : P.cellsOf f.type = d0.sz) (h : Opens enc P w base spare held f.type d0 Q0)
    (hr : FOpens enc P w base spare held fs (o + d0.sz) d1 Q1) : FOpens enc P w base spare held (f :: fs) o (Kd.pair d0 d1) (fun x => Q0 x.1 ∧ Q1 x.2) := by
  intro n cs hf hl
  have hl' : cs.length = o + (d0.sz + d1.sz) := hl
  obtain ⟨y, hy⟩ := hf f (List.mem_cons_self ..)
  obtain ⟨a, ka, qa⟩ := h _ _ _ hy
  rw [ho, hc] at ka
  obtain ⟨b, kb, qb⟩ := hr n cs (fun g hg => hf g (List.mem_cons_of_mem _ hg)) (by omega)
  refine ⟨(a, b), ⟨_, _, ?_, ka, kb⟩, qa, qb⟩
  rw [← List.drop_drop, List.take_append_drop]
theorem opens_struct {t : TypeId} {fs : Array Field} {d : Kd α} {Q : α → Prop} (ht : P.underlying t = some (.struct fs)) (hc : P.cellsOf t = d.sz) (h : FOpens enc P w base spare held fs.toList 0 d Q) : Opens enc P w base spare held t d Q := by
  intro fuel cs x hx
  obtain ⟨xs, n, _, _, hl, hlen, hf⟩ := DataW.trod_struct ht hx
  obtain ⟨a, ka, qa⟩ := h n cs (fun f hm => by
    obtain ⟨i, hi, e⟩ := List.mem_iff_getElem.1 hm
    have hi' : i < fs.size := by simpa using hi
    have h1 := hf i f (by rw [Array.getElem?_eq_getElem hi', ← e]; simp)
    rw [h1, List.getElem?_eq_getElem (by omega)]
    exact ⟨_, rfl⟩) (by omega)
  rw [List.drop_zero] at ka
  exact ⟨a, ka, qa⟩
end

section
variable {α β : Type} {w : World} {A : Option Addr} {n : Nat}
/-- the cells of the element at a place -/
theorem C_cells {d : Kd α} {l : List α} (h : d.C w A n l) (j : Nat) (hj : j < l.length) : ∃ ad cs, A = some ad ∧ d.K w l[j] cs ∧ ∀ i u, cs[i]? = some u → w.cell? ((ad.add (j * d.sz)).add i) = some u := by
  obtain ⟨ad, e, hc⟩ := h.2.2 (by have := h.1; omega)
  obtain ⟨cs, h1, h2, h3⟩ := hc j l[j] (List.getElem?_eq_getElem hj)
  refine ⟨ad, cs, e, by assumption, fun i u hu => ?_⟩
  rw [Go.Deep.add_add]
  exact h3 i u hu
end
end Go.Proofs.YtcbecbalhnomcaaGreatDoor.Opens
