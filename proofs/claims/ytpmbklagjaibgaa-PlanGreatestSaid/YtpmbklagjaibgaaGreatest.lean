/- The law of what is proposed again. -/
import Derived.Test.YtpmbklagjaibgaaMerges
namespace Go.Proofs.Ytpmbklagjaibgaa.PPlanMerges
open Go.RowKit Go.Proofs.YtpmbklagjaibgaaW.PrintWords Go.Proofs.YtpmbklagjaibgaaW.PrintLast Go.Proofs.YtpmbklagjaibgaaW.PrintMore
open Go.Proofs.Ytpmbklagjaibgaa.Plan (awake_calls)

theorem gr1_some (g : Int) : ∀ (xs : List S50) (b : Option S50) (x : S50), gr1 g b xs = some x →
    (b = some x ∨ (x ∈ xs ∧ x.f0 = g)) ∧ (∀ y ∈ xs, y.f0 = g → y.f1 ≤ x.f1) ∧ (∀ z, b = some z → z.f1 ≤ x.f1) := by
  intro xs
  induction xs with
  | nil =>
    intro b x h
    have h' : b = some x := by cases b <;> exact h
    exact ⟨.inl h', by simp, fun z hz => by rw [h'] at hz; cases hz; exact Int.le_refl _⟩
  | cons a xs ih =>
    intro b x h
    by_cases c1 : a.f0 = g
    · cases b with
      | none =>
        rw [gr1, if_pos c1] at h
        obtain ⟨h1, h2, h3⟩ := ih _ _ h
        refine ⟨.inr ?_, ?_, fun z hz => by cases hz⟩
        · rcases h1 with e | ⟨e1, e2⟩
          · cases e; exact ⟨by simp, c1⟩
          · exact ⟨by simp [e1], e2⟩
        · intro y hy hg
          rcases List.mem_cons.1 hy with rfl | hy
          · exact h3 _ rfl
          · exact h2 y hy hg
      | some b =>
        by_cases c2 : a.f1 > b.f1
        · rw [gr1, if_pos c1, if_pos c2] at h
          obtain ⟨h1, h2, h3⟩ := ih _ _ h
          refine ⟨.inr ?_, ?_, fun z hz => ?_⟩
          · rcases h1 with e | ⟨e1, e2⟩
            · cases e; exact ⟨by simp, c1⟩
            · exact ⟨by simp [e1], e2⟩
          · intro y hy hg
            rcases List.mem_cons.1 hy with rfl | hy
            · exact h3 _ rfl
            · exact h2 y hy hg
          · cases hz
            have := h3 _ rfl
            omega
        · rw [gr1, if_pos c1, if_neg c2] at h
          obtain ⟨h1, h2, h3⟩ := ih _ _ h
          refine ⟨?_, ?_, h3⟩
          · rcases h1 with e | ⟨e1, e2⟩
            · exact .inl e
            · exact .inr ⟨by simp [e1], e2⟩
          · intro y hy hg
            rcases List.mem_cons.1 hy with rfl | hy
            · have := h3 _ rfl
              omega
            · exact h2 y hy hg
    · have h' : gr1 g b xs = some x := by cases b <;> (rw [gr1, if_neg c1] at h; exact h)
      obtain ⟨h1, h2, h3⟩ := ih _ _ h'
      refine ⟨?_, ?_, h3⟩
      · rcases h1 with e | ⟨e1, e2⟩
        · exact .inl e
        · exact .inr ⟨by simp [e1], e2⟩
      · intro y hy hg
        rcases List.mem_cons.1 hy with rfl | hy
        · exact absurd hg c1
        · exact h2 y hy hg
theorem gr1_none (g : Int) : ∀ (xs : List S50) (b : Option S50), gr1 g b xs = none → b = none ∧ ∀ y ∈ xs, y.f0 ≠ g := by
  intro xs
  induction xs with
  | nil => intro b h; exact ⟨by cases b <;> exact h, by simp⟩
  | cons a xs ih =>
    intro b h
    by_cases c1 : a.f0 = g
    · cases b with
      | none => rw [gr1, if_pos c1] at h; have := (ih _ h).1; cases this
      | some b =>
        by_cases c2 : a.f1 > b.f1
        · rw [gr1, if_pos c1, if_pos c2] at h; have := (ih _ h).1; cases this
        · rw [gr1, if_pos c1, if_neg c2] at h; have := (ih _ h).1; cases this
    · have h' : gr1 g b xs = none := by cases b <;> (rw [gr1, if_neg c1] at h; exact h)
      obtain ⟨h1, h2⟩ := ih _ h'
      refine ⟨h1, fun y hy => ?_⟩
      rcases List.mem_cons.1 hy with rfl | hy
      · exact c1
      · exact h2 y hy
theorem gr_some (g : Int) : ∀ (l : List S44) (b : Option S50) (x : S50), gr g b l = some x →
    (b = some x ∨ ((∃ p ∈ l, x ∈ p.f2) ∧ x.f0 = g)) ∧ (∀ p ∈ l, ∀ y ∈ p.f2, y.f0 = g → y.f1 ≤ x.f1) ∧ (∀ z, b = some z → z.f1 ≤ x.f1) := by
  intro l
  induction l with
  | nil => intro b x h; exact ⟨.inl h, by simp, fun z hz => by have h' : b = some x := h; rw [h'] at hz; cases hz; exact Int.le_refl _⟩
  | cons p l ih =>
    intro b x h
    have h' : gr g (gr1 g b p.f2) l = some x := h
    obtain ⟨h1, h2, h3⟩ := ih _ _ h'
    cases hb : gr1 g b p.f2 with
    | none =>
      obtain ⟨n1, n2⟩ := gr1_none g _ _ hb
      rw [hb] at h1
      refine ⟨.inr ?_, ?_, fun z hz => by rw [n1] at hz; cases hz⟩
      · rcases h1 with e | ⟨⟨q, hq, hx⟩, e⟩
        · cases e
        · exact ⟨⟨q, by simp [hq], hx⟩, e⟩
      · intro q hq y hy hg
        rcases List.mem_cons.1 hq with rfl | hq
        · exact absurd hg (n2 y hy)
        · exact h2 q hq y hy hg
    | some c =>
      obtain ⟨s1, s2, s3⟩ := gr1_some g _ _ _ hb
      have hc := h3 c hb
      rw [hb] at h1
      refine ⟨?_, ?_, fun z hz => Int.le_trans (s3 z hz) hc⟩
      · rcases h1 with e | ⟨⟨q, hq, hx⟩, e⟩
        · cases e
          rcases s1 with e | ⟨e1, e2⟩
          · exact .inl e
          · exact .inr ⟨⟨p, by simp, e1⟩, e2⟩
        · exact .inr ⟨⟨q, by simp [hq], hx⟩, e⟩
      · intro q hq y hy hg
        rcases List.mem_cons.1 hq with rfl | hq
        · exact Int.le_trans (s2 y hy hg) hc
        · exact h2 q hq y hy hg
theorem agI_get (l : List S44) : ∀ (n : Nat) (g : Int) (i : Nat) (x : S50), (agI l n g)[i]? = some x → gr (g + i) none l = some x := by
  intro n
  induction n with
  | zero => intro g i x h; simp [agI] at h
  | succ n ih =>
    intro g i x h
    simp only [agI] at h
    cases hg : gr g none l with
    | none => rw [hg] at h; simp at h
    | some y =>
      rw [hg] at h
      cases i with
      | zero => simp at h; subst h; simpa using hg
      | succ i =>
        simp at h
        have := ih (g + 1) i x h
        rw [show g + ((i + 1 : Nat) : Int) = g + 1 + (i : Int) from by omega]
        exact this
/-- what the law asks of what is proposed again -/
theorem again_law (l : List S44) (t : Int) (i : Nat) (hi : i < (agI l 16 t).length) :
    (agI l 16 t)[i].f0 = t + i ∧ (∃ p ∈ l, (agI l 16 t)[i] ∈ p.f2) ∧ ∀ p ∈ l, ∀ y ∈ p.f2, y.f0 = (agI l 16 t)[i].f0 → y.f1 ≤ (agI l 16 t)[i].f1 := by
  have h := agI_get l 16 t i _ (List.getElem?_eq_getElem hi)
  obtain ⟨h1, h2, _⟩ := gr_some _ _ _ _ h
  rcases h1 with e | ⟨e1, e2⟩
  · cases e
  · exact ⟨e2, e1, fun p hp y hy hg => h2 p hp y hy (hg.trans e2)⟩

end Go.Proofs.Ytpmbklagjaibgaa.PPlanMerges
