/- The document's reckoning of what comes of promises tells what Merge tells. -/
import Derived.Test.YtpmbklagjaibgaaMergePure
namespace Go.Proofs.Ytpmbklagjaibgaa.PPlanMerges
open Go.RowKit Go.Proofs.YtpmbklagjaibgaaW.PrintWords Go.Proofs.YtpmbklagjaibgaaW.PrintLast Go.Proofs.YtpmbklagjaibgaaW.PrintMore

abbrev Res := Int × Int × List S50 × List S50
/-- the mark that the rest of one promise tells -/
def knj (g tp : Int) (xs : List S50) : Option S50 := if g < tp then (xs.find? fun x => x.f0 == g).map fun x => ⟨g, 0, x.f2⟩ else none

theorem merged_l3_done (l : List S44) (f t : Int) (x9 : List S50) (g : Int) (i : Nat) (hi : i < l.length) (j : Nat) (r : Res) (h : ∃ k, barquelaw19_merged.l2 k l f t x9 g true (wrap64 ((i : Int) + 1)) = some r) :
    ∃ k, barquelaw19_merged.l3 k l f t x9 g true (i : Int) (j : Int) = some r := by
  obtain ⟨k, hk⟩ := h
  refine ⟨k + 2, ?_⟩
  have h6 : barquelaw19_merged.j6 (k + 1) l f t x9 g true (i : Int) (j : Int) false = some r := by
    unfold barquelaw19_merged.j6
    rw [if_neg (by simp)]
    exact hk
  unfold barquelaw19_merged.l3
  rw [if_pos (by omega), if_pos (by omega)]
  split
  · exact h6
  · exact h6
theorem merged_l3 (l : List S44) (f t : Int) (x9 : List S50) (g : Int) (i : Nat) (hi : i < l.length) (hx : l[i].f2.length ≤ 1000000) (h9 : x9.length < 1000000) (r : Res) :
    ∀ d j : Nat, l[i].f2.length = j + d → (∃ k, barquelaw19_merged.l2 k l f t (x9 ++ (knj g l[i].f1 (l[i].f2.drop j)).toList) g (knj g l[i].f1 (l[i].f2.drop j)).isSome (wrap64 ((i : Int) + 1)) = some r) →
      ∃ k, barquelaw19_merged.l3 k l f t x9 g false (i : Int) (j : Int) = some r := by
  intro d
  induction d with
  | zero =>
    intro j hj h
    rw [List.drop_of_length_le (by omega)] at h
    obtain ⟨k, hk⟩ := h
    refine ⟨k + 2, ?_⟩
    unfold barquelaw19_merged.l3
    rw [if_pos (by omega), if_pos (by omega), rd44 l i hi, if_neg (by omega)]
    unfold barquelaw19_merged.j6
    rw [if_neg (by simp)]
    have e : knj g l[i].f1 [] = none := by unfold knj; split <;> rfl
    rw [e] at hk
    simpa using hk
  | succ d ih =>
    intro j hj h
    have hw : wrap64 ((j : Int) + 1) = ((j + 1 : Nat) : Int) := by rw [w64 (by omega) (by omega)]; omega
    have hjl : j < l[i].f2.length := by omega
    rw [List.drop_eq_getElem_cons hjl] at h
    by_cases c2 : g < l[i].f1
    · by_cases c1 : l[i].f2[j].f0 = g
      · have e : knj g l[i].f1 (l[i].f2[j] :: l[i].f2.drop (j + 1)) = some ⟨g, 0, l[i].f2[j].f2⟩ := by
          unfold knj; rw [if_pos c2, List.find?_cons_of_pos (by simpa using c1)]; rfl
        rw [e] at h
        obtain ⟨k, hk⟩ := merged_l3_done l f t _ g i hi (j + 1) r h
        refine ⟨k + 2, ?_⟩
        unfold barquelaw19_merged.l3
        rw [if_pos (by omega), if_pos (by omega), rd44 l i hi, if_pos (by omega)]
        unfold barquelaw19_merged.j6
        rw [if_pos (by simp), if_pos (by omega), if_pos (by omega), rd44 l i hi, if_pos (by omega), if_pos (by omega), if_pos (by omega), rd50 _ j hjl, if_pos c1, if_pos (by omega), hw]
        exact hk
      · have e : knj g l[i].f1 (l[i].f2[j] :: l[i].f2.drop (j + 1)) = knj g l[i].f1 (l[i].f2.drop (j + 1)) := by
          unfold knj; rw [List.find?_cons_of_neg (by simpa using c1)]
        rw [e] at h
        obtain ⟨k, hk⟩ := ih (j + 1) (by omega) h
        refine ⟨k + 2, ?_⟩
        unfold barquelaw19_merged.l3
        rw [if_pos (by omega), if_pos (by omega), rd44 l i hi, if_pos (by omega)]
        unfold barquelaw19_merged.j6
        rw [if_pos (by simp), if_pos (by omega), if_pos (by omega), rd44 l i hi, if_pos (by omega), if_pos (by omega), if_pos (by omega), rd50 _ j hjl, if_neg c1, hw]
        exact hk
    · have e : knj g l[i].f1 (l[i].f2[j] :: l[i].f2.drop (j + 1)) = knj g l[i].f1 (l[i].f2.drop (j + 1)) := by
        unfold knj; rw [if_neg c2, if_neg c2]
      rw [e] at h
      obtain ⟨k, hk⟩ := ih (j + 1) (by omega) h
      refine ⟨k + 2, ?_⟩
      unfold barquelaw19_merged.l3
      rw [if_pos (by omega), if_pos (by omega), rd44 l i hi, if_pos (by omega)]
      unfold barquelaw19_merged.j6
      rw [if_pos (by simp), if_pos (by omega), if_pos (by omega), rd44 l i hi, if_neg (by omega), hw]
      exact hk

theorem merged_l2_done (l : List S44) (f t : Int) (x9 : List S50) (g : Int) (hl : l.length ≤ 1000000) (r : Res) (h : ∃ k, barquelaw19_merged.l1 k l f t x9 (wrap64 (g + 1)) = some r) :
    ∀ d i : Nat, l.length = i + d → ∃ k, barquelaw19_merged.l2 k l f t x9 g true (i : Int) = some r := by
  intro d
  induction d with
  | zero =>
    intro i hi
    obtain ⟨k, hk⟩ := h
    refine ⟨k + 1, ?_⟩
    unfold barquelaw19_merged.l2
    rw [if_neg (by omega)]
    exact hk
  | succ d ih =>
    intro i hi
    have hw : wrap64 ((i : Int) + 1) = ((i + 1 : Nat) : Int) := by rw [w64 (by omega) (by omega)]; omega
    have h2 := ih (i + 1) (by omega)
    rw [← hw] at h2
    obtain ⟨k, hk⟩ := merged_l3_done l f t x9 g i (by omega) 0 r h2
    refine ⟨k + 1, ?_⟩
    unfold barquelaw19_merged.l2
    rw [if_pos (by omega)]
    exact hk
theorem merged_l2 (l : List S44) (f t : Int) (x9 : List S50) (g : Int) (hl : l.length ≤ 1000000) (hx : ∀ p ∈ l, p.f2.length ≤ 1000000) (h9 : x9.length < 1000000) (r : Res) :
    ∀ d i : Nat, l.length = i + d → (∃ k, barquelaw19_merged.l1 k l f t (x9 ++ (kn (l.drop i) g).toList) (wrap64 (g + 1)) = some r) → ∃ k, barquelaw19_merged.l2 k l f t x9 g false (i : Int) = some r := by
  intro d
  induction d with
  | zero =>
    intro i hi h
    rw [List.drop_of_length_le (by omega)] at h
    obtain ⟨k, hk⟩ := h
    refine ⟨k + 1, ?_⟩
    unfold barquelaw19_merged.l2
    rw [if_neg (by omega)]
    simpa [kn] using hk
  | succ d ih =>
    intro i hi h
    have hw : wrap64 ((i : Int) + 1) = ((i + 1 : Nat) : Int) := by rw [w64 (by omega) (by omega)]; omega
    have hil : i < l.length := by omega
    rw [List.drop_eq_getElem_cons hil] at h
    have e : kn1 g l[i] = knj g l[i].f1 (l[i].f2.drop 0) := by rw [List.drop_zero]; rfl
    have h3 : ∃ k, barquelaw19_merged.l2 k l f t (x9 ++ (knj g l[i].f1 (l[i].f2.drop 0)).toList) g (knj g l[i].f1 (l[i].f2.drop 0)).isSome (wrap64 ((i : Int) + 1)) = some r := by
      rw [hw]
      unfold kn at h
      rw [List.findSome?_cons, e] at h
      cases hk : knj g l[i].f1 (l[i].f2.drop 0) with
      | none =>
        rw [hk] at h
        simpa using ih (i + 1) (by omega) h
      | some x =>
        rw [hk] at h
        exact merged_l2_done l f t _ g hl r h d (i + 1) (by omega)
    obtain ⟨k, hk⟩ := merged_l3 l f t x9 g i hil (hx _ (List.getElem_mem hil)) h9 r l[i].f2.length 0 (by omega) h3
    refine ⟨k + 1, ?_⟩
    unfold barquelaw19_merged.l2
    rw [if_pos (by omega)]
    exact hk

theorem merged_l6 (l : List S44) (f t : Int) (x9 x10 : List S50) (g : Int) (i : Nat) (hi : i < l.length) (hx : l[i].f2.length ≤ 1000000) (r : Res) :
    ∀ (d j : Nat) (b : Option S50), l[i].f2.length = j + d →
      (∃ k, barquelaw19_merged.l5 k l f t x9 x10 g (gr1 g b (l[i].f2.drop j)).isSome (wrap64 ((i : Int) + 1)) ((gr1 g b (l[i].f2.drop j)).getD ⟨0, -1, ⟨#[]⟩⟩).f0 ((gr1 g b (l[i].f2.drop j)).getD ⟨0, -1, ⟨#[]⟩⟩).f1 ((gr1 g b (l[i].f2.drop j)).getD ⟨0, -1, ⟨#[]⟩⟩).f2 = some r) →
      ∃ k, barquelaw19_merged.l6 k l f t x9 x10 g b.isSome (i : Int) (j : Int) (b.getD ⟨0, -1, ⟨#[]⟩⟩).f0 (b.getD ⟨0, -1, ⟨#[]⟩⟩).f1 (b.getD ⟨0, -1, ⟨#[]⟩⟩).f2 = some r := by
  intro d
  induction d with
  | zero =>
    intro j b hj h
    rw [List.drop_of_length_le (by omega)] at h
    obtain ⟨k, h⟩ := h
    refine ⟨k + 1, ?_⟩
    unfold barquelaw19_merged.l6
    rw [if_pos (by omega), if_pos (by omega), rd44 l i hi, if_neg (by omega)]
    cases b <;> exact h
  | succ d ih =>
    intro j b hj h
    have hw : wrap64 ((j : Int) + 1) = ((j + 1 : Nat) : Int) := by rw [w64 (by omega) (by omega)]; omega
    have hjl : j < l[i].f2.length := by omega
    rw [List.drop_eq_getElem_cons hjl] at h
    have hgo : ∀ b', gr1 g b (l[i].f2[j] :: l[i].f2.drop (j + 1)) = gr1 g b' (l[i].f2.drop (j + 1)) → ∃ k, barquelaw19_merged.l6 k l f t x9 x10 g b'.isSome (i : Int) ((j + 1 : Nat) : Int) (b'.getD ⟨0, -1, ⟨#[]⟩⟩).f0 (b'.getD ⟨0, -1, ⟨#[]⟩⟩).f1 (b'.getD ⟨0, -1, ⟨#[]⟩⟩).f2 = some r := by
      intro b' e
      rw [e] at h
      exact ih (j + 1) b' (by omega) h
    by_cases c1 : l[i].f2[j].f0 = g
    · cases b with
      | none =>
        obtain ⟨k, hk⟩ := hgo (some l[i].f2[j]) (by rw [gr1, if_pos c1])
        refine ⟨k + 1, ?_⟩
        unfold barquelaw19_merged.l6
        rw [if_pos (by omega), if_pos (by omega), rd44 l i hi, if_pos (by omega), if_pos (by omega), rd50 _ j hjl, hw, if_pos c1]
        exact hk
      | some b =>
        by_cases c2 : l[i].f2[j].f1 > b.f1
        · obtain ⟨k, hk⟩ := hgo (some l[i].f2[j]) (by rw [gr1, if_pos c1, if_pos c2])
          refine ⟨k + 1, ?_⟩
          unfold barquelaw19_merged.l6
          rw [if_pos (by omega), if_pos (by omega), rd44 l i hi, if_pos (by omega), if_pos (by omega), rd50 _ j hjl, hw, if_pos c1]
          simp only [Option.isSome_some, if_true, Option.getD_some]
          rw [if_pos c2]
          exact hk
        · obtain ⟨k, hk⟩ := hgo (some b) (by rw [gr1, if_pos c1, if_neg c2])
          refine ⟨k + 1, ?_⟩
          unfold barquelaw19_merged.l6
          rw [if_pos (by omega), if_pos (by omega), rd44 l i hi, if_pos (by omega), if_pos (by omega), rd50 _ j hjl, hw, if_pos c1]
          simp only [Option.isSome_some, if_true, Option.getD_some]
          rw [if_neg c2]
          exact hk
    · obtain ⟨k, hk⟩ := hgo b (by cases b <;> rw [gr1, if_neg c1])
      refine ⟨k + 1, ?_⟩
      unfold barquelaw19_merged.l6
      rw [if_pos (by omega), if_pos (by omega), rd44 l i hi, if_pos (by omega), if_pos (by omega), rd50 _ j hjl, hw, if_neg c1]
      exact hk
theorem merged_l5 (l : List S44) (f t : Int) (x9 x10 : List S50) (g : Int) (hl : l.length ≤ 1000000) (hx : ∀ p ∈ l, p.f2.length ≤ 1000000) (h10 : x10.length < 1000000) (r : Res) :
    ∀ (d i : Nat) (b : Option S50), l.length = i + d →
      (match gr g b (l.drop i) with | none => r = (f, t, x9, x10) | some x => ∃ k, barquelaw19_merged.l4 k l f t x9 (x10 ++ [x]) (wrap64 (g + 1)) = some r) →
      ∃ k, barquelaw19_merged.l5 k l f t x9 x10 g b.isSome (i : Int) (b.getD ⟨0, -1, ⟨#[]⟩⟩).f0 (b.getD ⟨0, -1, ⟨#[]⟩⟩).f1 (b.getD ⟨0, -1, ⟨#[]⟩⟩).f2 = some r := by
  intro d
  induction d with
  | zero =>
    intro i b hi h
    rw [List.drop_of_length_le (by omega)] at h
    cases b with
    | none =>
      have h' : r = (f, t, x9, x10) := h
      refine ⟨1, ?_⟩
      unfold barquelaw19_merged.l5
      rw [if_neg (by omega), if_neg (by simp), h']
    | some x =>
      obtain ⟨k, hk⟩ := (show ∃ k, barquelaw19_merged.l4 k l f t x9 (x10 ++ [x]) (wrap64 (g + 1)) = some r from h)
      refine ⟨k + 1, ?_⟩
      unfold barquelaw19_merged.l5
      rw [if_neg (by omega), if_pos (by simp), if_pos (by omega)]
      exact hk
  | succ d ih =>
    intro i b hi h
    have hw : wrap64 ((i : Int) + 1) = ((i + 1 : Nat) : Int) := by rw [w64 (by omega) (by omega)]; omega
    have hil : i < l.length := by omega
    rw [List.drop_eq_getElem_cons hil] at h
    have h2 := ih (i + 1) (gr1 g b l[i].f2) (by omega) h
    rw [← hw] at h2
    obtain ⟨k, hk⟩ := merged_l6 l f t x9 x10 g i hil (hx _ (List.getElem_mem hil)) r l[i].f2.length 0 b (by omega) (by rw [List.drop_zero]; exact h2)
    refine ⟨k + 1, ?_⟩
    unfold barquelaw19_merged.l5
    rw [if_pos (by omega)]
    exact hk
theorem merged_l4 (l : List S44) (hl : l.length ≤ 1000000) (hx : ∀ p ∈ l, p.f2.length ≤ 1000000) (fl tp : Int) (x9 : List S50) (h0 : 0 ≤ tp) (h1 : tp ≤ 1152921504606846976) :
    ∀ (d t : Nat) (x10 : List S50), 16 = t + d → x10.length ≤ t → ∃ k, barquelaw19_merged.l4 k l fl tp x9 x10 (tp + t) = some (fl, tp, x9, x10 ++ agI l d (tp + t)) := by
  intro d
  induction d with
  | zero =>
    intro t x10 ht hx5
    refine ⟨1, ?_⟩
    unfold barquelaw19_merged.l4
    rw [w64 (by omega) (by omega), if_neg (by omega)]
    simp [agI]
  | succ d ih =>
    intro t x10 ht hx5
    have hw : wrap64 ((tp + (t : Int)) + 1) = tp + ((t + 1 : Nat) : Int) := by rw [w64 (by omega) (by omega)]; omega
    obtain ⟨k, hk⟩ := merged_l5 l fl tp x9 x10 (tp + t) hl hx (by omega) (fl, tp, x9, x10 ++ agI l (d + 1) (tp + t)) l.length 0 none (by omega) (by
      rw [List.drop_zero, hw]
      simp only [agI]
      cases hg : gr (tp + t) none l with
      | none => simp
      | some x =>
        have := ih (t + 1) (x10 ++ [x]) (by omega) (by simp; omega)
        rw [List.append_assoc, show tp + ((t + 1 : Nat) : Int) = tp + t + 1 from by omega] at this
        rw [show tp + ((t + 1 : Nat) : Int) = tp + t + 1 from by omega]
        exact this)
    refine ⟨k + 1, ?_⟩
    unfold barquelaw19_merged.l4
    rw [w64 (x := tp + 16) (by omega) (by omega), if_pos (by omega)]
    exact hk

theorem merged_l1 (l : List S44) (hl : l.length ≤ 1000000) (hx : ∀ p ∈ l, p.f2.length ≤ 1000000) (fl tp : Int) (h0 : 0 ≤ fl) (hft : fl ≤ tp) (h1 : tp ≤ 1152921504606846976) :
    ∀ (d t : Nat) (x9 : List S50), min (tp - fl).toNat 64 = t + d → x9.length ≤ t → ∃ k, barquelaw19_merged.l1 k l fl tp x9 (fl + t) = some (fl, tp, x9 ++ chI l d (fl + t), agI l 16 tp) := by
  intro d
  induction d with
  | zero =>
    intro t x9 ht hx4
    obtain ⟨k, hk⟩ := merged_l4 l hl hx fl tp x9 (by omega) h1 16 0 [] (by omega) (by simp)
    refine ⟨k + 2, ?_⟩
    have hk' : barquelaw19_merged.j3 (k + 1) l fl tp x9 [] (fl + t) false = some (fl, tp, x9 ++ chI l 0 (fl + t), agI l 16 tp) := by
      unfold barquelaw19_merged.j3
      rw [if_neg (by simp)]
      simpa [chI] using hk
    unfold barquelaw19_merged.l1
    by_cases c : fl + (t : Int) < tp
    · rw [if_pos c, w64 (by omega) (by omega), decide_eq_false (by omega)]
      exact hk'
    · rw [if_neg c]
      exact hk'
  | succ d ih =>
    intro t x9 ht hx4
    have hw : wrap64 ((fl + (t : Int)) + 1) = fl + ((t + 1 : Nat) : Int) := by rw [w64 (by omega) (by omega)]; omega
    obtain ⟨k, hk⟩ := merged_l2 l fl tp x9 (fl + t) hl hx (by omega) (fl, tp, x9 ++ chI l (d + 1) (fl + t), agI l 16 tp) l.length 0 (by omega) (by
      rw [List.drop_zero, hw]
      have h2 : (kn l (fl + t)).toList.length ≤ 1 := by cases kn l (fl + t) <;> simp
      have := ih (t + 1) (x9 ++ (kn l (fl + t)).toList) (by omega) (by simp only [List.length_append]; omega)
      simp only [chI]
      rw [List.append_assoc, show fl + ((t + 1 : Nat) : Int) = fl + t + 1 from by omega] at this
      rw [show fl + ((t + 1 : Nat) : Int) = fl + t + 1 from by omega]
      exact this)
    refine ⟨k + 2, ?_⟩
    unfold barquelaw19_merged.l1
    rw [if_pos (by omega), w64 (x := fl + 64) (by omega) (by omega), decide_eq_true (by omega)]
    unfold barquelaw19_merged.j3
    rw [if_pos rfl]
    exact hk

theorem merged_l0 (l : List S44) (hl : l.length ≤ 1000000) (hx : ∀ p ∈ l, p.f2.length ≤ 1000000) (hT : ∀ p ∈ l, p.f1 ≤ 1152921504606846976) :
    ∀ (d i : Nat) (f t : Int), l.length = i + d → 0 ≤ f → 0 ≤ t → t ≤ 1152921504606846976 → ∃ k, barquelaw19_merged.l0 k l f t (i : Int) = some (out l (flF f (l.drop i)) (tpF t (l.drop i))) := by
  intro d
  induction d with
  | zero =>
    intro i f t hi hf ht0 ht
    have hm : 0 ≤ mn f t ∧ mn f t ≤ t := by unfold mn; split <;> omega
    obtain ⟨k, hk⟩ := merged_l1 l hl hx (mn f t) t hm.1 hm.2 ht (min (t - mn f t).toNat 64) 0 [] (by omega) (by simp)
    refine ⟨k + 2, ?_⟩
    have hj : barquelaw19_merged.j1 (k + 1) l (mn f t) t = some (out l (flF f (l.drop i)) (tpF t (l.drop i))) := by
      unfold barquelaw19_merged.j1
      rw [List.drop_of_length_le (by omega)]
      simpa [out, flF, tpF] using hk
    unfold barquelaw19_merged.l0
    rw [if_neg (by omega)]
    unfold mn at hj
    by_cases c : f > t
    · rw [if_pos c]
      rw [if_pos c] at hj
      exact hj
    · rw [if_neg c]
      rw [if_neg c] at hj
      exact hj
  | succ d ih =>
    intro i f t hi hf ht0 ht
    have hw : wrap64 ((i : Int) + 1) = ((i + 1 : Nat) : Int) := by rw [w64 (by omega) (by omega)]; omega
    have hil : i < l.length := by omega
    have hb := hT _ (List.getElem_mem hil)
    obtain ⟨k, hk⟩ := ih (i + 1) (mx f l[i].f0) (mx t l[i].f1) (by omega) (by have := @mx_le f l[i].f0; omega) (by have := @mx_le t l[i].f1; omega) (by unfold mx; split <;> omega)
    refine ⟨k + 1, ?_⟩
    rw [List.drop_eq_getElem_cons hil]
    have hk' : barquelaw19_merged.l0 k l (mx f l[i].f0) (mx t l[i].f1) ((i + 1 : Nat) : Int) = some (out l (flF f (l[i] :: l.drop (i + 1))) (tpF t (l[i] :: l.drop (i + 1)))) := hk
    generalize some (out l (flF f (l[i] :: l.drop (i + 1))) (tpF t (l[i] :: l.drop (i + 1)))) = R at hk' ⊢
    unfold barquelaw19_merged.l0
    rw [if_pos (by omega), if_pos (by omega), rd44 l i hil, hw]
    unfold mx at hk'
    by_cases c1 : l[i].f0 > f
    · rw [if_pos c1]
      rw [if_pos c1] at hk'
      by_cases c2 : l[i].f1 > t
      · rw [if_pos c2]
        rw [if_pos c2] at hk'
        exact hk'
      · rw [if_neg c2]
        rw [if_neg c2] at hk'
        exact hk'
    · rw [if_neg c1]
      rw [if_neg c1] at hk'
      by_cases c2 : l[i].f1 > t
      · rw [if_pos c2]
        rw [if_pos c2] at hk'
        exact hk'
      · rw [if_neg c2]
        rw [if_neg c2] at hk'
        exact hk'
theorem merged_f (l : List S44) (hl : l.length ≤ 1000000) (hx : ∀ p ∈ l, p.f2.length ≤ 1000000) (hT : ∀ p ∈ l, p.f1 ≤ 1152921504606846976) : ∃ k, barquelaw19_merged.f k l = some (out l (flF 0 l) (tpF 0 l)) := by
  have := merged_l0 l hl hx hT l.length 0 0 0 (by omega) (by omega) (by omega) (by omega)
  simpa [barquelaw19_merged.f] using this

end Go.Proofs.Ytpmbklagjaibgaa.PPlanMerges
