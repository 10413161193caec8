/- What Merge of a few promises tells, in plain words; and that the document's reckoning tells the same. -/
import Derived.Test.YtpmbklagjaibgaaPPlanMergesx8
import Derived.Test.YtpmbklagjaibgaaPPlanMergesx9
import Derived.Test.YtpmbklagjaibgaaPPlanMergesx10
namespace Go.Proofs.Ytpmbklagjaibgaa.PPlanMerges
open Go.RowKit Go.Proofs.YtpmbklagjaibgaaW.PrintWords Go.Proofs.YtpmbklagjaibgaaW.PrintLast Go.Proofs.YtpmbklagjaibgaaW.PrintMore

theorem w64 {x : Int} (h : -9223372036854775808 ≤ x) (h' : x ≤ 9223372036854775807) : wrap64 x = x := by simp only [wrap64]; omega
theorem rd50 (xs : List S50) (j : Nat) (h : j < xs.length) : rd_T50 xs (j : Int) = xs[j] := by unfold rd_T50; rw [Int.toNat_natCast, List.getD_eq_getElem?_getD, List.getElem?_eq_getElem h]; rfl
theorem rd44 (xs : List S44) (j : Nat) (h : j < xs.length) : rd_T44 xs (j : Int) = xs[j] := by unfold rd_T44; rw [Int.toNat_natCast, List.getD_eq_getElem?_getD, List.getElem?_eq_getElem h]; rfl

/-- the mark that one promise tells of a generation -/
def kn1 (g : Int) (p : S44) : Option S50 := if g < p.f1 then (p.f2.find? fun x => x.f0 == g).map fun x => ⟨g, 0, x.f2⟩ else none
def kn (l : List S44) (g : Int) : Option S50 := l.findSome? (kn1 g)
def knOut : Option S50 → Int × Int × ByteArray × Bool
  | none => (0, 0, ⟨#[]⟩, false)
  | some x => (x.f0, x.f1, x.f2, true)

theorem known_l1 (g : Int) (l : List S44) (n i : Int) (xs : List S50) (a tp : Int) (r : Int × Int × ByteArray × Bool) (hx : xs.length ≤ 1000000) (h : ∃ k, plan_known.l0 k g l n (wrap64 (i + 1)) = some r) :
    ∀ d j : Nat, xs.length = j + d → ∃ k, plan_known.l1 k g l n i xs (xs.length : Int) (j : Int) a tp xs = some (match (if g < tp then ((xs.drop j).find? fun x => x.f0 == g) else none) with | some x => (g, 0, x.f2, true) | none => r) := by
  intro d
  induction d with
  | zero =>
    intro j hj
    obtain ⟨k, h⟩ := h
    refine ⟨k + 1, ?_⟩
    unfold plan_known.l1
    rw [if_neg (by omega), h, List.drop_of_length_le (by omega)]
    simp
  | succ d ih =>
    intro j hj
    obtain ⟨k, hk⟩ := ih (j + 1) (by omega)
    have hw : wrap64 ((j : Int) + 1) = ((j + 1 : Nat) : Int) := by rw [w64 (by omega) (by omega)]; omega
    refine ⟨k + 1, ?_⟩
    unfold plan_known.l1
    rw [if_pos (by omega), if_pos (by omega), if_pos (by omega), rd50 xs j (by omega), hw, hk, List.drop_eq_getElem_cons (by omega : j < xs.length)]
    by_cases c1 : xs[j].f0 = g
    · by_cases c2 : g < tp
      · rw [if_pos c1, if_pos c2, if_pos c2, List.find?_cons_of_pos (by simpa using c1)]
      · rw [if_pos c1, if_neg c2, if_neg c2, if_neg c2]
    · rw [if_neg c1, List.find?_cons_of_neg (by simpa using c1)]

theorem known_l0 (g : Int) (l : List S44) (hl : l.length ≤ 1000000) (hx : ∀ p ∈ l, p.f2.length ≤ 1000000) :
    ∀ d i : Nat, l.length = i + d → ∃ k, plan_known.l0 k g l (l.length : Int) (i : Int) = some (knOut (kn (l.drop i) g)) := by
  intro d
  induction d with
  | zero =>
    intro i hi
    refine ⟨1, ?_⟩
    unfold plan_known.l0
    rw [if_neg (by omega), List.drop_of_length_le (by omega)]
    rfl
  | succ d ih =>
    intro i hi
    have hw : wrap64 ((i : Int) + 1) = ((i + 1 : Nat) : Int) := by rw [w64 (by omega) (by omega)]; omega
    have h2 := ih (i + 1) (by omega)
    rw [← hw] at h2
    have hil : i < l.length := by omega
    obtain ⟨k, hk⟩ := known_l1 g l l.length i l[i].f2 l[i].f0 l[i].f1 _ (hx _ (List.getElem_mem hil)) h2 l[i].f2.length 0 (by omega)
    refine ⟨k + 1, ?_⟩
    unfold plan_known.l0
    rw [if_pos (by omega), if_pos (by omega), if_pos (by omega), rd44 l i hil]
    rw [show (0 : Int) = ((0 : Nat) : Int) from rfl, hk, List.drop_eq_getElem_cons hil]
    congr 1
    unfold kn
    rw [List.findSome?_cons]
    by_cases c : g < l[i].f1
    · rw [if_pos c, List.drop_zero, kn1, if_pos c]
      cases hf : l[i].f2.find? (fun x => x.f0 == g) with
      | none => rfl
      | some x => rfl
    · rw [if_neg c, kn1, if_neg c]
theorem known_f (g : Int) (l : List S44) (hl : l.length ≤ 1000000) (hx : ∀ p ∈ l, p.f2.length ≤ 1000000) : ∃ k, plan_known.f k l g = some (knOut (kn l g)) := by
  have := known_l0 g l hl hx l.length 0 (by omega)
  simpa [plan_known.f] using this

/-- the greatest that a list tells, behind what is had -/
def gr1 (g : Int) : Option S50 → List S50 → Option S50
  | b, [] => b
  | none, x :: xs => if x.f0 = g then gr1 g (some x) xs else gr1 g none xs
  | some b, x :: xs => if x.f0 = g then (if x.f1 > b.f1 then gr1 g (some x) xs else gr1 g (some b) xs) else gr1 g (some b) xs
def gr (g : Int) (b : Option S50) (l : List S44) : Option S50 := l.foldl (fun b p => gr1 g b p.f2) b

def grOut : Option S50 → Int × Int × ByteArray × Bool
  | none => (0, 0, ⟨#[]⟩, false)
  | some x => (x.f0, x.f1, x.f2, true)

theorem greatest_l1 (g : Int) (l : List S44) (n i : Int) (xs : List S50) (r : Int × Int × ByteArray × Bool) (hx : xs.length ≤ 1000000) :
    ∀ (d j : Nat) (b : Option S50), xs.length = j + d →
      (∃ k, plan_greatest.l0 k g (gr1 g b (xs.drop j)).isSome l n (wrap64 (i + 1)) ((gr1 g b (xs.drop j)).getD ⟨0, 0, ⟨#[]⟩⟩).f0 ((gr1 g b (xs.drop j)).getD ⟨0, 0, ⟨#[]⟩⟩).f1 ((gr1 g b (xs.drop j)).getD ⟨0, 0, ⟨#[]⟩⟩).f2 = some r) →
      ∃ k, plan_greatest.l1 k g b.isSome l n i xs (xs.length : Int) (j : Int) (b.getD ⟨0, 0, ⟨#[]⟩⟩).f0 (b.getD ⟨0, 0, ⟨#[]⟩⟩).f1 (b.getD ⟨0, 0, ⟨#[]⟩⟩).f2 = some r := by
  intro d
  induction d with
  | zero =>
    intro j b hj h
    rw [List.drop_of_length_le (by omega)] at h
    obtain ⟨k, h⟩ := h
    refine ⟨k + 1, ?_⟩
    unfold plan_greatest.l1
    rw [if_neg (by omega)]
    cases b <;> exact h
  | succ d ih =>
    intro j b hj h
    have hw : wrap64 ((j : Int) + 1) = ((j + 1 : Nat) : Int) := by rw [w64 (by omega) (by omega)]; omega
    rw [List.drop_eq_getElem_cons (by omega : j < xs.length)] at h
    have hgo : ∀ b', gr1 g b (xs[j] :: xs.drop (j + 1)) = gr1 g b' (xs.drop (j + 1)) → ∃ k, plan_greatest.l1 k g b'.isSome l n i xs (xs.length : Int) ((j + 1 : Nat) : Int) (b'.getD ⟨0, 0, ⟨#[]⟩⟩).f0 (b'.getD ⟨0, 0, ⟨#[]⟩⟩).f1 (b'.getD ⟨0, 0, ⟨#[]⟩⟩).f2 = some r := by
      intro b' e
      rw [e] at h
      exact ih (j + 1) b' (by omega) h
    by_cases c1 : xs[j].f0 = g
    · cases b with
      | none =>
        obtain ⟨k, hk⟩ := hgo (some xs[j]) (by rw [gr1, if_pos c1])
        refine ⟨k + 1, ?_⟩
        unfold plan_greatest.l1
        rw [if_pos (by omega), if_pos (by omega), if_pos (by omega), rd50 xs j (by omega), hw, if_pos c1]
        exact hk
      | some b =>
        by_cases c2 : xs[j].f1 > b.f1
        · obtain ⟨k, hk⟩ := hgo (some xs[j]) (by rw [gr1, if_pos c1, if_pos c2])
          refine ⟨k + 1, ?_⟩
          unfold plan_greatest.l1
          rw [if_pos (by omega), if_pos (by omega), if_pos (by omega), rd50 xs j (by omega), hw, if_pos c1]
          simp only [Option.isSome_some, if_true, Option.getD_some]
          rw [if_pos c2]
          exact hk
        · obtain ⟨k, hk⟩ := hgo (some b) (by rw [gr1, if_pos c1, if_neg c2])
          refine ⟨k + 1, ?_⟩
          unfold plan_greatest.l1
          rw [if_pos (by omega), if_pos (by omega), if_pos (by omega), rd50 xs j (by omega), hw, if_pos c1]
          simp only [Option.isSome_some, if_true, Option.getD_some]
          rw [if_neg c2]
          exact hk
    · obtain ⟨k, hk⟩ := hgo b (by cases b <;> rw [gr1, if_neg c1])
      refine ⟨k + 1, ?_⟩
      unfold plan_greatest.l1
      rw [if_pos (by omega), if_pos (by omega), if_pos (by omega), rd50 xs j (by omega), hw, if_neg c1]
      exact hk

theorem greatest_l0 (g : Int) (l : List S44) (hl : l.length ≤ 1000000) (hx : ∀ p ∈ l, p.f2.length ≤ 1000000) :
    ∀ (d i : Nat) (b : Option S50), l.length = i + d → ∃ k, plan_greatest.l0 k g b.isSome l (l.length : Int) (i : Int) (b.getD ⟨0, 0, ⟨#[]⟩⟩).f0 (b.getD ⟨0, 0, ⟨#[]⟩⟩).f1 (b.getD ⟨0, 0, ⟨#[]⟩⟩).f2 = some (grOut (gr g b (l.drop i))) := by
  intro d
  induction d with
  | zero =>
    intro i b hi
    refine ⟨1, ?_⟩
    unfold plan_greatest.l0
    rw [if_neg (by omega), List.drop_of_length_le (by omega)]
    cases b <;> rfl
  | succ d ih =>
    intro i b hi
    have hw : wrap64 ((i : Int) + 1) = ((i + 1 : Nat) : Int) := by rw [w64 (by omega) (by omega)]; omega
    have hil : i < l.length := by omega
    have h2 := ih (i + 1) (gr1 g b l[i].f2) (by omega)
    rw [← hw] at h2
    rw [List.drop_eq_getElem_cons hil]
    obtain ⟨k, hk⟩ := greatest_l1 g l l.length i l[i].f2 _ (hx _ (List.getElem_mem hil)) l[i].f2.length 0 b (by omega) (by rw [List.drop_zero]; exact h2)
    refine ⟨k + 1, ?_⟩
    unfold plan_greatest.l0
    rw [if_pos (by omega), if_pos (by omega), if_pos (by omega), rd44 l i hil]
    exact hk
theorem greatest_f (g : Int) (l : List S44) (hl : l.length ≤ 1000000) (hx : ∀ p ∈ l, p.f2.length ≤ 1000000) : ∃ k, plan_greatest.f k l g = some (grOut (gr g none l)) := by
  have := greatest_l0 g l hl hx l.length 0 none (by omega)
  simpa [plan_greatest.f] using this

theorem up {α : Type} {f : Nat → Option α} (h : ∀ k, LeO (f k) (f (k + 1))) {k m : Nat} (hk : k ≤ m) {r : α} (e : f k = some r) : f m = some r := by
  obtain ⟨d, rfl⟩ := Nat.exists_eq_add_of_le hk
  induction d with
  | zero => exact e
  | succ d ih => exact h _ _ (ih (by omega))

/-- what is chosen: of each generation from g on, n of them -/
def chI (l : List S44) : Nat → Int → List S50
  | 0, _ => []
  | n + 1, g => (kn l g).toList ++ chI l n (g + 1)
/-- what is proposed again: from g on, at most n, without a gap -/
def agI (l : List S44) : Nat → Int → List S50
  | 0, _ => []
  | n + 1, g => match gr g none l with
    | none => []
    | some x => x :: agI l n (g + 1)
theorem chI_len (l : List S44) : ∀ n g, (chI l n g).length ≤ n := by
  intro n
  induction n with
  | zero => intro g; simp [chI]
  | succ n ih =>
    intro g
    have := ih (g + 1)
    have h2 : (kn l g).toList.length ≤ 1 := by cases kn l g <;> simp
    simp only [chI, List.length_append]
    omega

theorem merge_l2 (l : List S44) (hl : l.length ≤ 1000000) (hx : ∀ p ∈ l, p.f2.length ≤ 1000000) (fl tp : Int) (x4 : List S50) (h0 : 0 ≤ tp) (h1 : tp ≤ 1152921504606846976) :
    ∀ (d t : Nat) (x5 : List S50), 16 = t + d → x5.length ≤ t → ∃ k, plan_Merge.l2 k l fl tp x4 x5 (tp + t) = some (fl, tp, x4, x5 ++ agI l d (tp + t)) := by
  intro d
  induction d with
  | zero =>
    intro t x5 ht hx5
    refine ⟨1, ?_⟩
    unfold plan_Merge.l2
    rw [w64 (by omega) (by omega), if_neg (by omega)]
    simp [agI]
  | succ d ih =>
    intro t x5 ht hx5
    have hw : wrap64 ((tp + (t : Int)) + 1) = tp + ((t + 1 : Nat) : Int) := by rw [w64 (by omega) (by omega)]; omega
    obtain ⟨k1, hk1⟩ := greatest_f (tp + t) l hl hx
    simp only [agI]
    cases hg : gr (tp + t) none l with
    | none =>
      rw [hg] at hk1
      refine ⟨k1 + 1, ?_⟩
      unfold plan_Merge.l2
      rw [w64 (by omega) (by omega), if_pos (by omega), hk1]
      simp [grOut]
    | some x =>
      rw [hg] at hk1
      obtain ⟨k2, hk2⟩ := ih (t + 1) (x5 ++ [x]) (by omega) (by simp; omega)
      refine ⟨max k1 k2 + 1, ?_⟩
      have e1 : plan_greatest.f (max k1 k2) l (tp + t) = _ := up (fun k => plan_greatest.mono l (tp + t) k) (Nat.le_max_left k1 k2) hk1
      have e2 := up (f := fun k => plan_Merge.l2 k l fl tp x4 (x5 ++ [x]) (tp + ((t + 1 : Nat) : Int))) (fun k => (plan_Merge.mono_l k).2.2.2 _ _ _ _ _ _) (Nat.le_max_right k1 k2) hk2
      unfold plan_Merge.l2
      rw [w64 (x := (tp + (t : Int)) - tp) (by omega) (by omega), if_pos (by omega), e1]
      simp only [grOut, Option.bind_some, if_true]
      rw [if_pos (by omega), hw]
      refine Eq.trans e2 ?_
      rw [List.append_assoc, show tp + ((t + 1 : Nat) : Int) = tp + t + 1 from by omega]
      rfl

theorem merge_l1 (l : List S44) (hl : l.length ≤ 1000000) (hx : ∀ p ∈ l, p.f2.length ≤ 1000000) (fl tp : Int) (h0 : 0 ≤ fl) (hft : fl ≤ tp) (h1 : tp ≤ 1152921504606846976) :
    ∀ (d t : Nat) (x4 : List S50), min (tp - fl).toNat 64 = t + d → x4.length ≤ t → ∃ k, plan_Merge.l1 k l fl tp x4 (fl + t) = some (fl, tp, x4 ++ chI l d (fl + t), agI l 16 tp) := by
  intro d
  induction d with
  | zero =>
    intro t x4 ht hx4
    obtain ⟨k, hk⟩ := merge_l2 l hl hx fl tp x4 (by omega) h1 16 0 [] (by omega) (by simp)
    refine ⟨k + 2, ?_⟩
    have hk' : plan_Merge.j2 (k + 1) l fl tp x4 [] (fl + t) false = some (fl, tp, x4 ++ chI l 0 (fl + t), agI l 16 tp) := by
      unfold plan_Merge.j2
      rw [if_neg (by simp)]
      simpa [chI] using hk
    unfold plan_Merge.l1
    by_cases c : fl + (t : Int) < tp
    · rw [if_pos c, w64 (by omega) (by omega), decide_eq_false (by omega)]
      exact hk'
    · rw [if_neg c]
      exact hk'
  | succ d ih =>
    intro t x4 ht hx4
    have hw : wrap64 ((fl + (t : Int)) + 1) = fl + ((t + 1 : Nat) : Int) := by rw [w64 (by omega) (by omega)]; omega
    obtain ⟨k1, hk1⟩ := known_f (fl + t) l hl hx
    simp only [chI]
    cases hg : kn l (fl + t) with
    | none =>
      rw [hg] at hk1
      obtain ⟨k2, hk2⟩ := ih (t + 1) x4 (by omega) (by omega)
      refine ⟨max k1 k2 + 2, ?_⟩
      have e1 : plan_known.f (max k1 k2) l (fl + t) = _ := up (fun k => plan_known.mono l (fl + t) k) (Nat.le_max_left k1 k2) hk1
      have e2 := up (f := fun k => plan_Merge.l1 k l fl tp x4 (fl + ((t + 1 : Nat) : Int))) (fun k => (plan_Merge.mono_l k).2.1 _ _ _ _ _) (Nat.le_max_right k1 k2) hk2
      unfold plan_Merge.l1
      rw [if_pos (by omega), w64 (x := (fl + (t : Int)) - fl) (by omega) (by omega), decide_eq_true (by omega)]
      unfold plan_Merge.j2
      rw [if_pos rfl, e1]
      simp only [knOut, Option.bind_some]
      rw [if_neg (by simp), hw]
      refine Eq.trans e2 ?_
      rw [show fl + ((t + 1 : Nat) : Int) = fl + t + 1 from by omega]
      rfl
    | some x =>
      rw [hg] at hk1
      obtain ⟨k2, hk2⟩ := ih (t + 1) (x4 ++ [x]) (by omega) (by simp; omega)
      refine ⟨max k1 k2 + 2, ?_⟩
      have e1 : plan_known.f (max k1 k2) l (fl + t) = _ := up (fun k => plan_known.mono l (fl + t) k) (Nat.le_max_left k1 k2) hk1
      have e2 := up (f := fun k => plan_Merge.l1 k l fl tp (x4 ++ [x]) (fl + ((t + 1 : Nat) : Int))) (fun k => (plan_Merge.mono_l k).2.1 _ _ _ _ _) (Nat.le_max_right k1 k2) hk2
      unfold plan_Merge.l1
      rw [if_pos (by omega), w64 (x := (fl + (t : Int)) - fl) (by omega) (by omega), decide_eq_true (by omega)]
      unfold plan_Merge.j2
      rw [if_pos rfl, e1]
      simp only [knOut, Option.bind_some, if_true]
      rw [if_pos (by omega), hw]
      refine Eq.trans e2 ?_
      rw [show fl + ((t + 1 : Nat) : Int) = fl + t + 1 from by omega, List.append_assoc]
      rfl

/-- the greatest floor, the greatest top -/
def flF (a : Int) (l : List S44) : Int := l.foldl (fun a p => mx a p.f0) a
def tpF (a : Int) (l : List S44) : Int := l.foldl (fun a p => mx a p.f1) a
/-- what comes of promises -/
def out (l : List S44) (f t : Int) : Int × Int × List S50 × List S50 := (mn f t, t, chI l (min (t - mn f t).toNat 64) (mn f t), agI l 16 t)
theorem mx_le {a b : Int} : a ≤ mx a b := by unfold mx; split <;> omega
theorem tpF_bound (B : Int) : ∀ (l : List S44) (a : Int), 0 ≤ a → a ≤ B → (∀ p ∈ l, p.f1 ≤ B) → 0 ≤ tpF a l ∧ tpF a l ≤ B := by
  intro l
  induction l with
  | nil => intro a h0 h1 _; exact ⟨h0, h1⟩
  | cons p l ih =>
    intro a h0 h1 h
    refine ih (mx a p.f1) (by have := @mx_le a p.f1; omega) ?_ (fun q hq => h q (by simp [hq]))
    have := h p (by simp)
    unfold mx; split <;> omega
theorem flF_bound : ∀ (l : List S44) (a : Int), 0 ≤ a → 0 ≤ flF a l := by
  intro l
  induction l with
  | nil => intro a h0; exact h0
  | cons p l ih => intro a h0; exact ih (mx a p.f0) (by have := @mx_le a p.f0; omega)

theorem merge_l0 (l : List S44) (hl : l.length ≤ 1000000) (hx : ∀ p ∈ l, p.f2.length ≤ 1000000) (hT : ∀ p ∈ l, p.f1 ≤ 1152921504606846976) :
    ∀ (d i : Nat) (f t : Int), l.length = i + d → 0 ≤ f → 0 ≤ t → t ≤ 1152921504606846976 → ∃ k, plan_Merge.l0 k l f t l (l.length : Int) (i : Int) = some (out l (flF f (l.drop i)) (tpF t (l.drop i))) := by
  intro d
  induction d with
  | zero =>
    intro i f t hi hf ht0 ht
    have hm : 0 ≤ mn f t ∧ mn f t ≤ t := by unfold mn; split <;> omega
    obtain ⟨k, hk⟩ := merge_l1 l hl hx (mn f t) t hm.1 hm.2 ht (min (t - mn f t).toNat 64) 0 [] (by omega) (by simp)
    refine ⟨k + 1, ?_⟩
    unfold plan_Merge.l0
    rw [if_neg (by omega), List.drop_of_length_le (by omega)]
    simpa [out, flF, tpF] using hk
  | succ d ih =>
    intro i f t hi hf ht0 ht
    have hw : wrap64 ((i : Int) + 1) = ((i + 1 : Nat) : Int) := by rw [w64 (by omega) (by omega)]; omega
    have hil : i < l.length := by omega
    have hb := hT _ (List.getElem_mem hil)
    obtain ⟨k, hk⟩ := ih (i + 1) (mx f l[i].f0) (mx t l[i].f1) (by omega) (by have := @mx_le f l[i].f0; omega) (by have := @mx_le t l[i].f1; omega) (by unfold mx; split <;> omega)
    refine ⟨k + 1, ?_⟩
    unfold plan_Merge.l0
    rw [if_pos (by omega), if_pos (by omega), if_pos (by omega), rd44 l i hil, hw, hk, List.drop_eq_getElem_cons hil]
    rfl
theorem merge_f (l : List S44) (hl : l.length ≤ 1000000) (hx : ∀ p ∈ l, p.f2.length ≤ 1000000) (hT : ∀ p ∈ l, p.f1 ≤ 1152921504606846976) : ∃ k, plan_Merge.f k l = some (out l (flF 0 l) (tpF 0 l)) := by
  have := merge_l0 l hl hx hT l.length 0 0 0 (by omega) (by omega) (by omega) (by omega)
  simpa [plan_Merge.f] using this

end Go.Proofs.Ytpmbklagjaibgaa.PPlanMerges
