/- The law on two nets that know nothing of each other. -/
import Derived.Test.YtjfohacibijnoaaStep9
namespace Go.Proofs.Ytjfohacibijnoaa.Net
open Go.RowKit Go.Proofs.YtjfohacibijnoaaW.PrintWords Go.Proofs.Ytjfohacibijnoaa.Opens

/-- the blocks of a net and of its plain list -/
def Own (b c : Nat) (v lv : Value) (k : Nat) : Prop := Foot b c v k ∨ lv.ownBlock = some k
structure Two (B : Nat) (w0 w : World) (b c : Nat) (v lv : Value) (L : List ByteArray) (x : Int) (b' c' : Nat) (v' lv' : Value) (L' : List ByteArray) (x' : Int) : Prop where
  p1 : Pl B w0 w b c v lv L x
  p2 : Pl B w0 w b' c' v' lv' L' x'
  ap : ∀ k, Own b c v lv k → ¬ Own b' c' v' lv' k
section
variable {B : Nat} {w0 w w1 : World} {b c : Nat} {v lv lv1 : Value} {L L1 : List ByteArray} {x x1 : Int} {b' c' : Nat} {v' lv' : Value} {L' : List ByteArray} {x' : Int}
theorem Two.symm (h : Two B w0 w b c v lv L x b' c' v' lv' L' x') : Two B w0 w b' c' v' lv' L' x' b c v lv L x := ⟨h.p2, h.p1, fun k h1 h2 => h.ap k h2 h1⟩
theorem Pl.own_lt (h : Pl B w0 w b c v lv L x) (k : Nat) (hk : Own b c v lv k) : k < w.heap.size := hk.elim (h.sc.at_.foot_lt k) (fun e => (h.sc.own k e).1)
theorem Two.step (h : Two B w0 w b c v lv L x b' c' v' lv' L' x') (s : Stp w b c v lv w1 lv1 L1 x1 0) : ∃ v1, Two B w0 w1 b c v1 lv1 L1 x1 b' c' v' lv' L' x' := by
  obtain ⟨v1, sc, m, o1, o2⟩ := s
  have same : ∀ k, Own b' c' v' lv' k → w1.heap[k]? = w.heap[k]? := fun k hk => m.block k (h.p2.own_lt k hk) (fun hf => h.ap k (.inl hf) hk)
  have bel : Below B w0 w1 := h.p1.bel.trans (m.below h.p1.foot h.p1.size)
  have hB : B ≤ w1.heap.size := Nat.le_trans h.p1.size m.size
  refine ⟨v1, ⟨sc, fun k hk => ?_, fun k hk => ?_, bel, hB⟩, ⟨⟨h.p2.sc.at_.same (fun k hk => same k (.inl hk)), h.p2.sc.lst.same (fun k hk => same k (.inr hk)), fun k hk => ⟨Nat.lt_of_lt_of_le (h.p2.sc.own k hk).1 m.size, (h.p2.sc.own k hk).2⟩⟩, h.p2.foot, h.p2.lown, bel, hB⟩, fun k hk hk' => ?_⟩
  · rcases hk with e | e | e
    · exact h.p1.foot k (.inl e)
    · exact h.p1.foot k (.inr (.inl e))
    · rcases o1 k e with e | e
      · exact h.p1.foot k (.inr (.inr e))
      · exact Nat.le_trans h.p1.size e
  · rcases o2 k hk with e | e
    · exact h.p1.lown k e
    · exact Nat.le_trans h.p1.size e
  · have hlt := h.p2.own_lt k hk'
    rcases hk with (e | e | e) | e
    · exact h.ap k (.inl (.inl e)) hk'
    · exact h.ap k (.inl (.inr (.inl e))) hk'
    · rcases o1 k e with e | e
      · exact h.ap k (.inl (.inr (.inr e))) hk'
      · omega
    · rcases o2 k e with e | e
      · exact h.ap k (.inr e) hk'
      · omega
theorem Two.below (h : Two B w0 w b c v lv L x b' c' v' lv' L' x') (d : Below w.heap.size w w1) : Two B w0 w1 b c v lv L x b' c' v' lv' L' x' := ⟨h.p1.below d, h.p2.below d, h.ap⟩
theorem Two.new (h1 : In B w0 w b c (.slice none 0 0) [] 0 0) (h2 : In w.heap.size w w1 b' c' (.slice none 0 0) [] 0 0) : Two B w0 w1 b c (.slice none 0 0) (.slice none 0 0) [] 0 b' c' (.slice none 0 0) (.slice none 0 0) [] 0 := by
  have p1 := (Pl.of_in h1).below h2.bel
  have p2 := Pl.of_in h2
  refine ⟨p1, ⟨p2.sc, fun k hk => Nat.le_trans h1.size (h2.foot k hk), fun k hk => by (cases hk), p1.bel, p1.size⟩, fun k hk hk' => ?_⟩
  have e1 := (Pl.of_in h1).own_lt k hk
  rcases hk' with e | e
  · have := h2.foot k e
    omega
  · cases e
end

set_option maxHeartbeats 4000000 in
theorem two_law (A : Option Addr) (c0 : Nat) (l : List Op5) (A' : Option Addr) (c0' : Nat) (l' : List Op5) (w : World) (h : Scr w A l) (h' : Scr w A' l') : Calls Try.prog 5 #[.slice A l.length c0, .slice A' l'.length c0'] w fun e w' => e = .returned (.bool true) ∧ Below w.heap.size w w' := by
  have hlen : l.length ≤ 9223372036854775807 := h.2.1
  have hlen' : l'.length ≤ 9223372036854775807 := h'.2.1
  have RD : Hid (∀ w', Below w.heap.size w w' → Scr w' A l) := fun w' hb => Scr.below h hb
  have RD' : Hid (∀ w', Below w.heap.size w w' → Scr w' A' l') := fun w' hb => Scr.below h' hb
  have hnew := new_in w.heap.size w w (Below.refl _ _) (Nat.le_refl _)
  obtain ⟨B, hB⟩ : ∃ B, w.heap.size = B := ⟨_, rfl⟩
  have HB : Hid (w.heap.size = B) := hB
  rw [hB] at RD RD' hnew
  clear h h' hB
  go_enter Try.func5, Try.ntmps5
  go_wp2_with (first
    | (go_at_call 8; (with_reducible refine hnew.mono ?_); rintro e w1 ⟨b, c, rfl, n1⟩; clear hnew)
    | (go_at_call 8; (with_reducible refine (new_in w1.heap.size w1 w1 (Below.refl _ _) (Nat.le_refl _)).mono ?_); rintro e w2 ⟨b', c', rfl, n2⟩))
  have p0 : Hid (Two B w w2 b c (.slice none 0 0) (.slice none 0 0) [] 0 b' c' (.slice none 0 0) (.slice none 0 0) [] 0) := Two.new n1.out n2.out
  clear n1 n2
  go_loopw [7, 8, 9] (fun s s' i wr => ∃ (j : Nat) (v lv : Value) (L : List ByteArray) (x : Int) (v' lv' : Value) (L' : List ByteArray) (x' : Int), j ≤ 40 ∧ lv = s ∧ lv' = s' ∧ 0 ≤ x ∧ x ≤ j ∧ 0 ≤ x' ∧ x' ≤ j ∧ i = .int .i64 j ∧ L.length ≤ j ∧ L'.length ≤ j ∧ Hid (Two B w wr b c v lv L x b' c' v' lv' L' x')) (fun _ _ i _ => 40 - (intOf i).toNat)
  case atStart => exact ⟨0, _, _, [], 0, _, _, [], 0, by omega, rfl, rfl, by omega, by omega, by omega, by omega, rfl, by simp, by simp, p0⟩
  case round =>
    obtain ⟨j, v, lv, L, x, v', lv', L', x', hj, rfl, rfl, x0, x1, y0, y1, rfl, hL, hL', st⟩ := hrel
    clear p0
    by_cases hlt : j < 40
    · have h4 : (j : Int) < 40 := by omega
      have h5 : 0 ≤ (j : Int) := by omega
      have XX : Hid (0 ≤ x ∧ x ≤ j ∧ 0 ≤ x' ∧ x' ≤ j) := ⟨x0, x1, y0, y1⟩
      have ob : Hid (∀ K : Int, 0 ≤ (if K = 0 then x + 1 else x) ∧ (if K = 0 then x + 1 else x) ≤ j + 1) := fun K => by split <;> omega
      have ob' : Hid (∀ K : Int, 0 ≤ (if K = 0 then x' + 1 else x') ∧ (if K = 0 then x' + 1 else x') ≤ j + 1) := fun K => by split <;> omega
      have hstep := fun K N M Y T => step_any K N M Y T b c v lv L x 0 wr st.out.p1.sc (by omega) x0 (by omega)
      by_cases h1 : j < l.length
      · have i1 : (j : Int) < (l.length : Int) := by omega
        obtain ⟨ad, rfl, q0, q1, q2, q3, q4⟩ := (RD.out wr st.out.p1.bel).at_ j h1
        replace hstep := hstep l[j].1 l[j].2.1 l[j].2.2.1 l[j].2.2.2.1 l[j].2.2.2.2
        generalize l[j].1 = K at *
        generalize l[j].2.1 = N at *
        generalize l[j].2.2.1 = M at *
        generalize l[j].2.2.2.1 = Y at *
        generalize l[j].2.2.2.2 = T at *
        by_cases h2 : j < l'.length
        · have i2 : (j : Int) < (l'.length : Int) := by omega
          obtain ⟨ad', eA, _⟩ := (RD'.out wr st.out.p1.bel).at_ j h2
          subst eA
          have RC : Hid (∀ w', Below B w w' → _) := fun w' hw => (RD'.out w' hw).at_ j h2
          go_wp2_with (first
            | (go_at_call 17; (with_reducible refine hstep.mono ?_); rintro e w2 ⟨lv2, rfl, hs⟩
               obtain ⟨L2, s2, l2⟩ := hs.out
               obtain ⟨v2, st2⟩ := st.out.step s2
               have ST2 : Hid (Two B w w2 b c v2 lv2 L2 _ b' c' v' lv' L' x') := st2
               obtain ⟨ad2, eA, z0, z1, z2, z3, z4⟩ := RC.out w2 st2.p1.bel
               cases eA
               clear hs s2 st2 q0 q1 q2 q3 q4 hstep)
            | (go_at_call 17; (with_reducible refine (step_any _ _ _ _ _ b' c' v' lv' L' x' 0 w2 ST2.out.p2.sc (by omega) y0 (by omega)).mono ?_); rintro e w3 ⟨lv3, rfl, hs⟩
               obtain ⟨L3, s3, l3⟩ := hs.out
               obtain ⟨v3, st3⟩ := ST2.out.symm.step s3
               have ST3 : Hid (Two B w w3 b c v2 lv2 L2 _ b' c' v3 lv3 L3 _) := st3.symm
               clear hs s3 st3))
          go_roundw
          case rel => exact ⟨j + 1, v2, lv2, L2, _, v3, lv3, L3, _, by omega, rfl, rfl, (ob.out _).1, by have := (ob.out K).2; omega, (ob'.out _).1, by have := (ob'.out l'[j].1).2; omega, by go_num, by omega, by omega, ST3⟩
          case measure => simp [intOf]; omega
        · have i2 : ¬ (j : Int) < (l'.length : Int) := by omega
          go_wp2_with (first
            | (go_at_call 17; (with_reducible refine hstep.mono ?_); rintro e w2 ⟨lv2, rfl, hs⟩
               obtain ⟨L2, s2, l2⟩ := hs.out
               obtain ⟨v2, st2⟩ := st.out.step s2
               have ST2 : Hid (Two B w w2 b c v2 lv2 L2 _ b' c' v' lv' L' x') := st2
               clear hs s2 st2 q0 q1 q2 q3 q4 hstep))
          go_roundw
          case rel => exact ⟨j + 1, v2, lv2, L2, _, v', lv', L', x', by omega, rfl, rfl, (ob.out _).1, by have := (ob.out K).2; omega, y0, by omega, by go_num, by omega, by omega, ST2⟩
          case measure => simp [intOf]; omega
      · have i1 : ¬ (j : Int) < (l.length : Int) := by omega
        by_cases h2 : j < l'.length
        · have i2 : (j : Int) < (l'.length : Int) := by omega
          obtain ⟨ad, rfl, q0, q1, q2, q3, q4⟩ := (RD'.out wr st.out.p1.bel).at_ j h2
          have hstep' := step_any l'[j].1 l'[j].2.1 l'[j].2.2.1 l'[j].2.2.2.1 l'[j].2.2.2.2 b' c' v' lv' L' x' 0 wr st.out.p2.sc (by omega) y0 (by omega)
          generalize l'[j].1 = K at *
          generalize l'[j].2.1 = N at *
          generalize l'[j].2.2.1 = M at *
          generalize l'[j].2.2.2.1 = Y at *
          generalize l'[j].2.2.2.2 = T at *
          go_wp2_with (first
            | (go_at_call 17; (with_reducible refine hstep'.mono ?_); rintro e w2 ⟨lv2, rfl, hs⟩
               obtain ⟨L2, s2, l2⟩ := hs.out
               obtain ⟨v2, st2⟩ := st.out.symm.step s2
               have ST2 : Hid (Two B w w2 b c v lv L x b' c' v2 lv2 L2 _) := st2.symm
               clear hs s2 st2 q0 q1 q2 q3 q4 hstep'))
          go_roundw
          case rel => exact ⟨j + 1, v, lv, L, x, v2, lv2, L2, _, by omega, rfl, rfl, x0, by omega, (ob'.out _).1, by have := (ob'.out K).2; omega, by go_num, by omega, by omega, ST2⟩
          case measure => simp [intOf]; omega
        · have i2 : ¬ (j : Int) < (l'.length : Int) := by omega
          go_wp2
          go_roundw
          case rel => exact ⟨j + 1, v, lv, L, x, v', lv', L', x', by omega, rfl, rfl, x0, by omega, y0, by omega, by go_num, by omega, by omega, st⟩
          case measure => simp [intOf]; omega
    · have HA := awake_calls
      have h4 : ¬ (j : Int) < 40 := by omega
      have hs1 := stands_at b c v lv L x 0 wr st.out.p1.sc
      have hs2 := fun w d => stands_at b' c' v' lv' L' x' 0 w (st.out.below d).p2.sc
      go_wp2_with (first
        | (go_at_call 18; (with_reducible refine hs1.mono ?_); rintro e w6 ⟨rfl, b6⟩; clear hs1)
        | (go_at_call 18; (with_reducible refine (hs2 _ b6.out).mono ?_); rintro e w7 ⟨rfl, b7⟩)
        | (go_at_call 13; (with_reducible refine (HA _).mono ?_); rintro e w9 ⟨rfl, b9⟩))
      go_ret
      refine ⟨rfl, ?_⟩
      rw [HB.out]
      exact ((st.out.p1.bel.trans (b6.out.mono st.out.p1.size)).trans (b7.out.mono (Nat.le_trans st.out.p1.size b6.out.size))).trans (b9.out.mono (Nat.le_trans (Nat.le_trans st.out.p1.size b6.out.size) b7.out.size))
end Go.Proofs.Ytjfohacibijnoaa.Net
