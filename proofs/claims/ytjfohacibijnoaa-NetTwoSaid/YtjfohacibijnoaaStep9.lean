/- The laws on scripts of calls: one net beside a plain list; two nets that know nothing of each other. -/
import Derived.Test.YtjfohacibijnoaaStep8
import Derived.Test.YtjfohacibijnoaaOpens
namespace Go.Proofs.Ytjfohacibijnoaa.Net
open Go.RowKit Go.Proofs.YtjfohacibijnoaaW.PrintWords Go.Proofs.Ytjfohacibijnoaa.Opens

abbrev Op5 : Type := Int × (Int × (Int × (Int × ByteArray)))
def k40 : Kd Op5 := Kd.pair (Kd.int .i64) (Kd.pair (Kd.int .i64) (Kd.pair (Kd.int .i64) (Kd.pair (Kd.int .i64) Kd.string)))
/-- a script that is read -/
def Scr (w : World) (A : Option Addr) (l : List Op5) : Prop := Kd.C k40 w A l.length l
theorem Scr.below {w w1 : World} {A : Option Addr} {l : List Op5} (h : Scr w A l) (hb : Below w.heap.size w w1) : Scr w1 A l := Kd.C_below h hb
theorem Scr.at_ {w : World} {A : Option Addr} {l : List Op5} (h : Scr w A l) (j : Nat) (hj : j < l.length) :
    ∃ ad : Addr, A = some ad ∧ w.cell? (ad.add (j * 5)) = some (.int .i64 l[j].1) ∧ w.cell? ⟨(ad.add (j * 5)).block, (ad.add (j * 5)).off + 1, none⟩ = some (.int .i64 l[j].2.1) ∧
      w.cell? ⟨(ad.add (j * 5)).block, (ad.add (j * 5)).off + 2, none⟩ = some (.int .i64 l[j].2.2.1) ∧ w.cell? ⟨(ad.add (j * 5)).block, (ad.add (j * 5)).off + 3, none⟩ = some (.int .i64 l[j].2.2.2.1) ∧
      w.cell? ⟨(ad.add (j * 5)).block, (ad.add (j * 5)).off + 4, none⟩ = some (.string l[j].2.2.2.2) := by
  obtain ⟨ad, cs, e, hk, hc⟩ := C_cells h j hj
  have hk' : cs = [Value.int .i64 l[j].1, .int .i64 l[j].2.1, .int .i64 l[j].2.2.1, .int .i64 l[j].2.2.2.1, .string l[j].2.2.2.2] := by
    obtain ⟨c0, c1, rfl, h0, d0, d1, rfl, h1, e0, e1, rfl, h2, f0, f1, rfl, h3, h4⟩ := hk
    have h0' : c0 = [Value.int .i64 l[j].1] := h0
    have h1' : d0 = [Value.int .i64 l[j].2.1] := h1
    have h2' : e0 = [Value.int .i64 l[j].2.2.1] := h2
    have h3' : f0 = [Value.int .i64 l[j].2.2.2.1] := h3
    have h4' : f1 = [Value.string l[j].2.2.2.2] := h4
    subst h0' h1' h2' h3' h4'
    rfl
  subst hk'
  have hs : k40.sz = 5 := rfl
  rw [hs] at hc
  have c0 := hc 0 _ rfl
  have c1 := hc 1 _ rfl
  have c2 := hc 2 _ rfl
  have c3 := hc 3 _ rfl
  have c4 := hc 4 _ rfl
  rw [Go.Deep.add_add] at c0 c1 c2 c3 c4
  rw [Nat.add_zero] at c0
  rw [add_field ad (j * 5) 1 (by decide)] at c1
  rw [add_field ad (j * 5) 2 (by decide)] at c2
  rw [add_field ad (j * 5) 3 (by decide)] at c3
  rw [add_field ad (j * 5) 4 (by decide)] at c4
  exact ⟨ad, e, c0, c1, c2, c3, c4⟩

section
variable {H : Type} {enc : TypeId × Value → H} {w : World} {base : Nat} {spare : Nat → Bool} {held : Bool}
theorem op_opens : Opens enc Try.prog w base spare held 40 k40 (fun _ => True) := by
  intro fuel cs x hx
  obtain ⟨a, k, _⟩ := opens_struct (d := k40) Try.underlying40 (by kernel_rfl) (fopens_cons rfl (by kernel_rfl) (opens_int .i64 Try.underlying3) (fopens_cons rfl (by kernel_rfl) (opens_int .i64 Try.underlying3)
    (fopens_cons rfl (by kernel_rfl) (opens_int .i64 Try.underlying3) (fopens_cons rfl (by kernel_rfl) (opens_int .i64 Try.underlying3) (fopens_last rfl (by kernel_rfl) (opens_string Try.underlying9)))))) fuel cs x hx
  exact ⟨a, k, trivial⟩
theorem script_open {fuel : Nat} {cs : List Value} {x : DataW H × List MemPlace} (hx : DataW.trod enc Try.prog w base spare held fuel 36 cs = some x) :
    ∃ A c l, cs = [.slice A l.length c] ∧ Scr w A l := by
  obtain ⟨A, c, l, e, _, h2, _⟩ := row_C Try.underlying36 (by kernel_rfl) op_opens hx
  exact ⟨A, c, l, e, h2⟩
end

/-- a net and its plain list, both made by the call itself -/
structure Pl (B : Nat) (w0 w : World) (b c : Nat) (v lv : Value) (L : List ByteArray) (x : Int) : Prop where
  sc : Sc w b c v L x 0 lv
  foot : ∀ k, Foot b c v k → B ≤ k
  lown : ∀ k, lv.ownBlock = some k → B ≤ k
  bel : Below B w0 w
  size : B ≤ w.heap.size
theorem Pl.of_in {B : Nat} {w0 w : World} {b c : Nat} (h : In B w0 w b c (.slice none 0 0) [] 0 0) : Pl B w0 w b c (.slice none 0 0) (.slice none 0 0) [] 0 :=
  ⟨⟨h.at_, Lst.nil _, fun k hk => by cases hk⟩, h.foot, fun k hk => by (cases hk), h.bel, h.size⟩
theorem Pl.step {B : Nat} {w0 w w' : World} {b c : Nat} {v lv lv' : Value} {L L' : List ByteArray} {x x' : Int} (h : Pl B w0 w b c v lv L x) (s : Stp w b c v lv w' lv' L' x' 0) : ∃ v', Pl B w0 w' b c v' lv' L' x' := by
  obtain ⟨v', sc, m, o1, o2⟩ := s
  refine ⟨v', sc, fun k hk => ?_, fun k hk => ?_, h.bel.trans (m.below h.foot h.size), Nat.le_trans h.size m.size⟩
  · rcases hk with e | e | e
    · exact h.foot k (.inl e)
    · exact h.foot k (.inr (.inl e))
    · rcases o1 k e with e | e
      · exact h.foot k (.inr (.inr e))
      · exact Nat.le_trans h.size e
  · rcases o2 k hk with e | e
    · exact h.lown k e
    · exact Nat.le_trans h.size e
theorem Pl.below {B : Nat} {w0 w w' : World} {b c : Nat} {v lv : Value} {L : List ByteArray} {x : Int} (h : Pl B w0 w b c v lv L x) (d : Below w.heap.size w w') : Pl B w0 w' b c v lv L x :=
  ⟨h.sc.below d, h.foot, h.lown, h.bel.trans (d.mono h.size), Nat.le_trans h.size d.size⟩

set_option maxHeartbeats 2000000 in
theorem plays_law (A : Option Addr) (c0 : Nat) (l : List Op5) (w : World) (h : Scr w A l) : Calls Try.prog 6 #[.slice A l.length c0] w fun e w' => e = .returned (.bool true) ∧ Below w.heap.size w w' := by
  have hlen : l.length ≤ 9223372036854775807 := h.2.1
  have RD : Hid (∀ w', Below w.heap.size w w' → Scr w' A l) := fun w' hb => Scr.below h hb
  have hnew := new_in w.heap.size w w (Below.refl _ _) (Nat.le_refl _)
  obtain ⟨B, hB⟩ : ∃ B, w.heap.size = B := ⟨_, rfl⟩
  have HB : Hid (w.heap.size = B) := hB
  rw [hB] at RD hnew
  clear h hB
  go_enter Try.func6, Try.ntmps6
  go_wp2_with (go_at_call 8; (with_reducible refine hnew.mono ?_); rintro e w1 ⟨b, c, rfl, n1⟩)
  have p0 : Hid (Pl B w w1 b c (.slice none 0 0) (.slice none 0 0) [] 0) := Pl.of_in n1.out
  clear n1 hnew
  go_loopw [4, 5, 6] (fun s sent i wr => ∃ (j : Nat) (v lv : Value) (L : List ByteArray) (x : Int), j ≤ l.length ∧ j ≤ 80 ∧ lv = s ∧ sent = .int .i64 x ∧ 0 ≤ x ∧ x ≤ j ∧ i = .int .i64 j ∧ L.length ≤ j ∧ Hid (Pl B w wr b c v lv L x)) (fun _ _ i _ => 80 - (intOf i).toNat)
  case atStart => exact ⟨0, _, _, [], 0, by omega, by omega, rfl, rfl, by omega, by omega, rfl, by simp, p0⟩
  case round =>
    obtain ⟨j, v, lv, L, x, hj, hj2, rfl, rfl, x0, x1, rfl, hL, st⟩ := hrel
    clear p0
    by_cases hlt : j < l.length ∧ j < 80
    · obtain ⟨h1, h2⟩ := hlt
      obtain ⟨ad, rfl, q0, q1, q2, q3, q4⟩ := (RD.out wr st.out.bel).at_ j h1
      have RC : Hid (∀ w', Below B w w' → w'.cell? (ad.add (j * 5)) = some (.int .i64 l[j].1)) := by
        intro w' hw
        obtain ⟨ad', e, c0, _⟩ := (RD.out w' hw).at_ j h1
        cases e
        exact c0
      have hstep := step_any l[j].1 l[j].2.1 l[j].2.2.1 l[j].2.2.2.1 l[j].2.2.2.2 b c v lv L x 0 wr st.out.sc (by omega) x0 (by omega)
      have h3 : (j : Int) < (l.length : Int) := by omega
      have h4 : (j : Int) < 80 := by omega
      have h5 : 0 ≤ (j : Int) := by omega
      generalize l[j].1 = K at *
      generalize l[j].2.1 = N at *
      generalize l[j].2.2.1 = M at *
      generalize l[j].2.2.2.1 = Y at *
      generalize l[j].2.2.2.2 = T at *
      have XX : Hid (0 ≤ x ∧ x ≤ j) := ⟨x0, x1⟩
      by_cases hk : K = 0
      · subst hk
        rw [if_pos rfl] at hstep
        have hne : ((x + 1 : Int) != x + 1) = false := by simp
        have hct := fun v L w st => counts_at b c v L (x + 1) 0 w st
        go_wp2_with (first
          | (go_at_call 17; (with_reducible refine hstep.mono ?_); rintro e w2 ⟨lv2, rfl, hs⟩
             obtain ⟨L2, s2, l2⟩ := hs.out
             obtain ⟨v2, st2⟩ := st.out.step s2
             have ST2 : Hid (Pl B w w2 b c v2 lv2 L2 (x + 1)) := st2
             have c2 := RC.out w2 st2.bel
             clear s2 st2 hs)
          | (go_at_call 14; (with_reducible refine (hct v2 L2 _ ST2.out.sc.at_).mono ?_); rintro e w3 ⟨rfl, dr⟩; have ST3 : Hid (Pl B w w3 b c v2 lv2 L2 (x + 1)) := ST2.out.below dr.below; clear dr)
          | (go_at_call 18; (with_reducible refine (stands_at b c v2 lv2 L2 _ _ _ ST3.out.sc).mono ?_); rintro e w4 ⟨rfl, hb⟩))
        go_roundw
        case rel => exact ⟨j + 1, v2, lv2, L2, x + 1, by omega, by omega, rfl, by go_num, by omega, by omega, by go_num, by omega, ST3.out.below hb.out⟩
        case measure => simp [intOf]; omega
      · have kf : (K == 0) = false := by simpa using hk
        rw [if_neg hk] at hstep
        clear hk
        have hne : ((x : Int) != x) = false := by simp
        have hct := fun v L w st => counts_at b c v L x 0 w st
        go_wp2_with (first
          | (go_at_call 17; (with_reducible refine hstep.mono ?_); rintro e w2 ⟨lv2, rfl, hs⟩
             obtain ⟨L2, s2, l2⟩ := hs.out
             obtain ⟨v2, st2⟩ := st.out.step s2
             have ST2 : Hid (Pl B w w2 b c v2 lv2 L2 x) := st2
             have c2 := RC.out w2 st2.bel
             clear s2 st2 hs)
          | (go_at_call 14; (with_reducible refine (hct v2 L2 _ ST2.out.sc.at_).mono ?_); rintro e w3 ⟨rfl, dr⟩; have ST3 : Hid (Pl B w w3 b c v2 lv2 L2 x) := ST2.out.below dr.below; clear dr)
          | (go_at_call 18; (with_reducible refine (stands_at b c v2 lv2 L2 _ _ _ ST3.out.sc).mono ?_); rintro e w4 ⟨rfl, hb⟩))
        go_roundw
        case rel => exact ⟨j + 1, v2, lv2, L2, x, by omega, by omega, rfl, rfl, by omega, by omega, by go_num, by omega, ST3.out.below hb.out⟩
        case measure => simp [intOf]; omega
    · have HA := awake_calls
      rcases (by omega : (j : Int) < (l.length : Int) ∧ ¬ (j : Int) < 80 ∨ ¬ (j : Int) < (l.length : Int)) with ⟨c1, c2⟩ | c1
      all_goals
        clear hlt
        go_wp2_with (go_at_call 13; (with_reducible refine (HA _).mono ?_); rintro e w9 ⟨rfl, b9⟩)
        go_ret
        refine ⟨rfl, ?_⟩
        rw [HB.out]
        exact st.out.bel.trans (b9.out.mono st.out.size)
end Go.Proofs.Ytjfohacibijnoaa.Net
