/- The weak sums of all windows of a text: the law's own walk. -/
import Derived.Test.YtfebaciipigkmaaRollRefAll
namespace Go.Proofs.Ytfebaciipigkmaa.RollA
open Go.RowKit Go.Proofs.Ytfebaciipigkmaa.PRollAlls Go.Proofs.YtfebaciipigkmaaW.PrintWords Go.Proofs.YtfebaciipigkmaaW.PrintLast Go.Proofs.YtfebaciipigkmaaW.PrintMore Go.Proofs.Ytfebaciipigkmaa.RollMath Go.Proofs.Ytfebaciipigkmaa.Roll

/-- a slice of ints that reads as a list -/
def Lst (w : World) (A : Option Addr) (l : List Int) : Prop := Kd.C (Kd.int .i64) w A l.length l
theorem Lst.nil (w : World) : Lst w none [] := by
  obtain ⟨A, c, h1, _, h3⟩ := Kd.R_reads (Kd.R_nil (Kd.int .i64) 3 w 0 (fun _ => True))
  injection h1 with h1 _ _
  subst h1
  exact h3
theorem Lst.below {w w' : World} {A : Option Addr} {l : List Int} (h : Lst w A l) (hb : Below w.heap.size w w') : Lst w' A l := Kd.C_below h hb

theorem all_reads (s : ByteArray) (n : Nat) (w : World) (ok0 : Ok s n 0) : Calls Try.prog 21 #[.string s, .int .i64 n] w fun e w' =>
    ∃ A c, e = .returned (.tuple #[.slice A (sums s n (s.size + 1 - n)).length c, .int .i64 0]) ∧ Hid ((sums s n (s.size + 1 - n)).length ≤ c) ∧ Hid (Lst w' A (sums s n (s.size + 1 - n))) ∧ Hid (Below w.heap.size w w') := by
  refine (all_st s n w ok0).mono fun e w' ⟨v, he, h1, h2⟩ => ?_
  have e1 : s.size + 1 - n = s.size - n + 1 := by have := ok0.k2; omega
  rw [e1]
  obtain ⟨A, c, hv, hc, hl⟩ := Kd.R_reads h1
  rw [hv] at he
  exact ⟨A, c, he, hc, hl, h2⟩
theorem ref_reads (s : ByteArray) (n : Int) (l : List Int) (w : World) (k : Nat) (h : barqueref04_All.f k s n = some l) : Calls Try.prog 23 #[.string s, .int .i64 n] w fun e w' =>
    ∃ A c, e = .returned (.slice A l.length c) ∧ Hid (l.length ≤ c) ∧ Hid (Lst w' A l) ∧ Hid (Below w.heap.size w w') := by
  refine (barqueref04_All.calls k s n l w h).mono fun e w' ⟨v, he, h1, h2⟩ => ?_
  obtain ⟨A, c, hv, hc, hl⟩ := Kd.R_reads h1
  rw [hv] at he
  exact ⟨A, c, he, hc, hl, h2⟩

theorem ints_calls (l : List Int) (hl : Hid (l.length ≤ 4000)) (A B : Option Addr) (c d : Nat) (w : World) (h1 : Lst w A l) (h2 : l.length ≤ c) (h3 : Lst w B l) (h4 : l.length ≤ d) :
    Calls Try.prog 22 #[.slice A l.length c, .slice B l.length d] w fun e w' => e = .returned (.bool true) ∧ Drawn0 w w' :=
  barquelaw04_ints.calls 4001 A c l B d l true w h1 h2 h3 h4 (ints_same l hl)

theorem alls_no (s t : ByteArray) (n : Int) (w : World) (hcut : ∀ w : World, Calls Try.prog 11 #[.string s, .int .i64 600] w fun e w' => e = .returned (.string t) ∧ Drawn0 w w')
    (h : n < 1 ∨ 1024 < n) : Calls Try.prog 8 #[.string s, .int .i64 n] w fun e w' => e = .returned (.bool true) ∧ Below w.heap.size w w' := by
  have hall := fun w => all_arg t n w h
  have bl : ∀ k, Below w.heap.size w (w.drewN k) := fun k => below_drewN (Below.refl _ _) k
  by_cases h1 : n < 1
  · clear h
    go_enter Try.func8, Try.ntmps8
    go_wp2_with (first
      | (go_at_call 11; (with_reducible refine (hcut _).mono ?_); rintro e w' ⟨rfl, ⟨nd, rfl⟩⟩)
      | (go_at_call 21; (with_reducible refine (hall _).mono ?_); rintro e w' ⟨rfl, rfl⟩)
      | (go_at_call 14; (with_reducible refine (awake_calls _).mono ?_); rintro e w' ⟨rfl, ⟨nd, rfl⟩⟩))
    go_ret
    exact ⟨rfl, bl _⟩
  · have h2 : 1024 < n := by omega
    clear h
    go_enter Try.func8, Try.ntmps8
    go_wp2_with (first
      | (go_at_call 11; (with_reducible refine (hcut _).mono ?_); rintro e w' ⟨rfl, ⟨nd, rfl⟩⟩)
      | (go_at_call 21; (with_reducible refine (hall _).mono ?_); rintro e w' ⟨rfl, rfl⟩)
      | (go_at_call 14; (with_reducible refine (awake_calls _).mono ?_); rintro e w' ⟨rfl, ⟨nd, rfl⟩⟩))
    go_ret
    exact ⟨rfl, bl _⟩

theorem alls_yes (s t : ByteArray) (n : Int) (l : List Int) (w : World) (hl : l.length ≤ 4000) (hcut : ∀ w : World, Calls Try.prog 11 #[.string s, .int .i64 600] w fun e w' => e = .returned (.string t) ∧ Drawn0 w w')
    (h1 : 1 ≤ n) (h2 : n ≤ 1024)
    (hall : ∀ w, Calls Try.prog 21 #[.string t, .int .i64 n] w fun e w' => ∃ A c, e = .returned (.tuple #[.slice A l.length c, .int .i64 0]) ∧ Hid (l.length ≤ c) ∧ Hid (Lst w' A l) ∧ Hid (Below w.heap.size w w'))
    (href : ∀ w, Calls Try.prog 23 #[.string t, .int .i64 n] w fun e w' => ∃ A c, e = .returned (.slice A l.length c) ∧ Hid (l.length ≤ c) ∧ Hid (Lst w' A l) ∧ Hid (Below w.heap.size w w')) :
    Calls Try.prog 8 #[.string s, .int .i64 n] w fun e w' => e = .returned (.bool true) ∧ Below w.heap.size w w' := by
  have bl : Hid (∀ w', Drawn0 w w' → Below w.heap.size w w') := fun _ h => h.below
  have HL : Hid (l.length ≤ 4000) := hl
  clear hl
  go_enter Try.func8, Try.ntmps8
  go_wp2_with (first
    | (go_at_call 11; (with_reducible refine (hcut _).mono ?_); rintro e w1 ⟨rfl, d1⟩; have b1 : Hid (Below w.heap.size w w1) := d1.below; clear d1)
    | (go_at_call 21; (with_reducible refine (hall _).mono ?_); rintro e w2 ⟨A2, c2, rfl, hc2, hl2, b2⟩; have b12 : Hid (Below w.heap.size w w2) := b1.out.trans (b2.out.mono b1.out.size); clear b2)
    | (go_at_call 23; (with_reducible refine (href _).mono ?_); rintro e w3 ⟨A3, c3, rfl, hc3, hl3, b3⟩; have hl23 : Hid (Lst w3 A2 l) := hl2.out.below b3.out; have b13 : Hid (Below w.heap.size w w3) := b12.out.trans (b3.out.mono b12.out.size); clear b3)
    | (go_at_call 22; (with_reducible refine (ints_calls l HL A2 A3 c2 c3 _ hl23.out hc2.out hl3.out hc3.out).mono ?_); rintro e w4 ⟨rfl, d4⟩; have b14 : Hid (Below w.heap.size w w4) := b13.out.trans (d4.below.mono b13.out.size); clear d4)
    | (go_at_call 14; (with_reducible refine (awake_calls _).mono ?_); rintro e w5 ⟨rfl, d5⟩; have b15 : Hid (Below w.heap.size w w5) := b14.out.trans (d5.below.mono b14.out.size); clear d5))
  go_ret
  exact ⟨rfl, b15.out⟩

theorem alls_law (s : ByteArray) (n : Int) (w : World) (_ : s.size ≤ 140737488351232) (_ : (Lit.int .i64 n).wf = true) :
    Calls Try.prog 8 #[.string s, .int .i64 n] w fun e w' => e = .returned (.bool true) ∧ Below w.heap.size w w' := by
  obtain ⟨t, ht, hcut⟩ := cut_calls s 600
  by_cases h1 : n < 1 ∨ 1024 < n
  · exact alls_no s t n w hcut h1
  · obtain ⟨m, rfl⟩ := Int.eq_ofNat_of_zero_le (show 0 ≤ n by omega)
    by_cases h2 : t.size < m
    · refine alls_yes s t m [] w (by simp) hcut (by omega) (by omega) (fun w => ?_) (fun w => ref_reads t m [] w 1 (ref_all_short t m (by omega) h2 1 (by omega)))
      exact (all_short t m w (by omega) (by omega) (by omega)).mono fun e w' ⟨he, hw⟩ => ⟨none, 0, he, Nat.le_refl _, Lst.nil _, by rw [← hw]; exact Below.refl _ _⟩
    · refine alls_yes s t m (sums t m (t.size + 1 - m)) w (by rw [sums_len]; omega) hcut (by omega) (by omega) (fun w => all_reads t m w ⟨by omega, by omega, by omega, by omega⟩) (fun w => ref_reads t m _ w 4010 (ref_all t m (by omega) (by omega) (by omega) (by omega) 4010 (by omega)))
end Go.Proofs.Ytfebaciipigkmaa.RollA
