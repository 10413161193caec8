/- All places at which a text stands in another one: the document's list, and the law's own walk. -/
import Derived.Test.YtfebaciipigkmaaRollFind
import Derived.Test.YtfebaciipigkmaaPRollFindsx1
namespace Go.Proofs.Ytfebaciipigkmaa.RollF
open Go.RowKit Go.Proofs.Ytfebaciipigkmaa.PRollFinds Go.Proofs.YtfebaciipigkmaaW.PrintWords Go.Proofs.YtfebaciipigkmaaW.PrintLast Go.Proofs.YtfebaciipigkmaaW.PrintMore Go.Proofs.Ytfebaciipigkmaa.RollMath Go.Proofs.Ytfebaciipigkmaa.Roll

theorem ref_find_l (t q : ByteArray) (hn : q.size ≤ 1024) (ht : t.size ≤ 3000) (d : Nat) : ∀ (k i : Nat), i + q.size ≤ t.size + 1 → t.size + 1 - q.size - i = d → d < k →
    barqueref04_Find.l0 k t q (finds t q i) i = some (finds t q (t.size + 1 - q.size)) := by
  induction d with
  | zero =>
    intro k i hi hd hk
    obtain ⟨k, rfl⟩ : ∃ m, k = m + 1 := ⟨k - 1, by omega⟩
    obtain rfl : i = t.size + 1 - q.size := by omega
    have e : ((t.size + 1 - q.size : Nat) : Int) + (q.size : Int) = (t.size : Int) + 1 := by omega
    simp only [barqueref04_Find.l0]
    rw [w64e e (by omega) (by omega), if_neg (by omega)]
  | succ d ih =>
    intro k i hi hd hk
    obtain ⟨k, rfl⟩ : ∃ m, k = m + 1 := ⟨k - 1, by omega⟩
    have H := ih k (i + 1) (by omega) (by omega) (by omega)
    have e1 : (i : Int) + (q.size : Int) = ((i + q.size : Nat) : Int) := by omega
    have e2 : (i : Int) + 1 = ((i + 1 : Nat) : Int) := by omega
    have c1 : ((i + q.size : Nat) : Int) ≤ (t.size : Int) := by omega
    have c2 : 0 ≤ (i : Int) := by omega
    have c3 : (i : Int) ≤ ((i + q.size : Nat) : Int) := by omega
    have b1 : -9223372036854775808 ≤ ((i + q.size : Nat) : Int) := by omega
    have b2 : ((i + q.size : Nat) : Int) ≤ 9223372036854775807 := by omega
    have b3 : -9223372036854775808 ≤ ((i + 1 : Nat) : Int) := by omega
    have b4 : ((i + 1 : Nat) : Int) ≤ 9223372036854775807 := by omega
    have hl : (finds t q i).length < 17592186044416 := by have := finds_len t q i; omega
    simp only [barqueref04_Find.l0]
    rw [w64e e1 b1 b2, w64e e2 b3 b4, if_pos c1, if_pos c2, if_pos c3, Int.toNat_natCast, Int.toNat_natCast]
    cases hh : hit t q i with
    | true =>
      rw [if_pos (of_decide_eq_true hh), if_pos hl, ← finds_yes t q i hh]
      exact H
    | false =>
      rw [if_neg (of_decide_eq_false hh), ← finds_no t q i hh]
      exact H
theorem ref_find (t q : ByteArray) (hn : q.size ≤ 1024) (ht : t.size ≤ 3000) (hle : q.size ≤ t.size + 1) : barqueref04_Find.f 3002 t q = some (finds t q (t.size + 1 - q.size)) :=
  ref_find_l t q hn ht (t.size + 1 - q.size) 3002 0 (by omega) (by omega) (by omega)
theorem ref_find_short (t q : ByteArray) (hn : q.size ≤ 1024) (hlt : t.size < q.size) : barqueref04_Find.f 1 t q = some [] := by
  have e1 : (0 : Int) + (q.size : Int) = (q.size : Int) := by omega
  unfold barqueref04_Find.f
  simp only [barqueref04_Find.l0]
  rw [w64e e1 (by omega) (by omega), if_neg (by omega)]

theorem ints_l (l : List Int) (hl : l.length ≤ 4000) (d : Nat) : ∀ (k i : Nat), i ≤ l.length → l.length - i = d → d < k → barquelaw04_ints.l0 k l l i = some true := by
  induction d with
  | zero =>
    intro k i hi hd hk
    obtain ⟨k, rfl⟩ : ∃ m, k = m + 1 := ⟨k - 1, by omega⟩
    obtain rfl : i = l.length := by omega
    simp only [barquelaw04_ints.l0]
    rw [if_neg (by omega)]
  | succ d ih =>
    intro k i hi hd hk
    obtain ⟨k, rfl⟩ : ∃ m, k = m + 1 := ⟨k - 1, by omega⟩
    have H := ih k (i + 1) (by omega) (by omega) (by omega)
    have e2 : (i : Int) + 1 = ((i + 1 : Nat) : Int) := by omega
    have c1 : (i : Int) < (l.length : Int) := by omega
    have c2 : 0 ≤ (i : Int) := by omega
    have b3 : -9223372036854775808 ≤ ((i + 1 : Nat) : Int) := by omega
    have b4 : ((i + 1 : Nat) : Int) ≤ 9223372036854775807 := by omega
    simp only [barquelaw04_ints.l0]
    rw [w64e e2 b3 b4, H]
    simp [c1, c2]
theorem ints_same (l : List Int) (hl : l.length ≤ 4000) : barquelaw04_ints.f 4001 l l = some true := by
  unfold barquelaw04_ints.f
  have := ints_l l hl l.length 4001 0 (by omega) (by omega) (by omega)
  rw [if_pos rfl]; exact this

/-- a slice of ints that reads as a list -/
def Lst (w : World) (A : Option Addr) (l : List Int) : Prop := Kd.C (Kd.int .i64) w A l.length l
theorem Lst.nil (w : World) : Lst w none [] := by
  obtain ⟨A, c, h1, _, h3⟩ := Kd.R_reads (Kd.R_nil (Kd.int .i64) 3 w 0 (fun _ => True))
  injection h1 with h1 _ _
  subst h1
  exact h3
theorem Lst.below {w w' : World} {A : Option Addr} {l : List Int} (h : Lst w A l) (hb : Below w.heap.size w w') : Lst w' A l := Kd.C_below h hb

theorem find_reads (s q : ByteArray) (w : World) (ok0 : Ok s q.size 0) (hs0 : s.size ≤ 3000) : Calls Try.prog 24 #[.string s, .string q] w fun e w' =>
    ∃ A c, e = .returned (.tuple #[.slice A (finds s q (s.size + 1 - q.size)).length c, .int .i64 0]) ∧ Hid ((finds s q (s.size + 1 - q.size)).length ≤ c) ∧ Hid (Lst w' A (finds s q (s.size + 1 - q.size))) ∧ Hid (Below w.heap.size w w') := by
  refine (find_st s q w ok0 hs0).mono fun e w' ⟨v, he, h1, h2⟩ => ?_
  have e1 : s.size + 1 - q.size = s.size - q.size + 1 := by have := ok0.k2; omega
  rw [e1]
  obtain ⟨A, c, hv, hc, hl⟩ := Kd.R_reads h1
  rw [hv] at he
  exact ⟨A, c, he, hc, hl, h2⟩
theorem ref_reads (s q : ByteArray) (l : List Int) (w : World) (k : Nat) (h : barqueref04_Find.f k s q = some l) : Calls Try.prog 25 #[.string s, .string q] w fun e w' =>
    ∃ A c, e = .returned (.slice A l.length c) ∧ Hid (l.length ≤ c) ∧ Hid (Lst w' A l) ∧ Hid (Below w.heap.size w w') := by
  refine (barqueref04_Find.calls k s q l w h).mono fun e w' ⟨v, he, h1, h2⟩ => ?_
  obtain ⟨A, c, hv, hc, hl⟩ := Kd.R_reads h1
  rw [hv] at he
  exact ⟨A, c, he, hc, hl, h2⟩
theorem ints_calls (l : List Int) (hl : Hid (l.length ≤ 4000)) (A B : Option Addr) (c d : Nat) (w : World) (h1 : Lst w A l) (h2 : l.length ≤ c) (h3 : Lst w B l) (h4 : l.length ≤ d) :
    Calls Try.prog 22 #[.slice A l.length c, .slice B l.length d] w fun e w' => e = .returned (.bool true) ∧ Drawn0 w w' :=
  barquelaw04_ints.calls 4001 A c l B d l true w h1 h2 h3 h4 (ints_same l hl)

theorem finds_nil (s t : ByteArray) (w : World) (hcut : ∀ w : World, Calls Try.prog 11 #[.string s, .int .i64 3000] w fun e w' => e = .returned (.string t) ∧ Drawn0 w w') :
    Calls Try.prog 10 #[.string s, .string ⟨#[]⟩] w fun e w' => e = .returned (.bool true) ∧ Below w.heap.size w w' := by
  have hfind := fun w => find_none t ⟨#[]⟩ w rfl
  have bl : ∀ k, Below w.heap.size w (w.drewN k) := fun k => below_drewN (Below.refl _ _) k
  go_enter Try.func10, Try.ntmps10
  go_wp2_with (first
    | (go_at_call 11; (with_reducible refine (hcut _).mono ?_); rintro e w' ⟨rfl, ⟨nd, rfl⟩⟩)
    | (go_at_call 24; (with_reducible refine (hfind _).mono ?_); rintro e w' ⟨rfl, rfl⟩)
    | (go_at_call 14; (with_reducible refine (awake_calls _).mono ?_); rintro e w' ⟨rfl, ⟨nd, rfl⟩⟩))
  go_ret
  exact ⟨rfl, bl _⟩
theorem finds_long (s t q : ByteArray) (w : World) (hcut : ∀ w : World, Calls Try.prog 11 #[.string s, .int .i64 3000] w fun e w' => e = .returned (.string t) ∧ Drawn0 w w')
    (h : 1024 < q.size) : Calls Try.prog 10 #[.string s, .string q] w fun e w' => e = .returned (.bool true) ∧ Below w.heap.size w w' := by
  have hfind := fun w => find_long t q w h
  have bl : ∀ k, Below w.heap.size w (w.drewN k) := fun k => below_drewN (Below.refl _ _) k
  obtain ⟨hq, hq2⟩ := notnil q (by omega)
  go_enter Try.func10, Try.ntmps10
  go_wp2_with (first
    | (go_at_call 11; (with_reducible refine (hcut _).mono ?_); rintro e w' ⟨rfl, ⟨nd, rfl⟩⟩)
    | (go_at_call 24; (with_reducible refine (hfind _).mono ?_); rintro e w' ⟨rfl, rfl⟩)
    | (go_at_call 14; (with_reducible refine (awake_calls _).mono ?_); rintro e w' ⟨rfl, ⟨nd, rfl⟩⟩))
  go_ret
  exact ⟨rfl, bl _⟩
theorem finds_yes_law (s t q : ByteArray) (l : List Int) (w : World) (hl : l.length ≤ 4000) (hcut : ∀ w : World, Calls Try.prog 11 #[.string s, .int .i64 3000] w fun e w' => e = .returned (.string t) ∧ Drawn0 w w')
    (h1 : 1 ≤ q.size) (h2 : q.size ≤ 1024)
    (hall : ∀ w, Calls Try.prog 24 #[.string t, .string q] w fun e w' => ∃ A c, e = .returned (.tuple #[.slice A l.length c, .int .i64 0]) ∧ Hid (l.length ≤ c) ∧ Hid (Lst w' A l) ∧ Hid (Below w.heap.size w w'))
    (href : ∀ w, Calls Try.prog 25 #[.string t, .string q] w fun e w' => ∃ A c, e = .returned (.slice A l.length c) ∧ Hid (l.length ≤ c) ∧ Hid (Lst w' A l) ∧ Hid (Below w.heap.size w w')) :
    Calls Try.prog 10 #[.string s, .string q] w fun e w' => e = .returned (.bool true) ∧ Below w.heap.size w w' := by
  have HL : Hid (l.length ≤ 4000) := hl
  clear hl
  obtain ⟨hq, hq2⟩ := notnil q (by omega)
  go_enter Try.func10, Try.ntmps10
  go_wp2_with (first
    | (go_at_call 11; (with_reducible refine (hcut _).mono ?_); rintro e w1 ⟨rfl, d1⟩; have b1 : Hid (Below w.heap.size w w1) := d1.below; clear d1)
    | (go_at_call 24; (with_reducible refine (hall _).mono ?_); rintro e w2 ⟨A2, c2, rfl, hc2, hl2, b2⟩; have b12 : Hid (Below w.heap.size w w2) := b1.out.trans (b2.out.mono b1.out.size); clear b2)
    | (go_at_call 25; (with_reducible refine (href _).mono ?_); rintro e w3 ⟨A3, c3, rfl, hc3, hl3, b3⟩; have hl23 : Hid (Lst w3 A2 l) := hl2.out.below b3.out; have b13 : Hid (Below w.heap.size w w3) := b12.out.trans (b3.out.mono b12.out.size); clear b3)
    | (go_at_call 22; (with_reducible refine (ints_calls l HL A2 A3 c2 c3 _ hl23.out hc2.out hl3.out hc3.out).mono ?_); rintro e w4 ⟨rfl, d4⟩; have b14 : Hid (Below w.heap.size w w4) := b13.out.trans (d4.below.mono b13.out.size); clear d4)
    | (go_at_call 14; (with_reducible refine (awake_calls _).mono ?_); rintro e w5 ⟨rfl, d5⟩; have b15 : Hid (Below w.heap.size w w5) := b14.out.trans (d5.below.mono b14.out.size); clear d5))
  go_ret
  exact ⟨rfl, b15.out⟩

theorem finds_law (s q : ByteArray) (w : World) (_ : s.size ≤ 140737488351232) (_ : q.size ≤ 140737488351232) :
    Calls Try.prog 10 #[.string s, .string q] w fun e w' => e = .returned (.bool true) ∧ Below w.heap.size w w' := by
  obtain ⟨t, ht, hcut⟩ := cut_calls s 3000
  by_cases h0 : q.size = 0
  · obtain rfl : q = ⟨#[]⟩ := ByteArray.ext (Array.size_eq_zero_iff.1 h0)
    exact finds_nil s t w hcut
  by_cases h1 : 1024 < q.size
  · exact finds_long s t q w hcut h1
  by_cases h2 : t.size < q.size
  · refine finds_yes_law s t q [] w (by simp) hcut (by omega) (by omega) (fun w => ?_) (fun w => ref_reads t q [] w 1 (ref_find_short t q (by omega) h2))
    exact (find_short t q w (by omega) (by omega) h2).mono fun e w' ⟨he, hw⟩ => ⟨none, 0, he, Nat.le_refl _, Lst.nil _, by rw [← hw]; exact Below.refl _ _⟩
  · refine finds_yes_law s t q (finds t q (t.size + 1 - q.size)) w (by have := finds_len t q (t.size + 1 - q.size); omega) hcut (by omega) (by omega) (fun w => find_reads t q w ⟨by omega, by omega, by omega, by omega⟩ ht) (fun w => ref_reads t q _ w 3002 (ref_find t q (by omega) ht (by omega)))
end Go.Proofs.Ytfebaciipigkmaa.RollF
