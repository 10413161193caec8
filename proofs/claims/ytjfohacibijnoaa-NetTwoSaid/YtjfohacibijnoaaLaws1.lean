/- The example that each law asks for at its end; and the law on the net that is nil. -/
import Derived.Test.YtjfohacibijnoaaWalk5
namespace Go.Proofs.Ytjfohacibijnoaa.Net
open Go.RowKit Go.Proofs.YtjfohacibijnoaaW.PrintWords

/-- a net that the call itself made, from block B on; of what was there before nothing has changed -/
structure In (B : Nat) (w0 w : World) (b c : Nat) (v : Value) (L : List ByteArray) (x y : Int) : Prop where
  at_ : At w b c v L x y
  foot : ∀ k, Foot b c v k → B ≤ k
  bel : Below B w0 w
  size : B ≤ w.heap.size
theorem In.did {B : Nat} {w0 w w' : World} {b c : Nat} {v : Value} {L M : List ByteArray} {x y x' y' : Int} (h : In B w0 w b c v L x y) (d : Did w b c v w' M x' y') : ∃ v', In B w0 w' b c v' M x' y' := by
  obtain ⟨v', a, m, o⟩ := d
  refine ⟨v', a, fun k hk => ?_, h.bel.trans (m.below h.foot h.size), Nat.le_trans h.size m.size⟩
  rcases hk with e | e | e
  · exact h.foot k (.inl e)
  · exact h.foot k (.inr (.inl e))
  · rcases o k e with e | e
    · exact h.foot k (.inr (.inr e))
    · exact Nat.le_trans h.size e
theorem In.below {B : Nat} {w0 w w' : World} {b c : Nat} {v : Value} {L : List ByteArray} {x y : Int} (h : In B w0 w b c v L x y) (d : Below w.heap.size w w') : In B w0 w' b c v L x y := by
  refine ⟨h.at_.same (fun k hk => d.block k ?_), h.foot, h.bel.trans (d.mono h.size), Nat.le_trans h.size d.size⟩
  rcases hk with e | e | e
  · rw [e]; exact h.at_.blk.lt
  · rw [e]
    obtain ⟨s, r, hc⟩ := h.at_.ch
    exact (Array.getElem?_eq_some_iff.1 hc).1
  · exact h.at_.own.lt k e
theorem In.drawn {B : Nat} {w0 w w' : World} {b c : Nat} {v : Value} {L : List ByteArray} {x y : Int} (h : In B w0 w b c v L x y) (d : Drawn0 w w') : In B w0 w' b c v L x y := h.below d.below
theorem new_in (B : Nat) (w0 w : World) (hb : Below B w0 w) (hB : B ≤ w.heap.size) : Calls Try.prog 8 #[] w fun e w' => ∃ b c, e = .returned (.pointer (some ⟨b, 0, none⟩)) ∧ Hid (In B w0 w' b c (.slice none 0 0) [] 0 0) := by
  refine (new_calls w).mono fun e w' ⟨b, c, he, h1, h2, h3, h4⟩ => ⟨b, c, he, h1, fun k hk => ?_, hb.trans (h2.out.mono hB), Nat.le_trans hB h2.out.size⟩
  rcases hk with e | e | e
  · omega
  · omega
  · simp [Value.ownBlock] at e
theorem send_in {B : Nat} {w0 w : World} {b c : Nat} {v : Value} {L : List ByteArray} {x y : Int} (s : ByteArray) (h : In B w0 w b c v L x y) (hl : L.length < 4096) (x0 : 0 ≤ x) (x1 : x ≤ 1000000) :
    Calls Try.prog 9 #[.pointer (some ⟨b, 0, none⟩), .string s] w fun e w' => e = .returned (.bool true) ∧ ∃ v', Hid (In B w0 w' b c v' (L ++ [s]) (x + 1) y) :=
  (send_at b c v L x y s w h.at_ hl x0 x1).mono fun _ _ ⟨he, d⟩ => ⟨he, h.did d⟩
theorem swap_in {B : Nat} {w0 w : World} {b c : Nat} {v : Value} {L : List ByteArray} {x y : Int} (i k : Nat) (h : In B w0 w b c v L x y) (hi : i < L.length) (hk : k < L.length) :
    Calls Try.prog 21 #[.pointer (some ⟨b, 0, none⟩), .int .i64 i, .int .i64 k] w fun e w' => e = .returned (.int .i64 0) ∧ ∃ v', Hid (In B w0 w' b c v' ((L.set i L[k]).set k L[i]) x y) :=
  (swap_at b c v L x y i k w h.at_ hi hk).mono fun _ _ ⟨he, d⟩ => ⟨he, h.did d⟩
theorem take_in {B : Nat} {w0 w : World} {b c : Nat} {v : Value} {L : List ByteArray} {x y : Int} (i : Nat) (h : In B w0 w b c v L x y) (hi : i < L.length) :
    Calls Try.prog 10 #[.pointer (some ⟨b, 0, none⟩), .int .i64 i] w fun e w' => e = .returned (.tuple #[.string L[i], .int .i64 0]) ∧ ∃ v', Hid (In B w0 w' b c v' (L.eraseIdx i) x y) :=
  (take_at b c v L x y i w h.at_ hi).mono fun _ _ ⟨he, d⟩ => ⟨he, h.did d⟩

theorem awake_calls (w : World) : Calls Try.prog 13 #[] w fun e w' => e = .returned (.bool true) ∧ Hid (Below w.heap.size w w') := by
  have hnew := new_in w.heap.size w w (Below.refl _ _) (Nat.le_refl _)
  go_enter Try.func13, Try.ntmps13
  go_wp2_with (first
    | (go_at_call 8; (with_reducible refine hnew.mono ?_); rintro e w1 ⟨b, c, rfl, n1⟩)
    | (go_at_call 9; (with_reducible refine (send_in ⟨#[97]⟩ n1.out (by decide) (by omega) (by omega)).mono ?_); rintro e w2 ⟨rfl, v2, n2⟩)
    | (go_at_call 9; (with_reducible refine (send_in ⟨#[98]⟩ n2.out (by decide) (by omega) (by omega)).mono ?_); rintro e w3 ⟨rfl, v3, n3⟩)
    | (go_at_call 21; refine (swap_in 0 1 n3.out (by decide) (by decide)).mono ?_; rintro e w4 ⟨rfl, v4, n4⟩)
    | (go_at_call 10; refine (take_in 0 n4.out (by decide)).mono ?_; rintro e w5 ⟨rfl, v5, n5⟩))
  go_ret
  exact ⟨rfl, n5.out.bel⟩

theorem nobody_law (i : Int) (s : ByteArray) (w : World) (_ : (Lit.int .i64 i).wf = true) (_ : s.size ≤ 140737488351232) : Calls Try.prog 7 #[.int .i64 i, .string s] w fun e w' => e = .returned (.bool true) ∧ Below w.heap.size w w' := by
  have hp := peek_nil i
  have h1 := fun w => take_no (.pointer none) i w hp
  have h2 := fun w => drop_no (.pointer none) i w hp
  have h3 := fun w => copy_no (.pointer none) i w hp
  have h4 := fun w => bend_no (.pointer none) i 0 1 w hp
  have h5 := fun w => swap_no (.pointer none) i i w hp
  have BL : Hid (∀ w', Below w.heap.size w w' → Below w.heap.size w w') := fun _ h => h
  go_enter Try.func7, Try.ntmps7
  go_wp2_with (first
    | (go_at_call 14; (with_reducible refine (counts_nil _).mono ?_); rintro e w' ⟨rfl, rfl⟩)
    | (go_at_call 19; (with_reducible refine (hp _).mono ?_); rintro e w' ⟨rfl, rfl⟩)
    | (go_at_call 10; (with_reducible refine (h1 _).mono ?_); rintro e w' ⟨rfl, rfl⟩)
    | (go_at_call 9; (with_reducible refine (send_nil _ _).mono ?_); rintro e w' ⟨rfl, rfl⟩)
    | (go_at_call 11; (with_reducible refine (len_nil _).mono ?_); rintro e w' ⟨rfl, rfl⟩)
    | (go_at_call 12; (with_reducible refine (clear_nil _).mono ?_); rintro e w' ⟨rfl, rfl⟩)
    | (go_at_call 16; (with_reducible refine (h2 _).mono ?_); rintro e w' ⟨rfl, rfl⟩)
    | (go_at_call 15; (with_reducible refine (h3 _).mono ?_); rintro e w' ⟨rfl, rfl⟩)
    | (go_at_call 20; (with_reducible refine (h4 _).mono ?_); rintro e w' ⟨rfl, rfl⟩)
    | (go_at_call 21; (with_reducible refine (h5 _).mono ?_); rintro e w' ⟨rfl, rfl⟩)
    | (go_at_call 13; (with_reducible refine (awake_calls _).mono ?_); rintro e w9 ⟨rfl, b9⟩))
  go_ret
  exact ⟨rfl, b9.out⟩
end Go.Proofs.Ytjfohacibijnoaa.Net
