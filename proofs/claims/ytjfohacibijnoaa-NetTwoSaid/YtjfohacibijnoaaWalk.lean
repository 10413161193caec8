/- What the simpler methods of a net do: the nil net; a net that bears a list of messages. -/
import Derived.Test.YtjfohacibijnoaaBase
import Derived.StillTailTactics
import Derived.WalkSpells
namespace Go.Proofs.Ytjfohacibijnoaa.Net
open Go.RowKit Go.Proofs.YtjfohacibijnoaaW.PrintWords

theorem info9 : (Try.prog.info? 9).map (fun i => (i.zero, i.size, i.bytes)) = some (some (.string ⟨#[]⟩), 1, 16) := by kernel_rfl

/-! the nil net -/
theorem len_nil (w : World) : Calls Try.prog 11 #[.pointer none] w fun e w' => e = .returned (.int .i64 0) ∧ w = w' := by
  go_enter Try.func11, Try.ntmps11
  go_wp2
  go_ret
  exact ⟨rfl, rfl⟩
theorem clear_nil (w : World) : Calls Try.prog 12 #[.pointer none] w fun e w' => e = .returned (.int .i64 0) ∧ w = w' := by
  go_enter Try.func12, Try.ntmps12
  go_wp2
  go_ret
  exact ⟨rfl, rfl⟩
theorem counts_nil (w : World) : Calls Try.prog 14 #[.pointer none] w fun e w' => e = .returned (.tuple #[.int .i64 0, .int .i64 0]) ∧ w = w' := by
  go_enter Try.func14, Try.ntmps14
  go_wp2
  go_ret2
  exact ⟨rfl, rfl⟩
theorem send_nil (s : ByteArray) (w : World) : Calls Try.prog 9 #[.pointer none, .string s] w fun e w' => e = .returned (.bool false) ∧ w = w' := by
  go_enter Try.func9, Try.ntmps9
  go_wp2
  go_ret
  exact ⟨rfl, rfl⟩
theorem peek_nil (i : Int) (w : World) : Calls Try.prog 19 #[.pointer none, .int .i64 i] w fun e w' => e = .returned (.tuple #[.string ⟨#[]⟩, .int .i64 2]) ∧ w = w' := by
  go_enter Try.func19, Try.ntmps19
  go_wp2_with (go_at_call 11; (with_reducible refine (len_nil _).mono ?_); rintro e w' ⟨rfl, rfl⟩)
  go_ret2
  exact ⟨rfl, rfl⟩
/-- where Peek tells that there is nothing, the others do -/
theorem take_no (p : Value) (i : Int) (w : World) (h : ∀ w, Calls Try.prog 19 #[p, .int .i64 i] w fun e w' => e = .returned (.tuple #[.string ⟨#[]⟩, .int .i64 2]) ∧ w = w') :
    Calls Try.prog 10 #[p, .int .i64 i] w fun e w' => e = .returned (.tuple #[.string ⟨#[]⟩, .int .i64 2]) ∧ w = w' := by
  go_enter Try.func10, Try.ntmps10
  go_wp2_with (go_at_call 19; (with_reducible refine (h _).mono ?_); rintro e w' ⟨rfl, rfl⟩)
  go_ret2
  exact ⟨rfl, rfl⟩
theorem drop_no (p : Value) (i : Int) (w : World) (h : ∀ w, Calls Try.prog 19 #[p, .int .i64 i] w fun e w' => e = .returned (.tuple #[.string ⟨#[]⟩, .int .i64 2]) ∧ w = w') :
    Calls Try.prog 16 #[p, .int .i64 i] w fun e w' => e = .returned (.int .i64 2) ∧ w = w' := by
  go_enter Try.func16, Try.ntmps16
  go_wp2_with (go_at_call 19; (with_reducible refine (h _).mono ?_); rintro e w' ⟨rfl, rfl⟩)
  go_ret
  exact ⟨rfl, rfl⟩
theorem copy_no (p : Value) (i : Int) (w : World) (h : ∀ w, Calls Try.prog 19 #[p, .int .i64 i] w fun e w' => e = .returned (.tuple #[.string ⟨#[]⟩, .int .i64 2]) ∧ w = w') :
    Calls Try.prog 15 #[p, .int .i64 i] w fun e w' => e = .returned (.int .i64 2) ∧ w = w' := by
  go_enter Try.func15, Try.ntmps15
  go_wp2_with (go_at_call 19; (with_reducible refine (h _).mono ?_); rintro e w' ⟨rfl, rfl⟩)
  go_ret
  exact ⟨rfl, rfl⟩
theorem bend_no (p : Value) (i m y : Int) (w : World) (h : ∀ w, Calls Try.prog 19 #[p, .int .i64 i] w fun e w' => e = .returned (.tuple #[.string ⟨#[]⟩, .int .i64 2]) ∧ w = w') :
    Calls Try.prog 20 #[p, .int .i64 i, .int .i64 m, .int .i64 y] w fun e w' => e = .returned (.int .i64 2) ∧ w = w' := by
  go_enter Try.func20, Try.ntmps20
  go_wp2_with (go_at_call 19; (with_reducible refine (h _).mono ?_); rintro e w' ⟨rfl, rfl⟩)
  go_ret
  exact ⟨rfl, rfl⟩
theorem swap_no (p : Value) (i k : Int) (w : World) (h : ∀ w, Calls Try.prog 19 #[p, .int .i64 i] w fun e w' => e = .returned (.tuple #[.string ⟨#[]⟩, .int .i64 2]) ∧ w = w') :
    Calls Try.prog 21 #[p, .int .i64 i, .int .i64 k] w fun e w' => e = .returned (.int .i64 2) ∧ w = w' := by
  go_enter Try.func21, Try.ntmps21
  go_wp2_with (go_at_call 19; (with_reducible refine (h _).mono ?_); rintro e w' ⟨rfl, rfl⟩)
  go_ret
  exact ⟨rfl, rfl⟩
theorem swap_no2 (p : Value) (i k : Int) (s : ByteArray) (w : World) (h0 : ∀ w, Calls Try.prog 19 #[p, .int .i64 i] w fun e w' => e = .returned (.tuple #[.string s, .int .i64 0]) ∧ w = w')
    (h : ∀ w, Calls Try.prog 19 #[p, .int .i64 k] w fun e w' => e = .returned (.tuple #[.string ⟨#[]⟩, .int .i64 2]) ∧ w = w') :
    Calls Try.prog 21 #[p, .int .i64 i, .int .i64 k] w fun e w' => e = .returned (.int .i64 2) ∧ w = w' := by
  go_enter Try.func21, Try.ntmps21
  go_wp2_with (first
    | (go_at_call 19; (with_reducible refine (h0 _).mono ?_); rintro e w' ⟨rfl, rfl⟩)
    | (go_at_call 19; (with_reducible refine (h _).mono ?_); rintro e w' ⟨rfl, rfl⟩))
  go_ret
  exact ⟨rfl, rfl⟩

/-! a net -/
structure At (w : World) (b c : Nat) (v : Value) (L : List ByteArray) (sent lost : Int) : Prop where
  blk : Blk w b #[v, .chan (some c), .int .i64 sent, .int .i64 lost] 49
  ch : ∃ s r, w.heap[c]? = some (.chan 1 #[] false s r false)
  own : Strs w v L
theorem At.bc {w : World} {b c : Nat} {v : Value} {L : List ByteArray} {x y : Int} (h : At w b c v L x y) : c ≠ b := by
  rintro rfl
  obtain ⟨s, r, hc⟩ := h.ch
  have hb := h.blk
  unfold Blk at hb
  rw [hb] at hc
  cases hc
theorem At.gb {w : World} {b c : Nat} {v : Value} {L : List ByteArray} {x y : Int} (h : At w b c v L x y) : ∀ k, v.ownBlock = some k → k ≠ b := by
  rintro k hk rfl
  obtain ⟨cells, hg⟩ := own_typed h.own k hk
  have hb := h.blk
  unfold Blk at hb
  rw [hb] at hg
  cases hg
theorem At.gc {w : World} {b c : Nat} {v : Value} {L : List ByteArray} {x y : Int} (h : At w b c v L x y) : ∀ k, v.ownBlock = some k → k ≠ c := by
  rintro k hk rfl
  obtain ⟨cells, hg⟩ := own_typed h.own k hk
  obtain ⟨s, r, hc⟩ := h.ch
  rw [hc] at hg
  cases hg
theorem At.same {w w' : World} {b c : Nat} {v : Value} {L : List ByteArray} {x y : Int} (h : At w b c v L x y) (e : ∀ k, k = b ∨ k = c ∨ v.ownBlock = some k → w'.heap[k]? = w.heap[k]?) : At w' b c v L x y :=
  ⟨h.blk.same (e b (.inl rfl)), let ⟨s, r, hc⟩ := h.ch; ⟨s, r, (e c (.inr (.inl rfl))).trans hc⟩, h.own.same (fun k hk => e k (.inr (.inr hk)))⟩
theorem At.drawn {w w' : World} {b c : Nat} {v : Value} {L : List ByteArray} {x y : Int} (h : At w b c v L x y) (d : Drawn0 w w') : At w' b c v L x y := by
  obtain ⟨n, rfl⟩ := d; exact h.same (fun _ _ => rfl)
/-- the blocks of a net -/
def Foot (b c : Nat) (v : Value) (k : Nat) : Prop := k = b ∨ k = c ∨ v.ownBlock = some k
/-- what a call did with a net: its list, its counts; nothing else has changed -/
def Did (w : World) (b c : Nat) (v : Value) (w' : World) (L : List ByteArray) (sent lost : Int) : Prop :=
  ∃ v', At w' b c v' L sent lost ∧ Mod (Foot b c v) w w' ∧ ∀ k, v'.ownBlock = some k → v.ownBlock = some k ∨ w.heap.size ≤ k

theorem len_at (b c : Nat) (v : Value) (L : List ByteArray) (x y : Int) (w : World) (st : At w b c v L x y) : Calls Try.prog 11 #[.pointer (some ⟨b, 0, none⟩)] w fun e w' => e = .returned (.int .i64 L.length) ∧ w = w' := by
  obtain ⟨A, cap, rfl, h1, h2⟩ := st.own.form
  have h0 : w.cell? ⟨b, 0, none⟩ = some (.slice A L.length cap) := Blk.cell st.blk 0
  clear st
  go_enter Try.func11, Try.ntmps11
  go_wp2
  go_ret
  exact ⟨rfl, rfl⟩
theorem counts_at (b c : Nat) (v : Value) (L : List ByteArray) (x y : Int) (w : World) (st : At w b c v L x y) : Calls Try.prog 14 #[.pointer (some ⟨b, 0, none⟩)] w fun e w' => e = .returned (.tuple #[.int .i64 x, .int .i64 y]) ∧ Drawn0 w w' := by
  have h2 : w.cell? ⟨b, 2, none⟩ = some (.int .i64 x) := Blk.cell st.blk 2
  have h3 : w.cell? ⟨b, 3, none⟩ = some (.int .i64 y) := Blk.cell st.blk 3
  clear st
  go_enter Try.func14, Try.ntmps14
  go_wp2
  go_quiet (fail)
  go_wp2
  go_ret2
  exact ⟨rfl, _, rfl⟩
theorem peek_no (b c : Nat) (v : Value) (L : List ByteArray) (x y : Int) (i : Int) (w : World) (st : At w b c v L x y) (h : i < 0 ∨ L.length ≤ i) :
    Calls Try.prog 19 #[.pointer (some ⟨b, 0, none⟩), .int .i64 i] w fun e w' => e = .returned (.tuple #[.string ⟨#[]⟩, .int .i64 2]) ∧ w = w' := by
  have hl := fun w st => len_at b c v L x y w st
  have hf := st.own.form
  have hlen : L.length ≤ 9223372036854775807 := by obtain ⟨_, _, _, _, h⟩ := hf; exact h
  clear hf
  by_cases h0 : L.length = 0
  · have g0 : ((L.length : Int) == 0) = true := beq_iff_eq.2 (by omega)
    have H0 : Hid (L.length = 0) := h0
    clear h h0
    go_enter Try.func19, Try.ntmps19
    go_wp2_with (go_at_call 11; (with_reducible refine (hl _ st).mono ?_); rintro e w' ⟨rfl, rfl⟩)
    all_goals (go_ret2; exact ⟨rfl, rfl⟩)
  · have g0 : ((L.length : Int) == 0) = false := beq_eq_false_iff_ne.2 (by omega)
    by_cases h1 : i < 0
    · have g1 : decide (i < 0) = true := decide_eq_true h1
      clear h
      go_enter Try.func19, Try.ntmps19
      go_wp2_with (go_at_call 11; (with_reducible refine (hl _ st).mono ?_); rintro e w' ⟨rfl, rfl⟩)
      all_goals (go_ret2; exact ⟨rfl, rfl⟩)
    · have g1 : decide (i < 0) = false := decide_eq_false h1
      have h2 : (L.length : Int) ≤ i := by omega
      clear h
      go_enter Try.func19, Try.ntmps19
      go_wp2_with (go_at_call 11; (with_reducible refine (hl _ st).mono ?_); rintro e w' ⟨rfl, rfl⟩)
      all_goals (go_ret2; exact ⟨rfl, rfl⟩)
theorem peek_at (b c : Nat) (v : Value) (L : List ByteArray) (x y : Int) (i : Nat) (w : World) (st : At w b c v L x y) (h : i < L.length) :
    Calls Try.prog 19 #[.pointer (some ⟨b, 0, none⟩), .int .i64 i] w fun e w' => e = .returned (.tuple #[.string L[i], .int .i64 0]) ∧ w = w' := by
  have hl := fun w st => len_at b c v L x y w st
  obtain ⟨g, cap, cur, rfl, hb, h2, h3, h4, h5⟩ := st.own.row (by omega)
  have h0 : w.cell? ⟨b, 0, none⟩ = some (.slice (some ⟨g, 0, none⟩) L.length cap) := Blk.cell st.blk 0
  have hi : w.cell? ⟨g, i, none⟩ = some (.string L[i]) := (Blk.cell hb i).trans (h5 i h)
  clear h5 hb h4
  generalize L[i] = s at *
  have g0 : ((L.length : Int) == 0) = false := beq_eq_false_iff_ne.2 (by omega)
  go_enter Try.func19, Try.ntmps19
  go_wp2_with (go_at_call 11; (with_reducible refine (hl _ st).mono ?_); rintro e w' ⟨rfl, rfl⟩)
  go_ret2
  exact ⟨rfl, rfl⟩
end Go.Proofs.Ytjfohacibijnoaa.Net
