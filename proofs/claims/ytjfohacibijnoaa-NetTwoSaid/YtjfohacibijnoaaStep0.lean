/- The plain list of a script: what is read of it, what the helpers make of it; and the calls with a place that is none. -/
import Derived.Test.YtjfohacibijnoaaLaws3
import Derived.Test.YtjfohacibijnoaaPNetTwox1
namespace Go.Proofs.Ytjfohacibijnoaa.Net
open Go.RowKit Go.Proofs.YtjfohacibijnoaaW.PrintWords

section
variable (p : Value) (i : Int) (w : World) (h : Calls Try.prog 19 #[p, .int .i64 i] w fun e w' => e = .returned (.tuple #[.string ⟨#[]⟩, .int .i64 2]) ∧ w = w')
include h
theorem drop_no_at : Calls Try.prog 16 #[p, .int .i64 i] w fun e w' => e = .returned (.int .i64 2) ∧ w = w' := by
  go_enter Try.func16, Try.ntmps16
  go_wp2_with (go_at_call 19; (with_reducible refine h.mono ?_); rintro e w' ⟨rfl, rfl⟩)
  go_ret
  exact ⟨rfl, rfl⟩
theorem copy_no_at : Calls Try.prog 15 #[p, .int .i64 i] w fun e w' => e = .returned (.int .i64 2) ∧ w = w' := by
  go_enter Try.func15, Try.ntmps15
  go_wp2_with (go_at_call 19; (with_reducible refine h.mono ?_); rintro e w' ⟨rfl, rfl⟩)
  go_ret
  exact ⟨rfl, rfl⟩
theorem bend_no_at (m y : Int) : Calls Try.prog 20 #[p, .int .i64 i, .int .i64 m, .int .i64 y] w fun e w' => e = .returned (.int .i64 2) ∧ w = w' := by
  go_enter Try.func20, Try.ntmps20
  go_wp2_with (go_at_call 19; (with_reducible refine h.mono ?_); rintro e w' ⟨rfl, rfl⟩)
  go_ret
  exact ⟨rfl, rfl⟩
theorem swap_no_at (k : Int) : Calls Try.prog 21 #[p, .int .i64 i, .int .i64 k] w fun e w' => e = .returned (.int .i64 2) ∧ w = w' := by
  go_enter Try.func21, Try.ntmps21
  go_wp2_with (go_at_call 19; (with_reducible refine h.mono ?_); rintro e w' ⟨rfl, rfl⟩)
  go_ret
  exact ⟨rfl, rfl⟩
end
theorem swap_no2_at (p : Value) (i k : Int) (s : ByteArray) (w : World) (h0 : Calls Try.prog 19 #[p, .int .i64 i] w fun e w' => e = .returned (.tuple #[.string s, .int .i64 0]) ∧ w = w')
    (h : Calls Try.prog 19 #[p, .int .i64 k] w fun e w' => e = .returned (.tuple #[.string ⟨#[]⟩, .int .i64 2]) ∧ w = w') :
    Calls Try.prog 21 #[p, .int .i64 i, .int .i64 k] w fun e w' => e = .returned (.int .i64 2) ∧ w = w' := by
  go_enter Try.func21, Try.ntmps21
  go_wp2_with (first
    | (go_at_call 19; (with_reducible refine h0.mono ?_); rintro e w' ⟨rfl, rfl⟩)
    | (go_at_call 19; (with_reducible refine h.mono ?_); rintro e w' ⟨rfl, rfl⟩))
  go_ret
  exact ⟨rfl, rfl⟩

/-- a list of texts that is read -/
def Lst (w : World) (lv : Value) (L : List ByteArray) : Prop :=
  ∃ A c, lv = .slice A L.length c ∧ L.length ≤ c ∧ Kd.C Kd.string w A L.length L
theorem Lst.nil (w : World) : Lst w (.slice none 0 0) [] := ⟨none, 0, rfl, Nat.le_refl _, rfl, by simp, fun h => absurd h (by simp)⟩
theorem C_str {w : World} {A : Option Addr} {L : List ByteArray} (h : Kd.C Kd.string w A L.length L) (i : Nat) (hi : i < L.length) : ∃ ad, A = some ad ∧ w.cell? (ad.add i) = some (.string L[i]) := by
  obtain ⟨ad, e, hc⟩ := h.2.2 (by omega)
  obtain ⟨c, hs, hr, hcell⟩ := hc i L[i] (List.getElem?_eq_getElem hi)
  have hr' : c = [Value.string L[i]] := hr
  subst hr'
  have := hcell 0 (.string L[i]) rfl
  rw [Nat.add_zero, show (Kd.string).sz = 1 from rfl, Nat.mul_one] at this
  exact ⟨ad, e, this⟩
theorem C_of_str {w : World} {A : Option Addr} {L : List ByteArray} (hl : L.length ≤ 9223372036854775807) (h : 0 < L.length → ∃ ad, A = some ad ∧ ∀ i (hi : i < L.length), w.cell? (ad.add i) = some (.string L[i])) : Kd.C Kd.string w A L.length L := by
  refine ⟨rfl, hl, fun h0 => ?_⟩
  obtain ⟨ad, e, hc⟩ := h h0
  refine ⟨ad, e, fun j p hj => ⟨[.string p], rfl, rfl, fun i u hu => ?_⟩⟩
  obtain ⟨hjl, rfl⟩ := List.getElem?_eq_some_iff.1 hj
  cases i with
  | zero =>
    simp at hu
    subst hu
    rw [Nat.add_zero, show (Kd.string).sz = 1 from rfl, Nat.mul_one]
    exact hc j hjl
  | succ i => simp at hu
theorem Lst.same {w w' : World} {lv : Value} {L : List ByteArray} (h : Lst w lv L) (e : ∀ k, lv.ownBlock = some k → w'.heap[k]? = w.heap[k]?) : Lst w' lv L := by
  obtain ⟨A, c, rfl, h1, h2⟩ := h
  refine ⟨A, c, rfl, h1, C_of_str h2.2.1 (fun h0 => ?_)⟩
  obtain ⟨ad, rfl, _⟩ := C_str h2 0 h0
  refine ⟨ad, rfl, fun i hi => ?_⟩
  obtain ⟨ad', e', hc⟩ := C_str h2 i hi
  cases e'
  have hb : (ad.add i).block = ad.block := by unfold Addr.add; split <;> rfl
  exact (World.cell?_of_block (w := w) (by rw [hb]; exact e ad.block rfl)).trans hc
theorem Lst.lt {w : World} {lv : Value} {L : List ByteArray} (h : Lst w lv L) (h0 : 0 < L.length) (k : Nat) (hk : lv.ownBlock = some k) : k < w.heap.size := by
  obtain ⟨A, c, rfl, h1, h2⟩ := h
  obtain ⟨ad, rfl, hc⟩ := C_str h2 0 h0
  have := World.block_lt_of_cell? w _ hc
  have hb : (ad.add 0).block = ad.block := by unfold Addr.add; split <;> rfl
  rw [hb] at this
  cases hk
  exact this

theorem rdS (L : List ByteArray) (j : Nat) (h : j < L.length) : rdOf ByteArray.empty L (j : Int) = L[j] := by
  unfold rdOf; rw [Int.toNat_natCast, List.getD_eq_getElem?_getD, List.getElem?_eq_getElem h]; rfl
theorem w64s {x : Int} (h : -9223372036854775808 ≤ x) (h' : x ≤ 9223372036854775807) : wrap64 x = x := by simp only [wrap64]; omega
open Go.Proofs.Ytjfohacibijnoaa.PNetTwo in
theorem without_l0 (L : List ByteArray) (i : Nat) (hl : L.length ≤ 1000000) : ∀ (d j : Nat), L.length = j + d → ∃ k, barquelaw21_without.l0 k L (i : Int) ((L.take j).eraseIdx i) (j : Int) = some (L.eraseIdx i) := by
  intro d
  induction d with
  | zero =>
    intro j hj
    refine ⟨1, ?_⟩
    unfold barquelaw21_without.l0
    rw [if_neg (by omega), List.take_of_length_le (by omega)]
  | succ d ih =>
    intro j hj
    have hw : wrap64 ((j : Int) + 1) = ((j + 1 : Nat) : Int) := by rw [w64s (by omega) (by omega)]; omega
    have hjl : j < L.length := by omega
    obtain ⟨k, hk⟩ := ih (j + 1) (by omega)
    have hlen : ((L.take j).eraseIdx i).length ≤ 1000000 := by
      have := List.length_eraseIdx_le (L.take j) i
      rw [List.length_take] at this
      omega
    refine ⟨k + 1, ?_⟩
    unfold barquelaw21_without.l0
    rw [if_pos (by omega), hw]
    by_cases c : (j : Int) = (i : Int)
    · obtain rfl : j = i := by omega
      rw [if_pos c]
      rw [List.take_succ_eq_append_getElem hjl, List.eraseIdx_append_of_length_le (by rw [List.length_take]; omega), List.length_take, Nat.min_eq_left (by omega), Nat.sub_self] at hk
      rw [List.eraseIdx_of_length_le (by rw [List.length_take]; omega)]
      simpa using hk
    · rw [if_neg c, if_pos (by omega), if_pos (by omega), rdS L j hjl]
      rw [List.take_succ_eq_append_getElem hjl] at hk
      by_cases c2 : i < j
      · rw [List.eraseIdx_append_of_lt_length (by rw [List.length_take]; omega)] at hk
        exact hk
      · rw [List.eraseIdx_of_length_le (by rw [List.length_append, List.length_take]; simp; omega)] at hk
        rw [List.eraseIdx_of_length_le (by rw [List.length_take]; omega)]
        exact hk
open Go.Proofs.Ytjfohacibijnoaa.PNetTwo in
theorem without_at (lv : Value) (L : List ByteArray) (i : Nat) (w : World) (h : Lst w lv L) (hl : L.length ≤ 1000000) :
    Calls Try.prog 23 #[lv, .int .i64 i] w fun e w' => ∃ v', e = .returned v' ∧ Hid (Lst w' v' (L.eraseIdx i) ∧ (∀ k, v'.ownBlock = some k → w.heap.size ≤ k ∧ k < w'.heap.size) ∧ Below w.heap.size w w') := by
  obtain ⟨A, c, rfl, h1, h2⟩ := h
  obtain ⟨k, hk⟩ := without_l0 L i hl L.length 0 (by omega)
  have hf : barquelaw21_without.f k L (i : Int) = some (L.eraseIdx i) := by unfold barquelaw21_without.f; simpa using hk
  refine (barquelaw21_without.calls k A c L (i : Int) _ w h2 h1 hf).mono ?_
  rintro e w' ⟨v, rfl, hR, hB⟩
  obtain ⟨A', c', rfl, l1, g1⟩ := Kd.R_reads hR
  exact ⟨_, rfl, ⟨A', c', rfl, l1, g1⟩, fun k hk => ⟨Kd.R_base hR k hk, Kd.R_lt hR k hk⟩, hB⟩
open Go.Proofs.Ytjfohacibijnoaa.PNetTwo in
theorem swapped_at (lv : Value) (L : List ByteArray) (i k : Nat) (w : World) (h : Lst w lv L) (hl : L.length ≤ 1000000) (hi : i < L.length) (hk : k < L.length) :
    Calls Try.prog 25 #[lv, .int .i64 i, .int .i64 k] w fun e w' => ∃ v', e = .returned v' ∧ Hid (Lst w' v' ((L.set i L[k]).set k L[i]) ∧ (∀ k, v'.ownBlock = some k → w.heap.size ≤ k ∧ k < w'.heap.size) ∧ Below w.heap.size w w') := by
  obtain ⟨A, c, rfl, h1, h2⟩ := h
  have hf : barquelaw21_swapped.f L (i : Int) (k : Int) = some ((L.set i L[k]).set k L[i]) := by
    unfold barquelaw21_swapped.f
    simp only [Option.bind_some, List.length_nil, List.nil_append]
    rw [if_pos (by omega), if_pos (by omega), if_pos (by omega), if_pos (by omega), if_pos (by omega), if_pos (by omega), if_pos (by omega), rdS L k hk, rdS L i hi, Int.toNat_natCast, Int.toNat_natCast]
  refine (barquelaw21_swapped.calls A c L (i : Int) (k : Int) _ w h2 h1 hf).mono ?_
  rintro e w' ⟨v, rfl, hR, hB⟩
  obtain ⟨A', c', rfl, l1, g1⟩ := Kd.R_reads hR
  exact ⟨_, rfl, ⟨A', c', rfl, l1, g1⟩, fun k hk => ⟨Kd.R_base hR k hk, Kd.R_lt hR k hk⟩, hB⟩

end Go.Proofs.Ytjfohacibijnoaa.Net
