/- Messages that are taken from the first place come as they were sent: the law's own walk. -/
import Derived.Test.YtjfohacibijnoaaLaws1
namespace Go.Proofs.Ytjfohacibijnoaa.Net
open Go.RowKit Go.Proofs.YtjfohacibijnoaaW.PrintWords

/-- a slice of strings that is read -/
def Rd (w : World) (A : Option Addr) (l : List ByteArray) : Prop := l.length ≤ 9223372036854775807 ∧ (0 < l.length → ∃ ad, A = some ad ∧ ∀ i (hi : i < l.length), w.cell? (ad.add i) = some (.string l[i]))
theorem Rd.below {w w' : World} {A : Option Addr} {l : List ByteArray} (h : Rd w A l) (hb : Below w.heap.size w w') : Rd w' A l :=
  ⟨h.1, fun hn => let ⟨ad, e, hc⟩ := h.2 hn; ⟨ad, e, fun i hi => pw_cell_below hb (hc i hi)⟩⟩

theorem take_no_at (p : Value) (i : Int) (w : World) (h : Calls Try.prog 19 #[p, .int .i64 i] w fun e w' => e = .returned (.tuple #[.string ⟨#[]⟩, .int .i64 2]) ∧ w = w') :
    Calls Try.prog 10 #[p, .int .i64 i] w fun e w' => e = .returned (.tuple #[.string ⟨#[]⟩, .int .i64 2]) ∧ w = w' := by
  go_enter Try.func10, Try.ntmps10
  go_wp2_with (go_at_call 19; (with_reducible refine h.mono ?_); rintro e w' ⟨rfl, rfl⟩)
  go_ret2
  exact ⟨rfl, rfl⟩

set_option maxRecDepth 100000 in
set_option maxHeartbeats 1000000 in
theorem all_law (A : Option Addr) (cap : Nat) (l : List ByteArray) (w : World) (rd : Rd w A l) : Calls Try.prog 3 #[.slice A l.length cap] w fun e w' => e = .returned (.bool true) ∧ Below w.heap.size w w' := by
  have hnew := new_in w.heap.size w w (Below.refl _ _) (Nat.le_refl _)
  have hl := rd.1
  have RD : Hid (∀ w', Below w.heap.size w w' → Rd w' A l) := fun w' h => rd.below h
  clear rd
  go_enter Try.func3, Try.ntmps3
  go_wp2_with (first
    | (go_at_call 8; (with_reducible refine hnew.mono ?_); rintro e w1 ⟨b, c, rfl, n1⟩))
  clear hnew
  generalize hB : w.heap.size = B at *
  have HB : Hid (w.heap.size = B) := hB
  clear hB
  go_loopw [4] (fun i wr => ∃ (j : Nat) (v : Value), j ≤ l.length ∧ j ≤ 200 ∧ i = .int .i64 j ∧ Hid (In B w wr b c v (l.take j) j 0)) (fun i _ => 200 - (intOf i).toNat)
  case atStart => exact ⟨0, _, by omega, by omega, rfl, n1⟩
  case round =>
    obtain ⟨j, v, hj, hj2, rfl, st⟩ := hrel
    clear n1
    by_cases hlt : j < l.length ∧ j < 200
    · obtain ⟨h1, h2⟩ := hlt
      obtain ⟨ad, rfl, hc⟩ := (RD.out wr st.out.bel).2 (by omega)
      have hcj : wr.cell? (ad.add j) = some (.string l[j]) := hc j h1
      have hsend := send_in l[j] st.out (by simp; omega) (by omega) (by omega)
      have ht : Hid (l.take j ++ [l[j]] = l.take (j + 1)) := by show _ = _; rw [List.take_succ_eq_append_getElem h1]
      clear hc
      generalize l[j] = s at *
      go_wp2_with (first
        | (go_at_call 9; (with_reducible refine hsend.mono ?_); rintro e w2 ⟨rfl, v2, st2⟩))
      go_roundw
      case rel => exact ⟨j + 1, v2, by omega, by omega, by go_num, by rw [← ht.out, show ((j + 1 : Nat) : Int) = (j : Int) + 1 from by omega]; exact st2⟩
      case measure => simp [intOf]; omega
    · obtain ⟨M, hM⟩ : ∃ M, min l.length 200 = M := ⟨_, rfl⟩
      have hjM : j = M := by omega
      have HM : Hid (min l.length 200 = M) := hM
      have s0 : Hid (In B w wr b c v ((l.take M).drop 0) j 0) := by rw [List.drop_zero, ← hjM]; exact st
      clear st hjM hM
      by_cases c1 : j < l.length
      all_goals
        go_wp2
        go_loopw [5] (fun i wr => ∃ (k : Nat) (v : Value), k ≤ M ∧ i = .int .i64 k ∧ Hid (In B w wr b c v ((l.take M).drop k) j 0)) (fun i _ => M - (intOf i).toNat)
        case atStart => exact ⟨0, v, by omega, rfl, s0⟩
        case round =>
          obtain ⟨k, v3, hk, rfl, st3⟩ := hrel
          clear s0
          by_cases hlt2 : k < M
          · have hm := HM.out
            have h1 : k < l.length := by omega
            have h2 : k < 200 := by omega
            have hM2 : M ≤ l.length := by omega
            clear hm
            obtain ⟨ad, rfl, hc⟩ := (RD.out wr st3.out.bel).2 (by omega)
            have RC : Hid (∀ w', Below B w w' → w'.cell? (ad.add k) = some (.string l[k])) := by
              intro w' hw
              obtain ⟨ad', e, hc'⟩ := (RD.out w' hw).2 (by omega)
              obtain rfl : ad = ad' := by simpa using e
              exact hc' k h1
            have hlen : ((l.take M).drop k).length = M - k := by rw [List.length_drop, List.length_take]; omega
            have hg : ((l.take M).drop k)[0]'(by omega) = l[k] := by simp
            have htake := take_in 0 st3.out (by omega)
            rw [hg] at htake
            have he : Hid (((l.take M).drop k).eraseIdx 0 = (l.take M).drop (k + 1)) := by
              show _ = _
              rw [List.drop_eq_getElem_cons (by simp; omega)]
              simp
            have htk : Calls Try.prog 10 #[.pointer (some ⟨b, 0, none⟩), .int .i64 0] wr fun e w' => e = .returned (.tuple #[.string l[k], .int .i64 0]) ∧ ∃ v', Hid (In B w w' b c v' ((l.take M).drop (k + 1)) j 0) := by
              rw [← he.out]; exact htake
            clear hc hlen hg htake he
            generalize l[k] = s at *
            have hss : (s.toList != s.toList) = false := by simp
            go_wp2_with (first
              | (go_at_call 10; (with_reducible refine htk.mono ?_); rintro e w2 ⟨rfl, v2, st2⟩; have hck := RC.out w2 st2.out.bel))
            go_roundw
            case rel => exact ⟨k + 1, v2, by omega, by go_num, st2⟩
            case measure => simp [intOf]; omega
          · obtain rfl : k = M := by omega
            have hm := HM.out
            have h3 : (l.take k).drop k = [] := by rw [List.drop_eq_nil_of_le (by rw [List.length_take]; omega)]
            rw [h3] at st3
            have hpk : ∀ w', In B w w' b c v3 [] j 0 → Calls Try.prog 10 #[.pointer (some ⟨b, 0, none⟩), .int .i64 0] w' fun e w'' => e = .returned (.tuple #[.string ⟨#[]⟩, .int .i64 2]) ∧ w' = w'' :=
              fun w' d => take_no_at _ 0 w' (peek_no b c v3 [] _ _ 0 w' d.at_ (.inr (by simp)))
            have hln : ∀ w', In B w w' b c v3 [] j 0 → Calls Try.prog 11 #[.pointer (some ⟨b, 0, none⟩)] w' fun e w'' => e = .returned (.int .i64 0) ∧ w' = w'' :=
              fun w' d => len_at b c v3 [] _ _ w' d.at_
            have hcl : ∀ w', In B w w' b c v3 [] j 0 → Calls Try.prog 12 #[.pointer (some ⟨b, 0, none⟩)] w' fun e w'' => e = .returned (.int .i64 0) ∧ ∃ v', Hid (In B w w'' b c v' [] j 0) :=
              fun w' d => (clear_at b c v3 [] _ _ w' d.at_).mono fun _ _ ⟨he, x⟩ => ⟨he, d.did x⟩
            have st4 : Hid (In B w wr b c v3 [] j 0) := st3
            have c3 : k < l.length ∧ 200 ≤ k ∨ l.length ≤ k := by omega
            clear hm h3 st3
            rcases c3 with ⟨c2, c4⟩ | c2
            all_goals
              go_wp2_with (first
                | (go_at_call 10; (with_reducible refine (hpk _ st4.out).mono ?_); rintro e w6 ⟨rfl, rfl⟩)
                | (go_at_call 11; (with_reducible refine (hln _ st4.out).mono ?_); rintro e w7 ⟨rfl, rfl⟩)
                | (go_at_call 12; (with_reducible refine (hcl _ st4.out).mono ?_); rintro e w8 ⟨rfl, v8, n8⟩)
                | (go_at_call 13; (with_reducible refine (awake_calls _).mono ?_); rintro e w9 ⟨rfl, b9⟩))
              all_goals (go_ret; refine ⟨rfl, ?_⟩; rw [HB.out]; exact n8.out.bel.trans (b9.out.mono n8.out.size))
end Go.Proofs.Ytjfohacibijnoaa.Net
