/- What Swap of a net does. -/
import Derived.Test.YtjfohacibijnoaaWalk4
import Derived.BigRegion
namespace Go.Proofs.Ytjfohacibijnoaa.Net
open Go.RowKit Go.Proofs.YtjfohacibijnoaaW.PrintWords

set_option maxRecDepth 100000 in
set_option maxHeartbeats 2000000 in
theorem swap_two (b : Nat) (i k : Nat) (si sk : ByteArray) (g n cap : Nat) (w : World) (hik : i ≠ k) (hi : i < n) (hk : k < n) (_ : n ≤ 9223372036854775807)
    (hpi : ∀ w', w'.heap = w.heap → Calls Try.prog 19 #[.pointer (some ⟨b, 0, none⟩), .int .i64 i] w' fun e w'' => e = .returned (.tuple #[.string si, .int .i64 0]) ∧ w' = w'')
    (hpk : ∀ w', w'.heap = w.heap → Calls Try.prog 19 #[.pointer (some ⟨b, 0, none⟩), .int .i64 k] w' fun e w'' => e = .returned (.tuple #[.string sk, .int .i64 0]) ∧ w' = w'')
    (h0 : w.cell? ⟨b, 0, none⟩ = some (.slice (some ⟨g, 0, none⟩) n cap)) (ci : w.cell? ⟨g, i, none⟩ = some (.string si)) (ck : w.cell? ⟨g, k, none⟩ = some (.string sk))
    (fi : w.frozen? ⟨g, i, none⟩ = false) (fk : w.frozen? ⟨g, k, none⟩ = false) (hgb : g ≠ b) :
    Calls Try.prog 21 #[.pointer (some ⟨b, 0, none⟩), .int .i64 i, .int .i64 k] w fun e w' => e = .returned (.int .i64 0) ∧ ∃ q, w' = ((w.setCell ⟨g, i, none⟩ (.string sk)).setCell ⟨g, k, none⟩ (.string si)).drewN q := by
  have i1 : (i : Int) < (n : Int) := by omega
  have i2 : (k : Int) < (n : Int) := by omega
  have i3 : 0 ≤ (i : Int) := by omega
  have i4 : 0 ≤ (k : Int) := by omega
  go_enter Try.func21, Try.ntmps21
  go_wp2_with (first
    | (go_at_call 19; (with_reducible refine (hpi _ rfl).mono ?_); rintro e w' ⟨rfl, rfl⟩)
    | (go_at_call 19; (with_reducible refine (hpk _ rfl).mono ?_); rintro e w' ⟨rfl, rfl⟩))
  go_region
  go_wp2
  go_ret
  exact ⟨rfl, 1, rfl⟩
set_option maxRecDepth 100000 in
set_option maxHeartbeats 2000000 in
theorem swap_one (b : Nat) (i : Nat) (si : ByteArray) (g n cap : Nat) (w : World) (hi : i < n) (_ : n ≤ 9223372036854775807)
    (hpi : ∀ w', w'.heap = w.heap → Calls Try.prog 19 #[.pointer (some ⟨b, 0, none⟩), .int .i64 i] w' fun e w'' => e = .returned (.tuple #[.string si, .int .i64 0]) ∧ w' = w'')
    (h0 : w.cell? ⟨b, 0, none⟩ = some (.slice (some ⟨g, 0, none⟩) n cap)) (ci : w.cell? ⟨g, i, none⟩ = some (.string si))
    (fi : w.frozen? ⟨g, i, none⟩ = false) (_ : g ≠ b) :
    Calls Try.prog 21 #[.pointer (some ⟨b, 0, none⟩), .int .i64 i, .int .i64 i] w fun e w' => e = .returned (.int .i64 0) ∧ ∃ q, w' = ((w.setCell ⟨g, i, none⟩ (.string si)).setCell ⟨g, i, none⟩ (.string si)).drewN q := by
  have i1 : (i : Int) < (n : Int) := by omega
  have i3 : 0 ≤ (i : Int) := by omega
  have cs : ∀ q, ((w.drewN q).setCell ⟨g, i, none⟩ (.string si)).cell? ⟨g, i, none⟩ = some (.string si) := fun q => World.cell?_setCell_same w _ _ (u := .string si) ci
  have cs1 : (w.setCell ⟨g, i, none⟩ (.string si)).cell? ⟨g, i, none⟩ = some (.string si) := cs 0
  go_enter Try.func21, Try.ntmps21
  go_wp2_with (first
    | (go_at_call 19; (with_reducible refine (hpi _ rfl).mono ?_); rintro e w' ⟨rfl, rfl⟩))
  go_region
  go_wp2
  go_ret
  exact ⟨rfl, 1, rfl⟩

theorem swap_at (b c : Nat) (v : Value) (L : List ByteArray) (x y : Int) (i k : Nat) (w : World) (st : At w b c v L x y) (hi : i < L.length) (hk : k < L.length) :
    Calls Try.prog 21 #[.pointer (some ⟨b, 0, none⟩), .int .i64 i, .int .i64 k] w fun e w' => e = .returned (.int .i64 0) ∧ Did w b c v w' ((L.set i L[k]).set k L[i]) x y := by
  obtain ⟨g, cap, cur, hv, hb, h2, h3, h4, h5⟩ := st.own.row (by omega)
  have hgb := st.gb g (by rw [hv]; rfl)
  have h0 : w.cell? ⟨b, 0, none⟩ = some (.slice (some ⟨g, 0, none⟩) L.length cap) := by rw [← hv]; exact Blk.cell st.blk 0
  have ci : w.cell? ⟨g, i, none⟩ = some (.string L[i]) := (Blk.cell hb i).trans (h5 i hi)
  have ck : w.cell? ⟨g, k, none⟩ = some (.string L[k]) := (Blk.cell hb k).trans (h5 k hk)
  have fi : w.frozen? ⟨g, i, none⟩ = false := Blk.free hb i
  have fk : w.frozen? ⟨g, k, none⟩ = false := Blk.free hb k
  have hpi : ∀ w', w'.heap = w.heap → Calls Try.prog 19 #[.pointer (some ⟨b, 0, none⟩), .int .i64 i] w' fun e w'' => e = .returned (.tuple #[.string L[i], .int .i64 0]) ∧ w' = w'' :=
    fun w' hw => peek_at b c v L x y i w' (st.same (fun _ _ => by rw [hw])) hi
  have hpk : ∀ w', w'.heap = w.heap → Calls Try.prog 19 #[.pointer (some ⟨b, 0, none⟩), .int .i64 k] w' fun e w'' => e = .returned (.tuple #[.string L[k], .int .i64 0]) ∧ w' = w'' :=
    fun w' hw => peek_at b c v L x y k w' (st.same (fun _ _ => by rw [hw])) hk
  have fin : ∀ q, Did w b c v (((w.setCell ⟨g, i, none⟩ (.string L[k])).setCell ⟨g, k, none⟩ (.string L[i])).drewN q) ((L.set i L[k]).set k L[i]) x y := by
    intro q
    obtain ⟨v1, a1, m1, o1⟩ := did_set (t := L[k]) st hv hi (Below.refl _ w)
    have e1 : v1 = v := by
      have h1 := Blk.cell a1.blk 0
      have h2 := Blk.cell (st.blk.same (heap_setCell_ne w ⟨g, i, none⟩ (.string L[k]) b (fun e => hgb e.symm))) 0
      rw [h1] at h2
      simpa using h2
    subst e1
    have hv' : v1 = .slice (some ⟨g, 0, none⟩) L.length cap := hv
    obtain ⟨v2, a2, m2, o2⟩ := did_set (t := L[i]) a1 hv' (by simpa using hk) (Below.refl _ _)
    exact ⟨v2, a2.same (fun _ _ => rfl), (m1.trans m2).drewN q, fun k hk => (o2 k hk).elim .inl (fun h => .inr (by simpa using h))⟩
  by_cases hik : i = k
  · subst hik
    exact (swap_one b i L[i] g L.length cap w hi (by omega) hpi h0 ci fi hgb).mono fun e w' ⟨he, q, hw⟩ => ⟨he, hw ▸ fin q⟩
  · exact (swap_two b i k L[i] L[k] g L.length cap w hik hi hk (by omega) hpi hpk h0 ci ck fi fk hgb).mono fun e w' ⟨he, q, hw⟩ => ⟨he, hw ▸ fin q⟩
end Go.Proofs.Ytjfohacibijnoaa.Net
