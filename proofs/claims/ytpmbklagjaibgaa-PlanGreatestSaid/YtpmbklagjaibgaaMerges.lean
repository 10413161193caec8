/- The law of what comes of any promises. -/
import Derived.Test.YtpmbklagjaibgaaFewPure
import Derived.Test.YtpmbklagjaibgaaBase
import Derived.Test.YtpmbklagjaibgaaOpens
namespace Go.Proofs.Ytpmbklagjaibgaa.PPlanMerges
open Go.RowKit Go.Proofs.YtpmbklagjaibgaaW.PrintWords Go.Proofs.YtpmbklagjaibgaaW.PrintLast Go.Proofs.YtpmbklagjaibgaaW.PrintMore
open Go.Proofs.Ytpmbklagjaibgaa.Plan (awake_calls)

/-- a list of promises that is read -/
def Ps (w : World) (A : Option Addr) (c : Nat) (l : List S44) : Prop := l.length ≤ c ∧ Kd.C k44 w A l.length l
def Es (w : World) (A : Option Addr) (c : Nat) (l : List S50) : Prop := l.length ≤ c ∧ Kd.C k50 w A l.length l
theorem Ps.below {w w1 : World} {A : Option Addr} {c : Nat} {l : List S44} (h : Ps w A c l) (hb : Below w.heap.size w w1) : Ps w1 A c l := ⟨h.1, Kd.C_below h.2 hb⟩
theorem Es.below {w w1 : World} {A : Option Addr} {c : Nat} {l : List S50} (h : Es w A c l) (hb : Below w.heap.size w w1) : Es w1 A c l := ⟨h.1, Kd.C_below h.2 hb⟩

theorem few_at (A : Option Addr) (c : Nat) (l : List S44) (w : World) (h : Kd.V k44 44 w w.heap.size (fun _ => True) (.slice A l.length c) l) :
    Calls Try.prog 22 #[.slice A l.length c] w fun e w' => ∃ A' c', e = .returned (.slice A' (fewI l).length c') ∧ Hid (Ps w' A' c' (fewI l) ∧ Below w.heap.size w w') := by
  obtain ⟨k, hk⟩ := few_f l
  refine (barquelaw19_few.calls k (fun _ => True) A c l (fewI l) w h hk).mono ?_
  rintro e w' ⟨v, rfl, hN, hB⟩
  have hV := Kd.N_V (base' := w.heap.size) hN
  obtain ⟨A', c', rfl⟩ := Kd.V_slice hV
  obtain ⟨_, h2, h3⟩ := Kd.V_reads' hV
  exact ⟨A', c', rfl, ⟨h2, h3⟩, hB⟩
theorem merge_at (A : Option Addr) (c : Nat) (L : List S44) (w : World) (h : Ps w A c L) (hl : L.length ≤ 9) (hx : ∀ p ∈ L, p.f2.length ≤ 70) (hT : ∀ p ∈ L, p.f1 ≤ 1152921504606846976) :
    Calls Try.prog 23 #[.slice A L.length c] w fun e w' => ∃ A2 c2 A3 c3, e = .returned (.tuple #[.int .i64 (out L (flF 0 L) (tpF 0 L)).1, .int .i64 (out L (flF 0 L) (tpF 0 L)).2.1, .slice A2 (out L (flF 0 L) (tpF 0 L)).2.2.1.length c2, .slice A3 (out L (flF 0 L) (tpF 0 L)).2.2.2.length c3]) ∧
      Hid (Es w' A2 c2 (out L (flF 0 L) (tpF 0 L)).2.2.1 ∧ Es w' A3 c3 (out L (flF 0 L) (tpF 0 L)).2.2.2 ∧ Below w.heap.size w w') := by
  obtain ⟨k, hk⟩ := merge_f L (by omega) (fun p hp => by have := hx p hp; omega) hT
  refine (plan_Merge.calls k A c L _ _ _ _ w h.2 h.1 hk).mono ?_
  rintro e w' ⟨v2, v3, rfl, h2, h3, hB⟩
  obtain ⟨A2, c2, rfl, l2, g2⟩ := Kd.R_reads h2
  obtain ⟨A3, c3, rfl, l3, g3⟩ := Kd.R_reads h3
  exact ⟨A2, c2, A3, c3, rfl, ⟨l2, g2⟩, ⟨l3, g3⟩, hB⟩
theorem merged_at (A : Option Addr) (c : Nat) (L : List S44) (w : World) (h : Ps w A c L) (hl : L.length ≤ 9) (hx : ∀ p ∈ L, p.f2.length ≤ 70) (hT : ∀ p ∈ L, p.f1 ≤ 1152921504606846976) :
    Calls Try.prog 24 #[.slice A L.length c] w fun e w' => ∃ A2 c2 A3 c3, e = .returned (.tuple #[.int .i64 (out L (flF 0 L) (tpF 0 L)).1, .int .i64 (out L (flF 0 L) (tpF 0 L)).2.1, .slice A2 (out L (flF 0 L) (tpF 0 L)).2.2.1.length c2, .slice A3 (out L (flF 0 L) (tpF 0 L)).2.2.2.length c3]) ∧
      Hid (Es w' A2 c2 (out L (flF 0 L) (tpF 0 L)).2.2.1 ∧ Es w' A3 c3 (out L (flF 0 L) (tpF 0 L)).2.2.2 ∧ Below w.heap.size w w') := by
  obtain ⟨k, hk⟩ := merged_f L (by omega) (fun p hp => by have := hx p hp; omega) hT
  refine (barquelaw19_merged.calls k A c L _ _ _ _ w h.2 h.1 hk).mono ?_
  rintro e w' ⟨v2, v3, rfl, h2, h3, hB⟩
  obtain ⟨A2, c2, rfl, l2, g2⟩ := Kd.R_reads h2
  obtain ⟨A3, c3, rfl, l3, g3⟩ := Kd.R_reads h3
  exact ⟨A2, c2, A3, c3, rfl, ⟨l2, g2⟩, ⟨l3, g3⟩, hB⟩
theorem entries_at (A : Option Addr) (c : Nat) (A2 : Option Addr) (c2 : Nat) (L : List S50) (w : World) (h : Es w A c L) (h2 : Es w A2 c2 L) (hl : L.length ≤ 1000000) :
    Calls Try.prog 25 #[.slice A L.length c, .slice A2 L.length c2] w fun e w' => e = .returned (.bool true) ∧ Hid (Below w.heap.size w w') := by
  obtain ⟨k, hk⟩ := entries_f L hl
  refine (barquelaw19_entries.calls k A c L A2 c2 L true w h.2 h.1 h2.2 h2.1 hk).mono ?_
  rintro e w' ⟨he, hd⟩
  exact ⟨he, hd.below⟩
/-- the numbers of the promise at a place -/
theorem Ps.at_ {w : World} {A : Option Addr} {c : Nat} {l : List S44} (h : Ps w A c l) (j : Nat) (hj : j < l.length) :
    ∃ ad, A = some ad ∧ w.cell? (ad.add (j * 3)) = some (.int .i64 l[j].f0) ∧ w.cell? ⟨(ad.add (j * 3)).block, (ad.add (j * 3)).off + 1, none⟩ = some (.int .i64 l[j].f1) := by
  obtain ⟨ad, A2, c2, e, h0, h1, _⟩ := at_T44 h.2 j (by omega) (by omega)
  rw [rd44 l j hj, Int.toNat_natCast] at h0 h1
  exact ⟨ad, e, h0, h1⟩

set_option maxRecDepth 100000 in
set_option maxHeartbeats 2000000 in
theorem merges_law (A : Option Addr) (c : Nat) (l : List S44) (w : World) (h : Kd.V k44 44 w w.heap.size (fun _ => True) (.slice A l.length c) l) :
    Calls Try.prog 10 #[.slice A l.length c] w fun e w' => e = .returned (.bool true) ∧ Below w.heap.size w w' := by
  have hfew := few_at A c l w h
  have hl := few_len l
  have hx : Hid (∀ p ∈ fewI l, p.f2.length ≤ 70) := few_rows l
  clear h
  generalize fewI l = L at *
  go_enter Try.func10, Try.ntmps10
  go_wp2_with (first
    | (go_at_call 22; (with_reducible refine hfew.mono ?_); rintro e w1 ⟨A1, c1, rfl, h1⟩))
  clear hfew
  have bel0 : Hid (Below w1.heap.size w1 w1) := Below.refl _ _
  go_loopw [3] (fun i wr => ∃ j : Nat, j ≤ L.length ∧ i = .int .i64 j ∧ Hid (Below w1.heap.size w1 wr) ∧ Hid (∀ k (hk : k < L.length), k < j → L[k].f1 ≤ 1000)) (fun i _ => L.length - (intOf i).toNat)
  case atStart => exact ⟨0, by omega, rfl, bel0, fun k hk h => absurd h (by omega)⟩
  case round =>
    obtain ⟨j, hj, rfl, bel, hsm⟩ := hrel
    clear bel0
    by_cases hlt : j < L.length
    · obtain ⟨ad, e, d0, d1⟩ := (h1.out.1.below bel.out).at_ j hlt
      subst e
      have h' : (j : Int) < (L.length : Int) := by omega
      have h'' : 0 ≤ (j : Int) := by omega
      have hsm' : Hid (L[j].f1 ≤ 1000 → ∀ k (hk : k < L.length), k < j + 1 → L[k].f1 ≤ 1000) := by
        show _ → _
        intro hh k hk hkj
        rcases Nat.lt_or_ge k j with hl | hl
        · exact hsm.out k hk hl
        · obtain rfl : k = j := by omega
          exact hh
      generalize L[j].f0 = x0 at *
      generalize L[j].f1 = x1 at *
      by_cases c0 : x0 > 1000
      · go_wp2_with (go_at_call 12; (with_reducible refine (awake_calls _).mono ?_); rintro e w6 ⟨rfl, hh⟩)
        go_ret
        exact ⟨rfl, h1.out.2.trans ((bel.out.trans (hh.out.mono bel.out.size)).mono h1.out.2.size)⟩
      · by_cases c1 : x1 > 1000
        · go_wp2_with (go_at_call 12; (with_reducible refine (awake_calls _).mono ?_); rintro e w6 ⟨rfl, hh⟩)
          go_ret
          exact ⟨rfl, h1.out.2.trans ((bel.out.trans (hh.out.mono bel.out.size)).mono h1.out.2.size)⟩
        · go_wp2
          go_roundw
          case rel => exact ⟨j + 1, by omega, by go_num, bel, hsm'.out (by omega)⟩
          case measure => simp [intOf]; omega
    · have hT : ∀ p ∈ L, p.f1 ≤ 1152921504606846976 := by
        intro p hp
        obtain ⟨k, hk, rfl⟩ := List.mem_iff_getElem.1 hp
        have := hsm.out k hk (by omega)
        omega
      have hm1 := fun w' (hb : Hid (Below w1.heap.size w1 w')) => merge_at A1 c1 L w' (h1.out.1.below hb.out) hl hx.out hT
      have hm2 := fun w' (hb : Hid (Below w1.heap.size w1 w')) => merged_at A1 c1 L w' (h1.out.1.below hb.out) hl hx.out hT
      have hc1 : (out L (flF 0 L) (tpF 0 L)).2.2.1.length ≤ 1000000 := Nat.le_trans (chI_len _ _ _) (by omega)
      have hc2 : (out L (flF 0 L) (tpF 0 L)).2.2.2.length ≤ 1000000 := Nat.le_trans (agI_len _ _ _) (by omega)
      have H1 : Hid (Below w.heap.size w w1) := h1.out.2
      clear hT hsm h1 hx
      generalize (out L (flF 0 L) (tpF 0 L)).1 = r1 at *
      generalize (out L (flF 0 L) (tpF 0 L)).2.1 = r2 at *
      generalize (out L (flF 0 L) (tpF 0 L)).2.2.1 = r3 at *
      generalize (out L (flF 0 L) (tpF 0 L)).2.2.2 = r4 at *
      go_wp2_with (first
        | (go_at_call 23; (with_reducible refine (hm1 _ bel).mono ?_); rintro e w2 ⟨A2, c2, A3, c3, rfl, h2⟩; have bel2 : Hid (Below w1.heap.size w1 w2) := bel.out.trans (h2.out.2.2.mono bel.out.size))
        | (go_at_call 24; (with_reducible refine (hm2 _ bel2).mono ?_); rintro e w3 ⟨A4, c4, A5, c5, rfl, h3⟩; have bel3 : Hid (Below w1.heap.size w1 w3) := bel2.out.trans (h3.out.2.2.mono bel2.out.size); have e2 : Hid (Es w3 A2 c2 r3) := h2.out.1.below h3.out.2.2; have e3 : Hid (Es w3 A3 c3 r4) := h2.out.2.1.below h3.out.2.2)
        | (go_at_call 25; (with_reducible refine (entries_at A2 c2 A4 c4 r3 _ e2.out h3.out.1 hc1).mono ?_); rintro e w4 ⟨rfl, h4⟩; have bel4 : Hid (Below w1.heap.size w1 w4) := bel3.out.trans (h4.out.mono bel3.out.size); have e4 : Hid (Es w4 A3 c3 r4) := e3.out.below h4.out; have e5 : Hid (Es w4 A5 c5 r4) := h3.out.2.1.below h4.out)
        | (go_at_call 25; (with_reducible refine (entries_at A3 c3 A5 c5 r4 _ e4.out e5.out hc2).mono ?_); rintro e w5 ⟨rfl, h5⟩; have bel5 : Hid (Below w1.heap.size w1 w5) := bel4.out.trans (h5.out.mono bel4.out.size))
        | (go_at_call 12; (with_reducible refine (awake_calls _).mono ?_); rintro e w6 ⟨rfl, hh⟩))
      go_ret
      exact ⟨rfl, H1.out.trans ((bel5.out.trans (hh.out.mono bel5.out.size)).mono H1.out.size)⟩

instance : Inhabited S50 := ⟨z50⟩
instance : Inhabited S44 := ⟨z44⟩
section
open Go.Proofs.Ytpmbklagjaibgaa.Opens
variable {H : Type} {enc : TypeId × Value → H} {w : World} {base : Nat} {spare : Nat → Bool} {held : Bool}
theorem entry_opens : Opens enc Try.prog w base spare held 50 k50 (fun x => (Lit.int .i64 x.f0).wf = true ∧ (Lit.int .i64 x.f1).wf = true ∧ x.f2.size ≤ maxLen) :=
  opens_iso _ (fun a => ⟨⟨a.1, a.2.1, a.2.2⟩, rfl⟩) (opens_struct3 Try.underlying50 rfl rfl rfl (by kernel_rfl) (by kernel_rfl) (by kernel_rfl) (by kernel_rfl) (opens_int .i64 Try.underlying3) (opens_int .i64 Try.underlying3) (opens_string Try.underlying9))
theorem promise_opens : Opens enc Try.prog w base spare held 44 k44 (fun x => (Lit.int .i64 x.f0).wf = true ∧ (Lit.int .i64 x.f1).wf = true ∧ ∀ y ∈ x.f2, (Lit.int .i64 y.f0).wf = true ∧ (Lit.int .i64 y.f1).wf = true ∧ y.f2.size ≤ maxLen) :=
  opens_iso _ (fun a => ⟨⟨a.1, a.2.1, a.2.2⟩, rfl⟩) (opens_struct3 Try.underlying44 rfl rfl rfl (by kernel_rfl) (by kernel_rfl) (by kernel_rfl) (by kernel_rfl) (opens_int .i64 Try.underlying3) (opens_int .i64 Try.underlying3) (opens_slice Try.underlying42 (by kernel_rfl) entry_opens))
open Go.Proofs.YtpmbklagjaibgaaW.PrintWords.Kd in
theorem promises_open {fuel : Nat} {cs : List Value} {x : DataW H × List MemPlace} (hx : DataW.trod enc Try.prog w base spare held fuel 40 cs = some x) :
    ∃ A c l, cs = [.slice A l.length c] ∧ Kd.V k44 44 w w.heap.size (fun _ => True) (.slice A l.length c) l := by
  obtain ⟨A, c, l, e, h1, h2, _⟩ := row_C Try.underlying40 (by kernel_rfl) promise_opens hx
  have hh : Heap k44 := heap_iso _ (heap_pair (heap_int .i64) (heap_pair (heap_int .i64) (heap_slice 50 (heap_iso _ (heap_pair (heap_int .i64) (heap_pair (heap_int .i64) heap_string))))))
  exact ⟨A, c, l, e, V_mk h1 (fun W' hW => hh.C (fun k hk => hW k trivial hk) h2)⟩
end

end Go.Proofs.Ytpmbklagjaibgaa.PPlanMerges
