/- The law of what is proposed again: its walk. -/
import Derived.Test.YtpmbklagjaibgaaGreatest
import Derived.Test.YtpmbklagjaibgaaPPlanMergesx1
namespace Go.Proofs.Ytpmbklagjaibgaa.PPlanMerges
open Go.RowKit Go.Proofs.YtpmbklagjaibgaaW.PrintWords Go.Proofs.YtpmbklagjaibgaaW.PrintLast Go.Proofs.YtpmbklagjaibgaaW.PrintMore
open Go.Proofs.Ytpmbklagjaibgaa.Plan (awake_calls)
attribute [local go_sem high] eqA50

theorem Es.at_ {w : World} {A : Option Addr} {c : Nat} {l : List S50} (h : Es w A c l) (j : Nat) (hj : j < l.length) :
    ∃ ad, A = some ad ∧ w.cell? (ad.add (j * 3)) = some (.int .i64 l[j].f0) ∧ w.cell? ⟨(ad.add (j * 3)).block, (ad.add (j * 3)).off + 1, none⟩ = some (.int .i64 l[j].f1) ∧ w.cell? ⟨(ad.add (j * 3)).block, (ad.add (j * 3)).off + 2, none⟩ = some (.string l[j].f2) := by
  obtain ⟨ad, e, h0, h1, h2⟩ := at_T50 h.2 j (by omega) (by omega)
  rw [rd50 l j hj, Int.toNat_natCast] at h0 h1 h2
  exact ⟨ad, e, h0, h1, h2⟩
theorem Ps.list {w : World} {A : Option Addr} {c : Nat} {l : List S44} (h : Ps w A c l) (j : Nat) (hj : j < l.length) :
    ∃ ad A2 c2, A = some ad ∧ w.cell? ⟨(ad.add (j * 3)).block, (ad.add (j * 3)).off + 2, none⟩ = some (.slice A2 l[j].f2.length c2) ∧ Es w A2 c2 l[j].f2 := by
  obtain ⟨ad, A2, c2, e, _, _, h2, h3, h4⟩ := at_T44 h.2 j (by omega) (by omega)
  rw [rd44 l j hj] at h2 h3 h4
  rw [Int.toNat_natCast] at h2
  exact ⟨ad, A2, c2, e, h2, h3, h4⟩

set_option maxRecDepth 100000 in
set_option maxHeartbeats 2000000 in
theorem greatest_law (A : Option Addr) (c : Nat) (l : List S44) (w : World) (h : Kd.V k44 44 w w.heap.size (fun _ => True) (.slice A l.length c) l) :
    Calls Try.prog 11 #[.slice A l.length c] w fun e w' => e = .returned (.bool true) ∧ Below w.heap.size w w' := by
  have hfew := few_at A c l w h
  have hl := few_len l
  have hx : Hid (∀ p ∈ fewI l, p.f2.length ≤ 70) := few_rows l
  clear h
  generalize fewI l = L at *
  go_enter Try.func11, Try.ntmps11
  go_wp2_with (first
    | (go_at_call 22; (with_reducible refine hfew.mono ?_); rintro e w1 ⟨A1, c1, rfl, h1⟩))
  clear hfew
  have bel0 : Hid (Below w1.heap.size w1 w1) := Below.refl _ _
  go_loopw [3] (fun i wr => ∃ j : Nat, j ≤ L.length ∧ i = .int .i64 j ∧ Hid (Below w1.heap.size w1 wr) ∧ Hid (∀ k (hk : k < L.length), k < j → L[k].f1 ≤ 1152921504606846976)) (fun i _ => L.length - (intOf i).toNat)
  case atStart => exact ⟨0, by omega, rfl, bel0, fun k hk h => absurd h (by omega)⟩
  case round =>
    obtain ⟨j, hj, rfl, bel, hsm⟩ := hrel
    clear bel0
    by_cases hlt : j < L.length
    · obtain ⟨ad, e, d0, d1⟩ := (h1.out.1.below bel.out).at_ j hlt
      subst e
      have h' : (j : Int) < (L.length : Int) := by omega
      have h'' : 0 ≤ (j : Int) := by omega
      have hsm' : Hid (L[j].f1 ≤ 1152921504606846976 → ∀ k (hk : k < L.length), k < j + 1 → L[k].f1 ≤ 1152921504606846976) := by
        show _ → _
        intro hh k hk hkj
        rcases Nat.lt_or_ge k j with hl | hl
        · exact hsm.out k hk hl
        · obtain rfl : k = j := by omega
          exact hh
      generalize L[j].f0 = x0 at *
      generalize L[j].f1 = x1 at *
      by_cases c1 : x1 > 1152921504606846976
      · go_wp2_with (go_at_call 12; (with_reducible refine (awake_calls _).mono ?_); rintro e w6 ⟨rfl, hh⟩)
        go_ret
        exact ⟨rfl, h1.out.2.trans ((bel.out.trans (hh.out.mono bel.out.size)).mono h1.out.2.size)⟩
      · go_wp2
        go_roundw
        case rel => exact ⟨j + 1, by omega, by go_num, bel, hsm'.out (by omega)⟩
        case measure => simp [intOf]; omega
    · have hT : ∀ p ∈ L, p.f1 ≤ 1152921504606846976 := by
        intro p hp
        obtain ⟨k, hk, rfl⟩ := List.mem_iff_getElem.1 hp
        exact hsm.out k hk (by omega)
      have hm1 := fun w' (hb : Hid (Below w1.heap.size w1 w')) => merge_at A1 c1 L w' (h1.out.1.below hb.out) hl hx.out hT
      have hb := tpF_bound 1152921504606846976 L 0 (by omega) (by omega) hT
      have hc2 : (agI L 16 (tpF 0 L)).length ≤ 16 := agI_len _ _ _
      have hlaw : Hid (∀ i (hi : i < (agI L 16 (tpF 0 L)).length), _) := fun i hi => again_law L (tpF 0 L) i hi
      have H1 : Hid (Below w.heap.size w w1) := h1.out.2
      clear hT hsm
      simp only [out] at hm1
      generalize agI L 16 (tpF 0 L) = ag at *
      generalize tpF 0 L = tp at *
      generalize mn (flF 0 L) tp = fl at *
      generalize chI L (min (tp - fl).toNat 64) fl = ch at *
      go_wp2_with (first
        | (go_at_call 23; (with_reducible refine (hm1 _ bel).mono ?_); rintro e w2 ⟨A2, c2, A3, c3, rfl, h2⟩; have bel2 : Hid (Below w1.heap.size w1 w2) := bel.out.trans (h2.out.2.2.mono bel.out.size)))
      have hP : Hid (∀ w', Below w2.heap.size w2 w' → Ps w' A1 c1 L) := fun w' hb => (h1.out.1.below bel2.out).below hb
      have hE : Hid (∀ w', Below w2.heap.size w2 w' → Es w' A3 c3 ag) := fun w' hb => h2.out.2.1.below hb
      have H2 : Hid (Below w.heap.size w w2 ∧ w.heap.size ≤ w2.heap.size) := ⟨H1.out.trans (bel2.out.mono H1.out.size), Nat.le_trans H1.out.size bel2.out.size⟩
      clear hm1 bel bel2 h2 h1 H1 hx
      have bel0 : Hid (Below w2.heap.size w2 w2) := Below.refl _ _
      go_loopw [8] (fun i wr => ∃ j : Nat, j ≤ ag.length ∧ i = .int .i64 j ∧ Hid (Below w2.heap.size w2 wr)) (fun i _ => ag.length - (intOf i).toNat)
      case atStart => exact ⟨0, by omega, rfl, bel0⟩
      case round =>
        obtain ⟨i, hi, rfl, bel⟩ := hrel
        clear bel0
        by_cases hlt : i < ag.length
        · obtain ⟨ad3, e, d0, d1, d2⟩ := (hE.out wr bel.out).at_ i hlt
          subst e
          have hla := hlaw.out i hlt
          have hE3 : Hid (∀ w', Below w2.heap.size w2 w' → w'.cell? (ad3.add (i * 3)) = some (.int .i64 ag[i].f0) ∧ w'.cell? ⟨(ad3.add (i * 3)).block, (ad3.add (i * 3)).off + 1, none⟩ = some (.int .i64 ag[i].f1) ∧ w'.cell? ⟨(ad3.add (i * 3)).block, (ad3.add (i * 3)).off + 2, none⟩ = some (.string ag[i].f2)) := by
            intro w' hb
            obtain ⟨ad', e, q0, q1, q2⟩ := (hE.out w' hb).at_ i hlt
            cases e
            exact ⟨q0, q1, q2⟩
          generalize ag[i] = x at *
          have h' : (i : Int) < (ag.length : Int) := by omega
          have h'' : 0 ≤ (i : Int) := by omega
          have hw : wrap64 (tp + (i : Int)) = x.f0 := by rw [w64 (by omega) (by omega)]; omega
          have HL : Hid ((∃ p ∈ L, x ∈ p.f2) ∧ ∀ p ∈ L, ∀ y ∈ p.f2, y.f0 = x.f0 → y.f1 ≤ x.f1) := ⟨hla.2.1, hla.2.2⟩
          have hxe : x.f0 = tp + (i : Int) := hla.1
          clear hla
          go_wp2
          clear hw hxe
          go_loopw [9, 10] (fun s j wr => ∃ (v : Bool) (j' : Nat), j' ≤ L.length ∧ s = .bool v ∧ j = .int .i64 j' ∧ Hid (Below w2.heap.size w2 wr) ∧ Hid (v = false → ∀ k (hk : k < L.length), k < j' → x ∉ L[k].f2)) (fun _ j _ => L.length - (intOf j).toNat)
          case atStart => exact ⟨false, 0, by omega, rfl, rfl, bel, fun _ k hk h => absurd h (by omega)⟩
          case round =>
            obtain ⟨v, j, hj, rfl, rfl, bel3, hv⟩ := hrel
            clear bel d0 d1 d2
            by_cases hjl : j < L.length
            · obtain ⟨ad, A5, c5, e, d2, hes⟩ := (hP.out w2 (Below.refl _ _)).list j hjl
              cases e
              have hP3 : Hid (∀ w', Below w2.heap.size w2 w' → w'.cell? ⟨(ad.add (j * 3)).block, (ad.add (j * 3)).off + 2, none⟩ = some (.slice A5 L[j].f2.length c5) ∧ Es w' A5 c5 L[j].f2) := fun w' hb => ⟨pw_cell_below hb d2, hes.below hb⟩
              have hnext : Hid (x ∉ L[j].f2 → (∀ k (hk : k < L.length), k < j → x ∉ L[k].f2) → ∀ k (hk : k < L.length), k < j + 1 → x ∉ L[k].f2) := by
                show _ → _
                intro hh ho k hk hkj
                rcases Nat.lt_or_ge k j with hl | hl
                · exact ho k hk hl
                · obtain rfl : k = j := by omega
                  exact hh
              have hys : Hid (∀ y ∈ L[j].f2, y.f0 = x.f0 → y.f1 ≤ x.f1) := HL.out.2 _ (List.getElem_mem hjl)
              have hyl : L[j].f2.length ≤ 9223372036854775807 := hes.2.2.1
              clear d2 hes
              have j' : (j : Int) < (L.length : Int) := by omega
              have j'' : 0 ≤ (j : Int) := by omega
              generalize L[j].f2 = ys at *
              go_wp2
              go_loopw [9, 11] (fun s k wr => ∃ (v : Bool) (k' : Nat), k' ≤ ys.length ∧ s = .bool v ∧ k = .int .i64 k' ∧ Hid (Below w2.heap.size w2 wr) ∧ Hid (v = false → (∀ k (hk : k < L.length), k < j → x ∉ L[k].f2) ∧ ∀ m (hm : m < ys.length), m < k' → ys[m] ≠ x)) (fun _ k _ => ys.length - (intOf k).toNat)
              case atStart => exact ⟨v, 0, by omega, rfl, rfl, bel3, fun h => ⟨hv.out h, fun m hm h => absurd h (by omega)⟩⟩
              case round =>
                obtain ⟨v, k, hk, rfl, rfl, bel4, hv4⟩ := hrel
                clear bel3
                have hsl := (hP3.out wr bel4.out).1
                by_cases hkl : k < ys.length
                · obtain ⟨ad5, e5, q0, q1, q2⟩ := (hP3.out wr bel4.out).2.at_ k hkl
                  cases e5
                  have k' : (k : Int) < (ys.length : Int) := by omega
                  have k'' : 0 ≤ (k : Int) := by omega
                  go_upto_region 21 with (fail)
                  have hyy : ys[k].f0 = x.f0 → ys[k].f1 ≤ x.f1 := hys.out _ (List.getElem_mem hkl)
                  have hn4 : Hid (ys[k] ≠ x → (∀ m (hm : m < ys.length), m < k → ys[m] ≠ x) → ∀ m (hm : m < ys.length), m < k + 1 → ys[m] ≠ x) := by
                    show _ → _
                    intro hh ho m hm hmk
                    rcases Nat.lt_or_ge m k with hl | hl
                    · exact ho m hm hl
                    · obtain rfl : m = k := by omega
                      exact hh
                  generalize ys[k] = y at *
                  have B5 : Hid (Below w2.heap.size w2 (wr.alloc (.cells #[.int .i64 y.f0, .int .i64 y.f1, .string y.f2] 50))) := bel4.out.alloc bel4.out.size _
                  have hb5 : (wr.alloc (.cells #[.int .i64 y.f0, .int .i64 y.f1, .string y.f2] 50)).heap[wr.heap.size]? = some (.cells #[.int .i64 y.f0, .int .i64 y.f1, .string y.f2] 50 (0, 0)) := by unfold World.alloc; simp
                  have t0 : (wr.alloc (.cells #[.int .i64 y.f0, .int .i64 y.f1, .string y.f2] 50)).cell? ⟨wr.heap.size, 0, none⟩ = some (.int .i64 y.f0) := by simp only [World.cell?, hb5]; rfl
                  have t1 : (wr.alloc (.cells #[.int .i64 y.f0, .int .i64 y.f1, .string y.f2] 50)).cell? ⟨wr.heap.size, 1, none⟩ = some (.int .i64 y.f1) := by simp only [World.cell?, hb5]; rfl
                  have t2 : (wr.alloc (.cells #[.int .i64 y.f0, .int .i64 y.f1, .string y.f2] 50)).cell? ⟨wr.heap.size, 2, none⟩ = some (.string y.f2) := by simp only [World.cell?, hb5]; rfl
                  clear hb5 q0 q1 q2 hsl
                  generalize wr.alloc (.cells #[.int .i64 y.f0, .int .i64 y.f1, .string y.f2] 50) = W5 at *
                  generalize wr.heap.size = g5 at *
                  obtain ⟨z0, z1, z2⟩ := hE3.out W5 B5.out
                  have fin : ∀ q, Hid (Below w2.heap.size w2 (W5.drewN q)) := fun q => B5.out.trans ⟨rfl, rfl, rfl, Nat.le_refl _, fun _ _ => rfl⟩
                  by_cases hyx : y = x
                  · have u0 : (y.f0 == x.f0) = true := by simp [hyx]
                    have u1 : (y.f1 == x.f1) = true := by simp [hyx]
                    have u2 : (y.f2.toList == x.f2.toList) = true := by simp [hyx]
                    have u3 : decide (y.f1 > x.f1) = false := decide_eq_false (by rw [hyx]; omega)
                    clear hyx
                    cases v
                    all_goals
                      go_quiet (fail)
                      go_wp2
                      go_quiet (fail)
                      go_wp2
                      go_roundw
                      case rel => exact ⟨true, k + 1, by omega, rfl, by go_num, fin _, fun h => by cases h⟩
                      case measure => simp [intOf]; omega
                  · by_cases c0 : y.f0 = x.f0
                    · have u0 : (y.f0 == x.f0) = true := by simp [c0]
                      have u3 : decide (y.f1 > x.f1) = false := decide_eq_false (by have := hyy c0; omega)
                      cases v
                      all_goals
                        go_quiet (fail)
                        go_wp2
                        go_quiet (fail)
                        go_wp2
                        go_roundw
                        case rel => exact ⟨_, k + 1, by omega, rfl, by go_num, fin _, fun h => by first | (cases h; done) | exact ⟨(hv4.out (by simp)).1, hn4.out hyx (hv4.out (by simp)).2⟩⟩
                        case measure => simp [intOf]; omega
                    · have u0 : (y.f0 == x.f0) = false := by simp [c0]
                      cases v
                      all_goals
                        go_quiet (fail)
                        go_wp2
                        go_quiet (fail)
                        go_wp2
                        go_roundw
                        case rel => exact ⟨_, k + 1, by omega, rfl, by go_num, fin _, fun h => by first | (cases h; done) | exact ⟨(hv4.out (by simp)).1, hn4.out hyx (hv4.out (by simp)).2⟩⟩
                        case measure => simp [intOf]; omega
                · have k' : ¬ (k : Int) < (ys.length : Int) := by omega
                  go_wp2
                  go_roundw
                  case rel => exact ⟨v, j + 1, by omega, rfl, by go_num, bel4, fun h => hnext.out (fun hm => by
                    obtain ⟨m, hm, e⟩ := List.mem_iff_getElem.1 hm
                    exact (hv4.out h).2 m hm (by omega) e) (hv4.out h).1⟩
                  case measure => simp [intOf]; omega
            · have j' : ¬ (j : Int) < (L.length : Int) := by omega
              cases v
              · obtain ⟨p, hp, hxp⟩ := HL.out.1
                obtain ⟨m, hm, e⟩ := List.mem_iff_getElem.1 hp
                exact absurd hxp (by rw [← e]; exact hv.out rfl m hm (by omega))
              · go_wp2
                go_roundw
                case rel => exact ⟨i + 1, by omega, by go_num, bel3⟩
                case measure => simp [intOf]; omega
        · have h' : ¬ (i : Int) < (ag.length : Int) := by omega
          have h16 : (ag.length : Int) ≤ 16 := by omega
          go_wp2_with (go_at_call 12; (with_reducible refine (awake_calls _).mono ?_); rintro e w6 ⟨rfl, hh⟩)
          go_ret
          exact ⟨rfl, H2.out.1.trans ((bel.out.trans (hh.out.mono bel.out.size)).mono H2.out.2)⟩

end Go.Proofs.Ytpmbklagjaibgaa.PPlanMerges
