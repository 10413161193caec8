/- The law of promises: whom a coordinator asks, and when it leads. -/
import Derived.Test.YtcbecbalhnomcaaGreatDoorCoRun
import Derived.Deep.OwnRows
namespace Go.Proofs.YtcbecbalhnomcaaGreatDoor.Co
open Go.RowKit Go.ChangeShapes Go.WideShapes Go.Proofs.YtcbecbalhnomcaaGreatDoorW.PrintWords Go.Proofs.YtcbecbalhnomcaaGreatDoor.Opens

/-- a list of numbers that came in -/
structure Ns (w : World) (A : Option Addr) (cap : Nat) (l : List Int) : Prop where
  le : l.length ≤ cap
  row : Kd.C (Kd.int .i64) w A l.length l
  wf : ∀ a ∈ l, (Lit.int .i64 a).wf = true
theorem Ns.at_ {w : World} {A : Option Addr} {cap : Nat} {l : List Int} (h : Ns w A cap l) (i : Nat) (hi : i < l.length) : ∃ x, A = some x ∧ w.cell? (x.add i) = some (.int .i64 (l.getD i 0)) := by
  obtain ⟨ad, e, hc⟩ := h.row.2.2 (by omega)
  obtain ⟨c, h1, h2, h3⟩ := hc i l[i] (List.getElem?_eq_getElem hi)
  obtain rfl : c = [.int .i64 l[i]] := h2
  refine ⟨ad, e, ?_⟩
  have := h3 0 _ rfl
  rw [show i * (Kd.int .i64).sz + 0 = i from by show i * 1 + 0 = i; omega] at this
  rw [List.getD_eq_getElem?_getD, List.getElem?_eq_getElem hi]
  exact this
theorem Ns.below {w w' : World} {A : Option Addr} {cap : Nat} {l : List Int} (h : Ns w A cap l) (hb : Below w.heap.size w w') : Ns w' A cap l := ⟨h.le, Kd.C_below h.row hb, h.wf⟩
section
variable {H : Type} {enc : TypeId × Value → H} {w : World} {base : Nat} {spare : Nat → Bool} {held : Bool}
theorem ints_open {fuel : Nat} {cs : List Value} {x : DataW H × List MemPlace} (hx : DataW.trod enc Tryz.prog w base spare held fuel 66 cs = some x) :
    ∃ A c l, cs = [.slice A l.length c] ∧ Ns w A c l := by
  obtain ⟨A, c, l, e, h1, h2, h3⟩ := row_C Tryz.underlying66 (by kernel_rfl) (opens_int .i64 Tryz.underlying3) hx
  exact ⟨A, c, l, e, h1, h2, h3⟩
end
theorem run_tick (w0 w : World) (p b t bk hb n : Nat) (id bal : Int) (S T : Nat → Bool) (h : Run w0 w p b t bk hb n id bal S T) (hw : wonB n S = false) (hn : 0 < n) :
    Calls Tryz.prog 21 #[.pointer (some ⟨b, 0, none⟩)] w fun e w' => ∃ v, e = .returned v ∧ Hid (Ms w' w.heap.size v (asked id bal S n) ∧ Run w0 w' p b t bk hb n id bal S T) := by
  obtain ⟨s, c1, c2, c3, c4, c5, c6⟩ := h.cd
  obtain ⟨a1, a2, _⟩ := c6 hw
  rw [hw] at c5
  refine (tick_prep b t n S s w c1 a1 h.tal c2 (by omega) c5 a2).mono ?_
  rintro e w' ⟨v, rfl, hh⟩
  rw [c3, c4] at hh
  exact ⟨v, rfl, hh.out.1, h.bel hh.out.2⟩
theorem run_leads (w0 w : World) (p b t bk hb n : Nat) (id bal : Int) (S T : Nat → Bool) (h : Run w0 w p b t bk hb n id bal S T) (hn : 0 < n) :
    Calls Tryz.prog 22 #[.pointer (some ⟨b, 0, none⟩)] w fun e w' => e = .returned (.bool (wonB n S)) ∧ w = w' := by
  obtain ⟨s, c1, c2, c3, c4, c5, c6⟩ := h.cd
  have := leads_at b s w c1 (by omega)
  rw [c5] at this
  cases hq : wonB n S <;> rw [hq] at this <;> exact this
theorem run_ballot (w0 w : World) (p b t bk hb n : Nat) (id bal : Int) (S T : Nat → Bool) (h : Run w0 w p b t bk hb n id bal S T) (hn : 0 < n) :
    Calls Tryz.prog 18 #[.pointer (some ⟨b, 0, none⟩)] w fun e w' => e = .returned (.int .i64 bal) ∧ w = w' := by
  obtain ⟨s, c1, c2, c3, c4, c5, c6⟩ := h.cd
  have := ballot_at b s w c1 (by omega)
  rw [c4] at this
  exact this
theorem made_false (m : Nat) : ∀ i, i < m → (madeCells #[Value.bool false] m)[i]? = some (.bool false) := by
  intro i hi
  rw [← Array.getElem?_toList, toList_madeCells_one, List.getElem?_replicate, if_pos hi]
theorem won_iff (n : Nat) (S : Nat → Bool) (hn : 0 < n) : wonB n S = decide (2 * cnt n S 9 > n) := by
  unfold wonB
  rw [decide_eq_true hn, Bool.true_and, decide_eq_decide]
  omega
theorem run_start (w w1 : World) (n p b t bk mk : Nat) (id bal : Int) (hn : 0 < n) (_h9 : n ≤ 9) (h : Fresh w w1 id n bal p b t bk mk) :
    Run w (w1.alloc (.cells (madeCells #[Value.bool false] n) 4)) p b t bk w1.heap.size n id bal (fun _ => false) (fun _ => false) := by
  have e : wonB n (fun _ => false) = false := by rw [won_iff n _ hn, cnt_none]; simp
  have s1 := h.below.size
  have ht := h.tal
  rw [Int.toNat_natCast] at ht
  refine ⟨h.wd.same (Below.heap_alloc _ _ _ h.wd.lt), ht.same (Below.heap_alloc _ _ _ h.tal.blk.lt), ⟨_, Blk.new _ _ _, made_false n⟩, ⟨_, h.cd.same (Below.heap_alloc _ _ _ h.cd.lt), rfl, rfl, rfl, by rw [e]; rfl, fun _ => ⟨rfl, rfl, [], Rw.nil _ _ _ _ _, by rw [cnt_none]; rfl⟩⟩, h.below.alloc s1 _, h.low.1, h.low.2.1, h.low.2.2.1, s1⟩
theorem asked_n (id bal : Int) (n : Nat) (S : Nat → Bool) (h9 : n ≤ 9) : (asked id bal S n).length + cnt n S 9 = n := by
  have h1 := asked_len id bal n S n (Nat.le_refl _)
  have h2 := cnt_past n S (9 - n)
  rw [show n + (9 - n) = 9 from by omega] at h2
  omega

theorem prepares_bad (id n : Int) (A : Option Addr) (cap : Nat) (l : List Int) (w : World) (h : id < 0 ∨ id ≥ 4 ∨ n < 1 ∨ n > 9) :
    Calls Tryz.prog 8 #[.int .i64 id, .int .i64 n, .slice A l.length cap] w fun e w' => e = .returned (.bool true) ∧ Below w.heap.size w w' := by
  have hb := fresh_bad id n 7 w (by omega)
  clear h
  go_enter Tryz.func8, Tryz.ntmps8
  go_wp2_with (first
    | (go_at_call 12; (with_reducible refine hb.mono ?_); rintro e w1 ⟨rfl, h1⟩)
    | (go_at_call 20; (with_reducible refine (awake_calls _).mono ?_); rintro e w4 ⟨rfl, h4⟩))
  go_ret
  exact ⟨rfl, h1.out.trans (h4.out.mono h1.out.size)⟩

set_option linter.unusedSimpArgs false in
set_option maxRecDepth 100000 in
set_option maxHeartbeats 4000000 in
theorem prepares_ok (id : Int) (n : Nat) (A : Option Addr) (cap : Nat) (l : List Int) (w : World) (hl : Ns w A cap l) (h0 : 0 ≤ id) (h1 : id ≤ 3) (h2 : 1 ≤ n) (h3 : n ≤ 9) :
    Calls Tryz.prog 8 #[.int .i64 id, .int .i64 n, .slice A l.length cap] w fun e w' => e = .returned (.bool true) ∧ Below w.heap.size w w' := by
  have hfr := fresh_ok id n 7 w h0 h1 (by omega) (by omega) (by omega) (by omega)
  have hmk : ∀ W : World, (Instr.makeSlice 67 (.int .i64 (n : Int)) (.int .i64 (n : Int))).run Tryz.prog W = .ok (.slice (some ⟨W.heap.size, 0, none⟩) n n) (W.alloc (.cells (madeCells #[Value.bool false] n) 4)) := fun W =>
    run_make_row' (P := Tryz.prog) 67 4 (.bool false) 1 Tryz.underlying67 (by kernel_rfl) rfl .i64 .i64 n (by omega) (by omega) W
  have hst := fun w1 p b t bk mk h => run_start w w1 n p b t bk mk id (7 * 4 + id) (by omega) h3 h
  generalize (7 * 4 + id : Int) = bal at *
  have R1 : Hid (∀ w', Below w.heap.size w w' → ∀ i, i < l.length → ∃ x, A = some x ∧ w'.cell? (x.add i) = some (.int .i64 (l.getD i 0))) := fun w' h i hi => (hl.below h).at_ i hi
  have hlen : l.length ≤ 9223372036854775807 := hl.row.2.1
  generalize l.length = len at *
  clear hl
  go_enter Tryz.func8, Tryz.ntmps8
  go_upto_region 5 with (first
    | (go_at_call 12; (with_reducible refine hfr.mono ?_); rintro e w1 ⟨p, rfl, hf⟩
       obtain ⟨b, t, bk, mk, f⟩ := hf.out
       have st : Hid (Run _ _ p b t bk _ n id bal _ _) := hst w1 p b t bk mk f
       clear hf f))
  go_upto_region 7 with (fail)
  generalize hg : w1.heap.size = hb at *
  clear hg hmk hst hfr
  generalize w1.alloc (Obj.cells (madeCells #[Value.bool false] n) 4) = W1 at *
  have hn0 : Hid (0 < n) := by show 0 < n; omega
  have hw0 : Hid (wonB n (fun _ => false) = false) := by show _ = _; rw [won_iff n _ hn0.out, cnt_none]; simp
  go_loopw [9, 10] (fun c i wr => ∃ (j : Nat) (S : Nat → Bool), j ≤ len ∧ j ≤ 60 ∧ c = .int .i64 (cnt n S 9) ∧ i = .int .i64 j ∧ Hid (Run w wr p b t bk hb n id bal S S) ∧ Hid (wonB n S = false)) (fun _ i _ => 60 - (intOf i).toNat)
  case atStart => exact ⟨0, _, by omega, by omega, by rw [cnt_none]; rfl, rfl, st, hw0⟩
  case round =>
    obtain ⟨j, S, hj, hj2, rfl, rfl, st1, hw1⟩ := hrel
    clear st hw0
    by_cases hlt : j < len ∧ j < 60
    · obtain ⟨g1, g2⟩ := hlt
      obtain ⟨ad, rfl, hc⟩ := R1.out wr st1.out.below j g1
      generalize l.getD j 0 = z at *
      have x9 := cnt_le n S 9
      have hx2 : 2 * cnt n S 9 ≤ n := by
        have := hw1.out
        rw [won_iff n S hn0.out] at this
        have := of_decide_eq_false this
        omega
      generalize hx : cnt n S 9 = x at *
      have HX0 : Hid (cnt n S 9 = x) := hx
      clear hx
      by_cases hz : 0 ≤ z ∧ z < n
      · obtain ⟨k, rfl⟩ := Int.eq_ofNat_of_zero_le hz.1
        have hk : k < n := by omega
        have z0 : (k : Int) ≥ 0 := hz.1
        have z1 : (k : Int) < (n : Int) := hz.2
        have z3 : 0 ≤ (k : Int) := by omega
        go_upto_region 11 with (fail)
        have w0c : wr.cell? ⟨p, 0, none⟩ = some (.pointer (some ⟨b, 0, none⟩)) := st1.out.wd.cell 0
        have hha := run_handle w wr.drew p b t bk hb n id bal S S (st1.out.bel (Below.refl _ _).drew) hw1.out k hk
        unfold mcells Mg.bare at hha
        simp only at hha
        refine wp_region_still_tail 12 (by kernel_rfl) (by kernel_rfl) ?_
        simp only [List.take_succ_cons, List.take_zero, List.drop_succ_cons, List.drop_zero]
        repeat still_step
        still_call ((run_ballot w _ p b t bk hb n id bal S S (st1.out.bel (Below.refl _ _).drew) hn0.out).mono (fun e w' h => ⟨h.1, h.2.symm⟩))
        repeat still_step
        refine wpStill_nil ?_
        change wpList _ _ _ _ _ wr.drew
        go_upto_region 12 with (go_at_call 17; (with_reducible refine hha.mono ?_); rintro e w2 ⟨rfl, st2⟩)
        clear hha w0c hc
        have y5 : w2.cell? ⟨hb, k, none⟩ = some (.bool (S k)) := by
          obtain ⟨cs, hcs, hT⟩ := st2.out.has
          rw [hcs.cell, hT k hk]
        by_cases hSk : S k = true
        · rw [hSk] at y5
          have st5 : Hid (Run w w2 p b t bk hb n id bal S S) := by
            have := st2.out
            rw [plus_had S k hSk] at this
            exact this
          go_upto_region 15 with (fail)
          clear y5
          have hw5 := hw1
          obtain ⟨x5, hx5, hxe⟩ : ∃ x5, cnt n S 9 = x5 ∧ x5 = x := ⟨x, HX0.out, rfl⟩
          subst hxe
          have hx2' : 2 * cnt n (S) 9 ≤ n := by
            have := hw5.out
            rw [won_iff n _ hn0.out] at this
            have := of_decide_eq_false this
            omega
          have hal := asked_n id bal n (S) h3
          have HX : Hid (cnt n (S) 9 = x5) := hx5
          rw [hx5] at hx2' hal
          clear hx5
          have w0c : w2.cell? ⟨p, 0, none⟩ = some (.pointer (some ⟨b, 0, none⟩)) := st5.out.wd.cell 0
          have hld := run_leads w w2 p b t bk hb n id bal (S) (S) st5.out hn0.out
          rw [hw5.out] at hld
          have htk := run_tick w w2 p b t bk hb n id bal (S) (S) st5.out hw5.out hn0.out
          have i1 : wrap64 (2 * (x5 : Int)) = 2 * (x5 : Int) := w64 (by omega) (by omega)
          have q1 : ¬ 2 * (x5 : Int) > (n : Int) := by omega
          have HL : Hid (0 < (asked id bal (S) n).length) := by show 0 < _; omega
          have hgt := fun q hq => asked_get id bal (S) n q hq
          generalize hms : asked id bal (S) n = ms at *
          have i2 : wrap64 ((n : Int) - (x5 : Int)) = (ms.length : Int) := by rw [w64 (by omega) (by omega)]; omega
          clear hms
          go_upto_region 20 with (first
            | (go_at_call 22; (with_reducible refine hld.mono ?_); rintro e w' ⟨rfl, rfl⟩)
            | (go_at_call 21; (with_reducible refine htk.mono ?_); rintro e w6 ⟨v6, rfl, h6⟩
               obtain ⟨g6, c6, rfl, -, -, hcell⟩ := Ms.cell h6.out.1 HL.out
               have st6 : Hid (Run w w6 p b t bk hb n id bal (S) (S)) := h6.out.2
               clear h6))
          clear htk hld w0c
          have hcl : Hid (∀ q (hq : q < ms.length) k, k < 14 → w6.cell? ⟨g6, q * 14 + k, none⟩ = (mcells ms[q])[k]?) := hcell
          clear hcell
          have hgt' : Hid (∀ (q : Nat) (hq : q < ms.length), ∃ y, y < n ∧ ms[q] = Mg.bare 1 id y bal ∧ S y = false) := hgt
          clear hgt
          go_upto_region 23 with (fail)
          go_loopw [13] (fun kk wq => ∃ q : Nat, q ≤ ms.length ∧ kk = .int .i64 q ∧ wq = w6) (fun kk _ => ms.length - (intOf kk).toNat)
          case atStart => exact ⟨0, by omega, rfl, rfl⟩
          case round =>
            obtain ⟨q, hq, rfl, rfl⟩ := hrel
            by_cases hlq : q < ms.length
            · obtain ⟨y, hy, hm, hSy⟩ := hgt'.out q hlq
              have k0 := hcl.out q hlq 0 (by decide)
              have k2 := hcl.out q hlq 2 (by decide)
              rw [hm] at k0 k2
              have k0' : wr.cell? ⟨g6, q * 14, none⟩ = some (.int .i64 1) := k0
              have k2' : wr.cell? ⟨g6, q * 14 + 2, none⟩ = some (.int .i64 y) := k2
              clear k0 k2 hm
              have y1 : ¬ (y : Int) < 0 := by omega
              have y2 : ¬ (y : Int) ≥ (n : Int) := by omega
              have y3 : 0 ≤ (y : Int) := by omega
              have y4 : (y : Int) < (n : Int) := by omega
              have y5 : wr.cell? ⟨hb, y, none⟩ = some (.bool false) := by
                obtain ⟨cs, hcs, hT⟩ := st6.out.has
                rw [hcs.cell, hT y hy, hSy]
              clear hSy
              go_wp2
              go_roundw
              case rel => exact ⟨q + 1, by omega, by go_num, trivial⟩
              case measure => simp [intOf]; omega
            · obtain rfl : q = ms.length := by omega
              go_wp2
              go_roundw
              case rel => exact ⟨j + 1, (S), by omega, by omega, by rw [HX.out], by go_num, st6, hw5⟩
              case measure => simp [intOf]; omega
        · have hSk' : S k = false := by simpa using hSk
          rw [hSk'] at y5
          have y6 : w2.frozen? ⟨hb, k, none⟩ = false := by
            obtain ⟨cs, hcs, hT⟩ := st2.out.has
            exact hcs.free k
          have hcn : Hid (cnt n (plus S k) 9 = x + 1) := by show _ = _; rw [cnt_new n S k hk hSk', if_pos (by omega), HX0.out]
          go_upto_region 15 with (fail)
          have st5 : Hid (Run w (w2.setCell ⟨hb, k, none⟩ (.bool true)) p b t bk hb n id bal (plus S k) (plus S k)) := st2.out.store k
          clear y5 y6
          generalize w2.setCell ⟨hb, k, none⟩ (.bool true) = W5 at *
          obtain ⟨x5, hx5, hxe⟩ : ∃ x5 : Nat, cnt n (plus S k) 9 = x5 ∧ (x : Int) + 1 = (x5 : Int) := ⟨x + 1, hcn.out, by simp⟩
          rw [hxe]
          have hxl : x5 ≤ 9 := by have := hx5 ▸ cnt_le n (plus S k) 9; omega
          obtain ⟨wn, hwn⟩ : ∃ wn, wonB n (plus S k) = wn := ⟨_, rfl⟩
          cases wn
          · have hw5 : Hid (wonB n (plus S k) = false) := hwn
            clear hwn
            have hx2' : 2 * cnt n (plus S k) 9 ≤ n := by
              have := hw5.out
              rw [won_iff n _ hn0.out] at this
              have := of_decide_eq_false this
              omega
            have hal := asked_n id bal n (plus S k) h3
            have HX : Hid (cnt n (plus S k) 9 = x5) := hx5
            rw [hx5] at hx2' hal
            clear hx5
            have w0c : W5.cell? ⟨p, 0, none⟩ = some (.pointer (some ⟨b, 0, none⟩)) := st5.out.wd.cell 0
            have hld := run_leads w W5 p b t bk hb n id bal (plus S k) (plus S k) st5.out hn0.out
            rw [hw5.out] at hld
            have htk := run_tick w W5 p b t bk hb n id bal (plus S k) (plus S k) st5.out hw5.out hn0.out
            have i1 : wrap64 (2 * (x5 : Int)) = 2 * (x5 : Int) := w64 (by omega) (by omega)
            have q1 : ¬ 2 * (x5 : Int) > (n : Int) := by omega
            have HL : Hid (0 < (asked id bal (plus S k) n).length) := by show 0 < _; omega
            have hgt := fun q hq => asked_get id bal (plus S k) n q hq
            generalize hms : asked id bal (plus S k) n = ms at *
            have i2 : wrap64 ((n : Int) - (x5 : Int)) = (ms.length : Int) := by rw [w64 (by omega) (by omega)]; omega
            clear hms
            go_upto_region 20 with (first
              | (go_at_call 22; (with_reducible refine hld.mono ?_); rintro e w' ⟨rfl, rfl⟩)
              | (go_at_call 21; (with_reducible refine htk.mono ?_); rintro e w6 ⟨v6, rfl, h6⟩
                 obtain ⟨g6, c6, rfl, -, -, hcell⟩ := Ms.cell h6.out.1 HL.out
                 have st6 : Hid (Run w w6 p b t bk hb n id bal (plus S k) (plus S k)) := h6.out.2
                 clear h6))
            clear htk hld w0c
            have hcl : Hid (∀ q (hq : q < ms.length) k, k < 14 → w6.cell? ⟨g6, q * 14 + k, none⟩ = (mcells ms[q])[k]?) := hcell
            clear hcell
            have hgt' : Hid (∀ (q : Nat) (hq : q < ms.length), ∃ y, y < n ∧ ms[q] = Mg.bare 1 id y bal ∧ (plus S k) y = false) := hgt
            clear hgt
            go_upto_region 23 with (fail)
            go_loopw [13] (fun kk wq => ∃ q : Nat, q ≤ ms.length ∧ kk = .int .i64 q ∧ wq = w6) (fun kk _ => ms.length - (intOf kk).toNat)
            case atStart => exact ⟨0, by omega, rfl, rfl⟩
            case round =>
              obtain ⟨q, hq, rfl, rfl⟩ := hrel
              by_cases hlq : q < ms.length
              · obtain ⟨y, hy, hm, hSy⟩ := hgt'.out q hlq
                have k0 := hcl.out q hlq 0 (by decide)
                have k2 := hcl.out q hlq 2 (by decide)
                rw [hm] at k0 k2
                have k0' : wr.cell? ⟨g6, q * 14, none⟩ = some (.int .i64 1) := k0
                have k2' : wr.cell? ⟨g6, q * 14 + 2, none⟩ = some (.int .i64 y) := k2
                clear k0 k2 hm
                have y1 : ¬ (y : Int) < 0 := by omega
                have y2 : ¬ (y : Int) ≥ (n : Int) := by omega
                have y3 : 0 ≤ (y : Int) := by omega
                have y4 : (y : Int) < (n : Int) := by omega
                have y5 : wr.cell? ⟨hb, y, none⟩ = some (.bool false) := by
                  obtain ⟨cs, hcs, hT⟩ := st6.out.has
                  rw [hcs.cell, hT y hy, hSy]
                clear hSy
                go_wp2
                go_roundw
                case rel => exact ⟨q + 1, by omega, by go_num, trivial⟩
                case measure => simp [intOf]; omega
              · obtain rfl : q = ms.length := by omega
                go_wp2
                go_roundw
                case rel => exact ⟨j + 1, (plus S k), by omega, by omega, by rw [HX.out], by go_num, st6, hw5⟩
                case measure => simp [intOf]; omega
          · have w0c : W5.cell? ⟨p, 0, none⟩ = some (.pointer (some ⟨b, 0, none⟩)) := st5.out.wd.cell 0
            have hld := run_leads w W5 p b t bk hb n id bal (plus S k) (plus S k) st5.out hn0.out
            rw [hwn] at hld
            rw [won_iff n _ hn0.out] at hwn
            have := of_decide_eq_true hwn
            have i1 : wrap64 (2 * (x5 : Int)) = 2 * (x5 : Int) := w64 (by omega) (by omega)
            have q1 : 2 * (x5 : Int) > (n : Int) := by omega
            clear hwn this hxe
            go_wp2_with (first
              | (go_at_call 22; (with_reducible refine hld.mono ?_); rintro e w' ⟨rfl, rfl⟩)
              | (go_at_call 20; (with_reducible refine (awake_calls _).mono ?_); rintro e w4 ⟨rfl, h4⟩))
            go_ret
            exact ⟨rfl, st5.out.below.trans (h4.out.mono st5.out.below.size)⟩
      · have st5 : Hid (Run w wr p b t bk hb n id bal S S) := st1
        have hw5 := hw1
        by_cases hz0 : z ≥ 0
        · have hz1 : ¬ z < (n : Int) := by omega
          go_upto_region 15 with (fail)
          clear hc
          obtain ⟨x5, hx5, hxe⟩ : ∃ x5, cnt n S 9 = x5 ∧ x5 = x := ⟨x, HX0.out, rfl⟩
          subst hxe
          have hx2' : 2 * cnt n (S) 9 ≤ n := by
            have := hw5.out
            rw [won_iff n _ hn0.out] at this
            have := of_decide_eq_false this
            omega
          have hal := asked_n id bal n (S) h3
          have HX : Hid (cnt n (S) 9 = x5) := hx5
          rw [hx5] at hx2' hal
          clear hx5
          have w0c : wr.cell? ⟨p, 0, none⟩ = some (.pointer (some ⟨b, 0, none⟩)) := st5.out.wd.cell 0
          have hld := run_leads w wr p b t bk hb n id bal (S) (S) st5.out hn0.out
          rw [hw5.out] at hld
          have htk := run_tick w wr p b t bk hb n id bal (S) (S) st5.out hw5.out hn0.out
          have i1 : wrap64 (2 * (x5 : Int)) = 2 * (x5 : Int) := w64 (by omega) (by omega)
          have q1 : ¬ 2 * (x5 : Int) > (n : Int) := by omega
          have HL : Hid (0 < (asked id bal (S) n).length) := by show 0 < _; omega
          have hgt := fun q hq => asked_get id bal (S) n q hq
          generalize hms : asked id bal (S) n = ms at *
          have i2 : wrap64 ((n : Int) - (x5 : Int)) = (ms.length : Int) := by rw [w64 (by omega) (by omega)]; omega
          clear hms
          go_upto_region 20 with (first
            | (go_at_call 22; (with_reducible refine hld.mono ?_); rintro e w' ⟨rfl, rfl⟩)
            | (go_at_call 21; (with_reducible refine htk.mono ?_); rintro e w6 ⟨v6, rfl, h6⟩
               obtain ⟨g6, c6, rfl, -, -, hcell⟩ := Ms.cell h6.out.1 HL.out
               have st6 : Hid (Run w w6 p b t bk hb n id bal (S) (S)) := h6.out.2
               clear h6))
          clear htk hld w0c
          have hcl : Hid (∀ q (hq : q < ms.length) k, k < 14 → w6.cell? ⟨g6, q * 14 + k, none⟩ = (mcells ms[q])[k]?) := hcell
          clear hcell
          have hgt' : Hid (∀ (q : Nat) (hq : q < ms.length), ∃ y, y < n ∧ ms[q] = Mg.bare 1 id y bal ∧ S y = false) := hgt
          clear hgt
          go_upto_region 23 with (fail)
          go_loopw [13] (fun kk wq => ∃ q : Nat, q ≤ ms.length ∧ kk = .int .i64 q ∧ wq = w6) (fun kk _ => ms.length - (intOf kk).toNat)
          case atStart => exact ⟨0, by omega, rfl, rfl⟩
          case round =>
            obtain ⟨q, hq, rfl, rfl⟩ := hrel
            by_cases hlq : q < ms.length
            · obtain ⟨y, hy, hm, hSy⟩ := hgt'.out q hlq
              have k0 := hcl.out q hlq 0 (by decide)
              have k2 := hcl.out q hlq 2 (by decide)
              rw [hm] at k0 k2
              have k0' : wr.cell? ⟨g6, q * 14, none⟩ = some (.int .i64 1) := k0
              have k2' : wr.cell? ⟨g6, q * 14 + 2, none⟩ = some (.int .i64 y) := k2
              clear k0 k2 hm
              have y1 : ¬ (y : Int) < 0 := by omega
              have y2 : ¬ (y : Int) ≥ (n : Int) := by omega
              have y3 : 0 ≤ (y : Int) := by omega
              have y4 : (y : Int) < (n : Int) := by omega
              have y5 : wr.cell? ⟨hb, y, none⟩ = some (.bool false) := by
                obtain ⟨cs, hcs, hT⟩ := st6.out.has
                rw [hcs.cell, hT y hy, hSy]
              clear hSy
              go_wp2
              go_roundw
              case rel => exact ⟨q + 1, by omega, by go_num, trivial⟩
              case measure => simp [intOf]; omega
            · obtain rfl : q = ms.length := by omega
              go_wp2
              go_roundw
              case rel => exact ⟨j + 1, (S), by omega, by omega, by rw [HX.out], by go_num, st6, hw5⟩
              case measure => simp [intOf]; omega
        · go_upto_region 15 with (fail)
          clear hc
          obtain ⟨x5, hx5, hxe⟩ : ∃ x5, cnt n S 9 = x5 ∧ x5 = x := ⟨x, HX0.out, rfl⟩
          subst hxe
          have hx2' : 2 * cnt n (S) 9 ≤ n := by
            have := hw5.out
            rw [won_iff n _ hn0.out] at this
            have := of_decide_eq_false this
            omega
          have hal := asked_n id bal n (S) h3
          have HX : Hid (cnt n (S) 9 = x5) := hx5
          rw [hx5] at hx2' hal
          clear hx5
          have w0c : wr.cell? ⟨p, 0, none⟩ = some (.pointer (some ⟨b, 0, none⟩)) := st5.out.wd.cell 0
          have hld := run_leads w wr p b t bk hb n id bal (S) (S) st5.out hn0.out
          rw [hw5.out] at hld
          have htk := run_tick w wr p b t bk hb n id bal (S) (S) st5.out hw5.out hn0.out
          have i1 : wrap64 (2 * (x5 : Int)) = 2 * (x5 : Int) := w64 (by omega) (by omega)
          have q1 : ¬ 2 * (x5 : Int) > (n : Int) := by omega
          have HL : Hid (0 < (asked id bal (S) n).length) := by show 0 < _; omega
          have hgt := fun q hq => asked_get id bal (S) n q hq
          generalize hms : asked id bal (S) n = ms at *
          have i2 : wrap64 ((n : Int) - (x5 : Int)) = (ms.length : Int) := by rw [w64 (by omega) (by omega)]; omega
          clear hms
          go_upto_region 20 with (first
            | (go_at_call 22; (with_reducible refine hld.mono ?_); rintro e w' ⟨rfl, rfl⟩)
            | (go_at_call 21; (with_reducible refine htk.mono ?_); rintro e w6 ⟨v6, rfl, h6⟩
               obtain ⟨g6, c6, rfl, -, -, hcell⟩ := Ms.cell h6.out.1 HL.out
               have st6 : Hid (Run w w6 p b t bk hb n id bal (S) (S)) := h6.out.2
               clear h6))
          clear htk hld w0c
          have hcl : Hid (∀ q (hq : q < ms.length) k, k < 14 → w6.cell? ⟨g6, q * 14 + k, none⟩ = (mcells ms[q])[k]?) := hcell
          clear hcell
          have hgt' : Hid (∀ (q : Nat) (hq : q < ms.length), ∃ y, y < n ∧ ms[q] = Mg.bare 1 id y bal ∧ S y = false) := hgt
          clear hgt
          go_upto_region 23 with (fail)
          go_loopw [13] (fun kk wq => ∃ q : Nat, q ≤ ms.length ∧ kk = .int .i64 q ∧ wq = w6) (fun kk _ => ms.length - (intOf kk).toNat)
          case atStart => exact ⟨0, by omega, rfl, rfl⟩
          case round =>
            obtain ⟨q, hq, rfl, rfl⟩ := hrel
            by_cases hlq : q < ms.length
            · obtain ⟨y, hy, hm, hSy⟩ := hgt'.out q hlq
              have k0 := hcl.out q hlq 0 (by decide)
              have k2 := hcl.out q hlq 2 (by decide)
              rw [hm] at k0 k2
              have k0' : wr.cell? ⟨g6, q * 14, none⟩ = some (.int .i64 1) := k0
              have k2' : wr.cell? ⟨g6, q * 14 + 2, none⟩ = some (.int .i64 y) := k2
              clear k0 k2 hm
              have y1 : ¬ (y : Int) < 0 := by omega
              have y2 : ¬ (y : Int) ≥ (n : Int) := by omega
              have y3 : 0 ≤ (y : Int) := by omega
              have y4 : (y : Int) < (n : Int) := by omega
              have y5 : wr.cell? ⟨hb, y, none⟩ = some (.bool false) := by
                obtain ⟨cs, hcs, hT⟩ := st6.out.has
                rw [hcs.cell, hT y hy, hSy]
              clear hSy
              go_wp2
              go_roundw
              case rel => exact ⟨q + 1, by omega, by go_num, trivial⟩
              case measure => simp [intOf]; omega
            · obtain rfl : q = ms.length := by omega
              go_wp2
              go_roundw
              case rel => exact ⟨j + 1, (S), by omega, by omega, by rw [HX.out], by go_num, st6, hw5⟩
              case measure => simp [intOf]; omega
    · have st5 := st1
      have hend : ¬ ((j : Int) < (len : Int)) ∨ ((j : Int) < (len : Int) ∧ ¬ (j : Int) < 60) := by omega
      rcases hend with u1 | ⟨u1, u2⟩
      all_goals
        go_wp2_with (go_at_call 20; (with_reducible refine (awake_calls _).mono ?_); rintro e w4 ⟨rfl, h4⟩)
        go_ret
        exact ⟨rfl, st5.out.below.trans (h4.out.mono st5.out.below.size)⟩
theorem prepares_law (id n : Int) (A : Option Addr) (cap : Nat) (l : List Int) (w : World) (_ : (Lit.int .i64 id).wf = true) (_ : (Lit.int .i64 n).wf = true) (hl : Ns w A cap l) :
    Calls Tryz.prog 8 #[.int .i64 id, .int .i64 n, .slice A l.length cap] w fun e w' => e = .returned (.bool true) ∧ Below w.heap.size w w' := by
  by_cases h : id < 0 ∨ id ≥ 4 ∨ n < 1 ∨ n > 9
  · exact prepares_bad id n A cap l w h
  · obtain ⟨m, rfl⟩ := Int.eq_ofNat_of_zero_le (by omega : 0 ≤ n)
    exact prepares_ok id m A cap l w hl (by omega) (by omega) (by omega) (by omega)
end Go.Proofs.YtcbecbalhnomcaaGreatDoor.Co
