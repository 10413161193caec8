/- What a step of the script does, by kinds: copying, bending. -/
import Derived.Test.YtjfohacibijnoaaStep5b
import Derived.Deep.RegionHeld3
namespace Go.Proofs.Ytjfohacibijnoaa.Net
open Go.RowKit Go.Proofs.YtjfohacibijnoaaW.PrintWords

theorem b1_B (W : World) : Below W.heap.size W (W.alloc (.cells #[] 9)).drew := below_drew (below_alloc (Below.refl _ _) _)
theorem b2_B (W : World) (s : ByteArray) : Below W.heap.size W ((W.alloc (.cells #[] 9)).alloc (.cells #[.string s] 9)).drew := below_drew (below_alloc (below_alloc (Below.refl _ _) _) _)
theorem b3_B (W : World) (s : ByteArray) : Below W.heap.size W ((W.alloc (.cells #[.string s] 9)).alloc (.cells #[] 9)).drew := below_drew (below_alloc (below_alloc (Below.refl _ _) _) _)
theorem e1_R (W : World) : Kd.R Kd.string 9 (W.alloc (.cells #[] 9)).drew W.heap.size (fun _ => True) (.slice (some ⟨W.heap.size, 0, none⟩) 0 0) ([] : List ByteArray) := Kd.R_drew (empty_R _ (Nat.le_refl _))
theorem e2_R (W : World) (s : ByteArray) : Kd.R Kd.string 9 ((W.alloc (.cells #[] 9)).alloc (.cells #[.string s] 9)).drew W.heap.size (fun _ => True) (.slice (some ⟨W.heap.size, 0, none⟩) 0 0) ([] : List ByteArray) := Kd.R_drew (Kd.R_alloc (empty_R _ (Nat.le_refl _)) _)
theorem e3_R (W : World) (s : ByteArray) : Kd.R Kd.string 9 ((W.alloc (.cells #[.string s] 9)).alloc (.cells #[] 9)).drew W.heap.size (fun _ => True) (.slice (some ⟨W.heap.size + 1, 0, none⟩) 0 0) ([] : List ByteArray) := by
  have h := Kd.R_drew (empty_R (W.alloc (.cells #[.string s] 9)) (base := W.heap.size) (by simp))
  simpa using h
theorem l2_C (W : World) (s : ByteArray) {W1 : World} (hg : World.grownBy ((W.alloc (.cells #[] 9)).alloc (.cells #[.string s] 9)).drew W1 (Value.slice (some ⟨W.heap.size, 0, none⟩) 0 0).ownBlock) : Kd.C Kd.string W1 (some ⟨W.heap.size + 1, 0, none⟩) [s].length [s] := by
  have h := Kd.C_below (lit_C (W.alloc (.cells #[] 9)) s) (below_drew (Below.refl _ _))
  have h' : Kd.C Kd.string ((W.alloc (.cells #[] 9)).alloc (.cells #[.string s] 9)).drew (some ⟨W.heap.size + 1, 0, none⟩) [s].length [s] := by simpa using h
  exact lit_grown h' hg (by simp [Value.ownBlock])
theorem l3_C (W : World) (s : ByteArray) {W1 : World} (hg : World.grownBy ((W.alloc (.cells #[.string s] 9)).alloc (.cells #[] 9)).drew W1 (Value.slice (some ⟨W.heap.size + 1, 0, none⟩) 0 0).ownBlock) : Kd.C Kd.string W1 (some ⟨W.heap.size, 0, none⟩) [s].length [s] := by
  have h := Kd.C_below (lit_C W s) (below_drew (below_alloc (Below.refl _ _) (.cells #[] 9)))
  exact lit_grown h hg (by simp [Value.ownBlock])
theorem getD_at (L : List ByteArray) (i : Nat) (hi : i < L.length) : L.getD ((i : Int)).toNat ByteArray.empty = L[i] := by rw [Int.toNat_natCast, List.getD_eq_getElem?_getD, List.getElem?_eq_getElem hi]; rfl

set_option maxRecDepth 100000 in
set_option maxHeartbeats 4000000 in
theorem step_copy_in (N M Y : Int) (T : ByteArray) (b c : Nat) (v lv : Value) (L : List ByteArray) (x y : Int) (w : World) (st : Sc w b c v L x y lv) (hN : 0 ≤ N ∧ N < L.length) (hL : L.length < 4096) :
    Calls Try.prog 17 #[.pointer (some ⟨b, 0, none⟩), lv, .agg (opv 3 N M Y T)] w fun e w' => ∃ lv', e = .returned (.tuple #[lv', .bool true]) ∧ Hid (Stp w b c v lv w' lv' (L ++ [L.getD N.toNat ByteArray.empty]) x y) := by
  obtain ⟨i, rfl⟩ := Int.eq_ofNat_of_zero_le hN.1
  have hi : i < L.length := by omega
  have n0 : (i : Int) ≥ 0 := by omega
  have n1 : (i : Int) < (L.length : Int) := by omega
  have n2 : 0 ≤ (i : Int) := by omega
  obtain ⟨A, c0, rfl, hc0, hC⟩ := id st.lst
  have hlen : L.length ≤ 9223372036854775807 := hC.2.1
  have B0 : Below w.heap.size w (w.alloc (.cells (opv 3 i M Y T) 40)) := (Below.refl _ w).alloc (Nat.le_refl _) _
  have O0 : Hid (Opc (w.alloc (.cells (opv 3 i M Y T) 40)) w.heap.size 3 i M Y T) := ⟨Blk.new _ _ _⟩
  have S0 : Hid (Sc (w.alloc (.cells (opv 3 i M Y T) 40)) b c v L x y (.slice A L.length c0)) := st.below B0
  have G0 : Hid (¬ Foot b c v w.heap.size) := fun h => by have := st.at_.foot_lt _ h; omega
  have ST : Hid (Sc w b c v L x y (.slice A L.length c0)) := st
  have BW : Hid (Below w.heap.size w (w.alloc (.cells (opv 3 i M Y T) 40))) := B0
  obtain ⟨ad, rfl, _⟩ := C_str hC i hi
  clear st B0 hC
  go_enter Try.func17, Try.ntmps17
  go_upto_region 1 with (fail)
  change Code.wp _ _ _ _ (w.alloc (.cells (opv 3 i M Y T) 40))
  generalize w.alloc (.cells (opv 3 i M Y T) 40) = W0 at *
  generalize hg : w.heap.size = g at *
  have HG : Hid (w.heap.size = g) := hg
  clear hg
  have BW' : Hid (Below w.heap.size w W0) := by rw [HG.out]; exact BW
  clear BW
  obtain ⟨o0, o1, o2, o3, o4⟩ := O0.out.c
  have lc0 := S0.out.lst.cell i hi
  have htk := copy_at b c v L x y i W0 S0.out.at_ hi (by omega)
  by_cases t0 : (T.size : Int) > 200
  all_goals
    have t2 : (T.size : Int) > 200 → (200 : Int) ≤ (T.size : Int) := fun h => by omega
    try have t3 := t2 t0
    clear t2
    go_upto_region 32 with (first
      | (go_at_call 15; (with_reducible refine htk.mono ?_); rintro e w2 ⟨rfl, d⟩; have D2 : Hid (Did W0 b c v w2 (L ++ [L[i]]) x y) := d; clear d; have l2 : Hid (Lst w2 (.slice (some ad) L.length c0) L) := S0.out.did D2.out; have p2 : Hid (Opc w2 g 3 i M Y T) := O0.out.did G0.out D2.out; obtain ⟨q0, q1, q2, q3, q4⟩ := p2.out.c; have lc2 := l2.out.cell i hi))
    have LS : Hid (∀ W, Below w2.heap.size w2 W → Kd.C Kd.string W (some ad) L.length L) := fun W hb => by
      have hl := (l2.out.same (w' := W) (fun k hk => hb.block k (Nat.lt_of_lt_of_le (S0.out.own k hk).1 (by obtain ⟨_, _, m, _⟩ := D2.out; exact m.size))))
      obtain ⟨A, c, e, _, h2⟩ := hl
      cases e
      exact h2
    have PS : Hid (∀ W, Below w2.heap.size w2 W → W.cell? ⟨g, 1, none⟩ = some (.int .i64 i) ∧ W.cell? (ad.add i) = some (.string L[i])) := fun W hb => ⟨pw_cell_below hb q1, pw_cell_below hb lc2⟩
    have hln : Hid (L.length < 4096) := hL
    have hget := Lib.hid (getD_at L i hi)
    go_region_held3 (fun w' => w'.cell? ⟨g, 1, none⟩ = some (.int .i64 i) ∧ w'.cell? (ad.add i) = some (.string L[i])) (first | go_keep | (exact PS.out _ bel1.out) | (exact PS.out _ (below_alloc bel1.out _)) | (exact PS.out _ bel2.out)) (first
      | (refine Kd.R_append_rows_step Kd.string (Rr := fun x cs => cs = [Value.string x]) (w0 := w2) w2.heap.size ?_ (.tmp 130) (.tmp 131) 22 9 (.string ⟨#[]⟩) 16 ?_ Try.underlying22 info9 ?_ ?_ ?_ (.slice (some ⟨w2.heap.size, 0, none⟩) 0 0) [] L (some ad) L.length c0 (fun _ => True) (fun _ => False) ?_ ?_ ?_ ?_ (fun _ _ h => h) (fun _ h => h.elim) (fun _ _ => trivial) ?_ ?_ ?_ ?_
         · (rfl)
         · (rfl)
         · (rfl)
         · (decide)
         · (decide)
         · (rfl)
         · (rfl)
         · (exact e1_R _)
         · (exact LS.out _ (b1_B _))
         · (exact b1_B _)
         · (exact (b1_B _).size)
         · (have := hln.out; simp; omega)
         intro v1 W1 ho hb hg hat
         rw [List.nil_append] at ho
         have own1 := Lib.hid ho
         have bel1 : Hid (Below w2.heap.size w2 W1) := hb
         have gr1 := Lib.hid hg
         clear ho hb hat hg)
      | (refine Kd.R_append_rows_step Kd.string (Rr := fun x cs => cs = [Value.string x]) (w0 := w2) w2.heap.size ?_ (.tmp 130) (.tmp 131) 22 9 (.string ⟨#[]⟩) 16 ?_ Try.underlying22 info9 ?_ ?_ ?_ (.slice (some ⟨w2.heap.size, 0, none⟩) 0 0) [] L (some ad) L.length c0 (fun _ => True) (fun _ => False) ?_ ?_ ?_ ?_ (fun _ _ h => h) (fun _ h => h.elim) (fun _ _ => trivial) ?_ ?_ ?_ ?_
         · (rfl)
         · (rfl)
         · (rfl)
         · (decide)
         · (decide)
         · (rfl)
         · (rfl)
         · (exact e2_R _ _)
         · (exact LS.out _ (b2_B _ _))
         · (exact b2_B _ _)
         · (exact (b2_B _ _).size)
         · (have := hln.out; simp; omega)
         intro v1 W1 ho hb hg hat
         rw [List.nil_append] at ho
         have own1 := Lib.hid ho
         have bel1 : Hid (Below w2.heap.size w2 W1) := hb
         have gr1 := Lib.hid hg
         clear ho hb hat hg)
      | (refine Kd.R_append_rows_step Kd.string (Rr := fun x cs => cs = [Value.string x]) (w0 := w2) w2.heap.size ?_ (.tmp 130) (.tmp 131) 22 9 (.string ⟨#[]⟩) 16 ?_ Try.underlying22 info9 ?_ ?_ ?_ (.slice (some ⟨w2.heap.size + 1, 0, none⟩) 0 0) [] L (some ad) L.length c0 (fun _ => True) (fun _ => False) ?_ ?_ ?_ ?_ (fun _ _ h => h) (fun _ h => h.elim) (fun _ _ => trivial) ?_ ?_ ?_ ?_
         · (rfl)
         · (rfl)
         · (rfl)
         · (decide)
         · (decide)
         · (rfl)
         · (rfl)
         · (exact e3_R _ _)
         · (exact LS.out _ (b3_B _ _))
         · (exact b3_B _ _)
         · (exact (b3_B _ _).size)
         · (have := hln.out; simp; omega)
         intro v1 W1 ho hb hg hat
         rw [List.nil_append] at ho
         have own1 := Lib.hid ho
         have bel1 : Hid (Below w2.heap.size w2 W1) := hb
         have gr1 := Lib.hid hg
         clear ho hb hat hg)
      | (refine Kd.R_append_rows_step Kd.string (Rr := fun x cs => cs = [Value.string x]) (w0 := w2) w2.heap.size ?_ (.tmp 132) (.tmp 138) 22 9 (.string ⟨#[]⟩) 16 ?_ Try.underlying22 info9 ?_ ?_ ?_ v1 L [L[i]] (some ⟨W1.heap.size, 0, none⟩) 1 1 (fun _ => True) (fun _ => False) ?_ ?_ ?_ ?_ (fun _ _ h => h) (fun _ h => h.elim) (fun _ _ => trivial) ?_ ?_ ?_ ?_
         · (rfl)
         · (rfl)
         · (rfl)
         · (decide)
         · (decide)
         · (rfl)
         · (rfl)
         · (exact Kd.R_alloc own1.out _)
         · (exact lit_C _ _)
         · (exact below_alloc bel1.out _)
         · (exact (below_alloc bel1.out _).size)
         · (have := hln.out; simp; omega)
         intro v2 W2 ho hb hg hat
         have own2 := Lib.hid ho
         have bel2 : Hid (Below w2.heap.size w2 W2) := hb
         clear ho hb hat hg)
      | (refine Kd.R_append_rows_step Kd.string (Rr := fun x cs => cs = [Value.string x]) (w0 := w2) w2.heap.size ?_ (.tmp 132) (.tmp 138) 22 9 (.string ⟨#[]⟩) 16 ?_ Try.underlying22 info9 ?_ ?_ ?_ v1 L [L[i]] (some ⟨w2.heap.size + 1, 0, none⟩) 1 1 (fun _ => True) (fun _ => False) ?_ ?_ ?_ ?_ (fun _ _ h => h) (fun _ h => h.elim) (fun _ _ => trivial) ?_ ?_ ?_ ?_
         · (rfl)
         · (rfl)
         · (rfl)
         · (decide)
         · (decide)
         · (rfl)
         · (rfl)
         · (exact own1.out)
         · (exact l2_C _ _ gr1.out)
         · (exact bel1.out)
         · (exact (bel1.out).size)
         · (have := hln.out; simp; omega)
         intro v2 W2 ho hb hg hat
         have own2 := Lib.hid ho
         have bel2 : Hid (Below w2.heap.size w2 W2) := hb
         clear ho hb hat hg)
      | (refine Kd.R_append_rows_step Kd.string (Rr := fun x cs => cs = [Value.string x]) (w0 := w2) w2.heap.size ?_ (.tmp 132) (.tmp 138) 22 9 (.string ⟨#[]⟩) 16 ?_ Try.underlying22 info9 ?_ ?_ ?_ v1 L [L[i]] (some ⟨w2.heap.size, 0, none⟩) 1 1 (fun _ => True) (fun _ => False) ?_ ?_ ?_ ?_ (fun _ _ h => h) (fun _ h => h.elim) (fun _ _ => trivial) ?_ ?_ ?_ ?_
         · (rfl)
         · (rfl)
         · (rfl)
         · (decide)
         · (decide)
         · (rfl)
         · (rfl)
         · (exact own1.out)
         · (exact l3_C _ _ gr1.out)
         · (exact bel1.out)
         · (exact (bel1.out).size)
         · (have := hln.out; simp; omega)
         intro v2 W2 ho hb hg hat
         have own2 := Lib.hid ho
         have bel2 : Hid (Below w2.heap.size w2 W2) := hb
         clear ho hb hat hg)
      | fail)
    all_goals go_wp2
    all_goals go_ret2
    all_goals exact ⟨_, rfl, by rw [hget.out]; exact stp_new ST.out BW'.out D2.out bel2.out (Lst.of_R own2.out).1 (Lst.of_R own2.out).2⟩

end Go.Proofs.Ytjfohacibijnoaa.Net
