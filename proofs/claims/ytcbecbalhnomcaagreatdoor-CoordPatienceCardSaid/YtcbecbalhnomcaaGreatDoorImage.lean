/- A tree's image: whether there is one. -/
import Derived.Test.YtcbecbalhnomcaaGreatDoorNum
import Derived.Test.YtcbecbalhnomcaaGreatDoorCoOpen
namespace Go.Proofs.YtcbecbalhnomcaaGreatDoor.Build
open Go.RowKit Go.Proofs.YtcbecbalhnomcaaGreatDoorW.PrintWords Go.Proofs.YtcbecbalhnomcaaGreatDoor.Co

/-- a builder of one's own that holds so many bytes -/
def Bd (B b k : Nat) (w : World) : Prop := ∃ l : List UInt8, l.length = k ∧ Lib.IsBuilder 157 5 B b (Lib.byteCells l) w
theorem Bd.more {B b k : Nat} {w' : World} (s : ByteArray) (l : List UInt8) (hl : l.length = k) (h : Lib.IsBuilder 157 5 B b (Lib.byteCells l ++ Lib.strCells s) w') : Bd B b (k + s.size) w' := by
  refine ⟨l ++ s.data.toList, by rw [List.length_append, hl]; rfl, ?_⟩
  have e : Lib.byteCells (l ++ s.data.toList) = Lib.byteCells l ++ Lib.strCells s := by simp [Lib.byteCells, Lib.strCells]
  rw [e]
  exact h
theorem Bd.below {B b k : Nat} {w w' : World} (h : Bd B b k w) (hb : Below w.heap.size w w') : Bd B b k w' := by
  obtain ⟨l, hl, hb'⟩ := h
  have key : ∀ p, Lib.BuilderAt 157 5 B b p (Lib.byteCells l) w → Lib.BuilderAt 157 5 B b p (Lib.byteCells l) w' := by
    rintro p ⟨h1, v, h2, h3, h4⟩
    have hlt : b < w.heap.size := (Array.getElem?_eq_some_iff.1 h2).1
    exact ⟨h1, v, by rw [hb.block b hlt]; exact h2, own_move h3 (fun k hk => hb.block k (own_lt h3 k hk)), h4⟩
  exact ⟨l, hl, hb'.imp (key _) (key _)⟩
theorem Bd.lt {B b k : Nat} {w : World} (h : Bd B b k w) : b < w.heap.size := by
  obtain ⟨l, hl, h | h⟩ := h
  · exact h.lt
  · exact h.lt
theorem Bd.new {B : Nat} {w : World} (h : B ≤ w.heap.size) : Bd B w.heap.size 0 (w.alloc (.cells #[.pointer none, .slice none 0 0] 157)) :=
  ⟨[], rfl, Or.inl ⟨h, .slice none 0 0, (Blk.new _ _ _), own_nil _ _ _ _, by simp [Value.ownBlock]⟩⟩
theorem write_bd (B b k : Nat) (s : ByteArray) (w : World) (h : Bd B b k w) (hlen : k + s.size ≤ 140737488355328) (hBw : B ≤ w.heap.size) :
    Calls Tryz.prog 99 #[.pointer (some ⟨b, 0, none⟩), .string s] w fun e w' => e = .returned (.tuple #[.int .i64 s.size, .nilIface]) ∧ Hid (Bd B b (k + s.size) w' ∧ Below B w w' ∧ Keep w w') := by
  obtain ⟨l, hl, hb⟩ := h
  refine (write_calls B b _ s w hb (by rw [Lib.byteCells_length]; omega) hBw).mono ?_
  rintro e w' ⟨rfl, hh⟩
  exact ⟨rfl, Bd.more s l hl hh.out.1, hh.out.2⟩
theorem num_bd (B b k n : Nat) (w : World) (h : Bd B b k w) (hn : n ≤ 4611686018427387903) (hlen : k ≤ 1000000) (hBw : B ≤ w.heap.size) :
    Calls Tryz.prog 97 #[.int .i64 n, .pointer (some ⟨b, 0, none⟩)] w fun e w' => e = .returned (.tuple #[]) ∧ Hid (∃ j, j ≤ 10 ∧ Bd B b (k + j) w' ∧ Below B w w' ∧ Keep w w') := by
  have hnum := num_calls n w hn
  have HB : Hid (∀ w', Below w.heap.size w w' → Bd B b k w') := fun w' hb => h.below hb
  go_enter Tryz.func97, Tryz.ntmps97
  go_wp2_with (first
    | (go_at_call 98; (with_reducible refine hnum.mono ?_); rintro e w1 ⟨s, rfl, h1⟩
       have hw := write_bd B b k s w1 (HB.out _ h1.out.2) (by have := h1.out.1; omega) (Nat.le_trans hBw h1.out.2.size))
    | (go_at_call 99; (with_reducible refine hw.mono ?_); rintro e w2 ⟨rfl, h2⟩))
  go_end0
  exact ⟨rfl, s.size, h1.out.1, h2.out.1, (h1.out.2.mono hBw).trans h2.out.2.1, (Keep.below h1.out.2).trans h2.out.2.2⟩
theorem len_bd (B b k : Nat) (w : World) (h : Bd B b k w) : Calls Tryz.prog 100 #[.pointer (some ⟨b, 0, none⟩)] w fun e w' => e = .returned (.int .i64 k) ∧ w = w' := by
  obtain ⟨l, hl, hb⟩ := h
  refine (Tryz.Builder_Len B b _ w hb).mono ?_
  rintro e w' ⟨rfl, rfl⟩
  rw [Lib.byteCells_length, hl]
  exact ⟨rfl, rfl⟩
theorem string_bd (B b k : Nat) (w : World) (h : Bd B b k w) (hBw : B ≤ w.heap.size) : Calls Tryz.prog 101 #[.pointer (some ⟨b, 0, none⟩)] w fun e w' => ∃ s, e = .returned (.string s) ∧ Hid (Below B w w') := by
  obtain ⟨l, hl, hb⟩ := h
  refine (Tryz.Builder_String_any B b l w hb hBw).mono ?_
  rintro e w' ⟨rfl, h⟩
  exact ⟨_, rfl, h⟩
/-- the cells of a file in a list -/
theorem file_cells {w : World} {A : Option Addr} {n : Nat} {l : List Fi} (h : Kd.C kFi w A n l) (j : Nat) (hj : j < l.length) : ∃ ad path mode data, A = some ad ∧ l[j] = (path, mode, data) ∧ w.cell? (ad.add (j * 3)) = some (.string path) ∧
    w.cell? ⟨(ad.add (j * 3)).block, (ad.add (j * 3)).off + 1, none⟩ = some (.int .i64 mode) ∧ w.cell? ⟨(ad.add (j * 3)).block, (ad.add (j * 3)).off + 2, none⟩ = some (.string data) := by
  obtain ⟨ad, e, hc⟩ := h.2.2 (by have := h.1; omega)
  obtain ⟨cs, h1, hK, h3⟩ := hc j l[j] (List.getElem?_eq_getElem hj)
  obtain ⟨c0, c1, rfl, k0, d0, d1, rfl, k1, k2⟩ := hK
  rw [show c0 = _ from k0, show d0 = _ from k1, show d1 = _ from k2] at h3
  refine ⟨ad, _, _, _, e, rfl, h3 0 _ rfl, ?_, ?_⟩
  · rw [← add_field _ _ 1 (by omega)]
    exact h3 1 _ rfl
  · rw [← add_field _ _ 2 (by omega)]
    exact h3 2 _ rfl
/-- files of which an image may be made -/
def Fit (l : List Fi) : Prop := l.length ≤ 8 ∧ ∀ f ∈ l, f.1.size ≤ 200 ∧ 0 ≤ f.2.1 ∧ f.2.1 ≤ 511 ∧ f.2.2.size ≤ 2000
set_option maxRecDepth 100000 in
set_option maxHeartbeats 2000000 in
theorem image_bad (e : Int) (he : e ≠ 0) (fs : Value) (w : World) (hc : Calls Tryz.prog 96 #[fs] w fun e' w' => e' = .returned (.int .i64 e) ∧ Hid (Below w.heap.size w w')) :
    Calls Tryz.prog 65 #[fs] w fun e' w' => ∃ s, e' = .returned (.tuple #[.string s, .int .i64 e]) ∧ Hid (Below w.heap.size w w') := by
  go_enter Tryz.func65, Tryz.ntmps65
  go_wp2_with (go_at_call 96; (with_reducible refine hc.mono ?_); rintro e' w1 ⟨rfl, h1⟩)
  go_ret2
  exact ⟨_, rfl, h1⟩
set_option maxRecDepth 100000 in
set_option maxHeartbeats 4000000 in
theorem image_ok (A : Option Addr) (c : Nat) (l : List Fi) (w : World) (hC : Kd.C kFi w A l.length l) (hf : Fit l) (hc : Calls Tryz.prog 96 #[.slice A l.length c] w fun e' w' => e' = .returned (.int .i64 0) ∧ Hid (Below w.heap.size w w')) :
    Calls Tryz.prog 65 #[.slice A l.length c] w fun e' w' => ∃ s, e' = .returned (.tuple #[.string s, .int .i64 0]) ∧ Hid (Below w.heap.size w w') := by
  have hmf : ∀ (fn : Fn) (first cap : Array Value) (w : World), (Instr.makeFunc fn first cap).run Tryz.prog w = .ok (.func fn first cap) w := fun _ _ _ _ => rfl
  have h8 : l.length ≤ 8 := hf.1
  have HC : Hid (∀ w', Below w.heap.size w w' → Kd.C kFi w' A l.length l) := fun w' hb => Kd.C_below hC hb
  have HF : Hid (Fit l) := hf
  clear hC hf
  go_enter Tryz.func65, Tryz.ntmps65
  go_upto_region 8 with (first
    | (go_at_call 96; (with_reducible refine hc.mono ?_); rintro e' w1 ⟨rfl, h1⟩
       have s1 := h1.out.size
       have hn := num_bd w.heap.size w1.heap.size 0 l.length _ (Bd.new s1) (by omega) (by omega) (by simp; omega))
    | (go_at_call 97; (with_reducible refine hn.mono ?_); rintro e' w2 ⟨rfl, h2⟩))
  have hb2 : Hid (∃ k, k ≤ 10 ∧ Bd w.heap.size w1.heap.size k w2) := by
    obtain ⟨k, hk, hb, _⟩ := h2.out
    exact ⟨0 + k, by omega, hb⟩
  have B2 : Hid (Below w.heap.size w w2) := by
    obtain ⟨k, hk, hb, hl, _⟩ := h2.out
    exact (h1.out.alloc s1 _).trans hl
  have HL : Hid (w.heap.size ≤ w1.heap.size) := s1
  clear h2 h1 s1 hn hc
  generalize w1.heap.size = bb at *
  go_loopw [23] (fun i wr => ∃ (j k : Nat), j ≤ l.length ∧ k ≤ 10 + j * 230 ∧ i = .int .i64 j ∧ Hid (Bd w.heap.size bb k wr) ∧ Hid (Below w.heap.size w wr)) (fun i _ => l.length - (intOf i).toNat)
  case atStart =>
    obtain ⟨k, hk, hb⟩ := hb2.out
    exact ⟨0, k, by omega, by omega, rfl, hb, B2⟩
  case round =>
    obtain ⟨j, k, hj, hk, rfl, bd, bel⟩ := hrel
    clear hb2 B2
    by_cases hlt : j < l.length
    · obtain ⟨ad, path, mode, data, rfl, hp, e0, e1, e2⟩ := file_cells (HC.out wr bel.out) j hlt
      obtain ⟨f1, f2, f3, f4⟩ := HF.out.2 l[j] (List.getElem_mem hlt)
      rw [hp] at f1 f2 f3 f4
      clear hp
      simp only at f1 f2 f3 f4
      go_upto_region 10 with (fail)
      obtain ⟨md, rfl⟩ := Int.eq_ofNat_of_zero_le f2
      have bel3 : Hid (Below w.heap.size w (wr.alloc (.cells #[.string path, .int .i64 md, .string data] 93))) := bel.out.alloc bel.out.size _
      have bd3 : Hid (Bd w.heap.size bb k (wr.alloc (.cells #[.string path, .int .i64 md, .string data] 93))) := bd.out.below ((Below.refl _ _).alloc (Nat.le_refl _) _)
      have F3 : Hid (Blk (wr.alloc (.cells #[.string path, .int .i64 md, .string data] 93)) wr.heap.size #[.string path, .int .i64 md, .string data] 93) := Blk.new _ _ _
      clear bd bel e0 e1 e2
      change Code.wp _ _ _ _ (wr.alloc (.cells #[.string path, .int .i64 md, .string data] 93))
      generalize wr.alloc (.cells #[.string path, .int .i64 md, .string data] 93) = W3 at *
      generalize wr.heap.size = g at *
      have x0 : W3.cell? ⟨g, 0, none⟩ = some (.string path) := F3.out.cell 0
      have hn := num_bd w.heap.size bb k path.size W3 bd3.out (by omega) (by omega) bel3.out.size
      go_upto_region 11 with (go_at_call 97; (with_reducible refine hn.mono ?_); rintro e' w4 ⟨rfl, hw⟩)
      obtain ⟨j4, hj4, b4, l4, q4⟩ := hw.out
      have bel4 : Hid (Below w.heap.size w w4) := bel3.out.trans l4
      have F4 : Hid (Blk w4 g #[.string path, .int .i64 md, .string data] 93) := q4 _ _ _ F3.out (by decide) (by decide)
      clear hw hn x0 l4 q4
      have x0 : w4.cell? ⟨g, 0, none⟩ = some (.string path) := F4.out.cell 0
      have hn := write_bd w.heap.size bb (k + j4) path w4 b4 (by omega) bel4.out.size
      go_upto_region 12 with (go_at_call 99; (with_reducible refine hn.mono ?_); rintro e' w5 ⟨rfl, hw⟩)
      obtain ⟨b5, l5, q5⟩ := hw.out
      have bel5 : Hid (Below w.heap.size w w5) := bel4.out.trans l5
      have F5 : Hid (Blk w5 g #[.string path, .int .i64 md, .string data] 93) := q5 _ _ _ F4.out (by decide) (by decide)
      clear hw hn x0 l5 q5 b4
      have x1 : w5.cell? ⟨g, 1, none⟩ = some (.int .i64 md) := F5.out.cell 1
      have hn := num_bd w.heap.size bb (k + j4 + path.size) md w5 b5 (by omega) (by omega) bel5.out.size
      go_upto_region 13 with (go_at_call 97; (with_reducible refine hn.mono ?_); rintro e' w6 ⟨rfl, hw⟩)
      obtain ⟨j6, hj6, b6, l6, q6⟩ := hw.out
      have bel6 : Hid (Below w.heap.size w w6) := bel5.out.trans l6
      have F6 : Hid (Blk w6 g #[.string path, .int .i64 md, .string data] 93) := q6 _ _ _ F5.out (by decide) (by decide)
      clear hw hn x1 l6 q6 b5
      have x2 : w6.cell? ⟨g, 2, none⟩ = some (.string data) := F6.out.cell 2
      have hn := num_bd w.heap.size bb (k + j4 + path.size + j6) data.size w6 b6 (by omega) (by omega) bel6.out.size
      go_upto_region 14 with (go_at_call 97; (with_reducible refine hn.mono ?_); rintro e' w7 ⟨rfl, hw⟩)
      obtain ⟨j7, hj7, b7, l7, q7⟩ := hw.out
      have bel7 : Hid (Below w.heap.size w w7) := bel6.out.trans l7
      have b7' : Hid (Bd w.heap.size bb (k + j4 + path.size + j6 + j7) w7) := b7
      clear hw hn x2 l7 q7 b6 b7
      go_wp2
      go_roundw
      case rel => exact ⟨j + 1, _, by omega, by omega, by go_num, b7', bel7⟩
      case measure => simp [intOf]; omega
    · obtain rfl : j = l.length := by omega
      have hk2 : Hid (k ≤ 10 + 8 * 230) := by show k ≤ _; omega
      clear hk
      go_upto_region 16 with (fail)
      go_loopw [47] (fun i wq => ∃ (j k : Nat), j ≤ l.length ∧ k ≤ 1850 + j * 2000 ∧ i = .int .i64 j ∧ Hid (Bd w.heap.size bb k wq) ∧ Hid (Below w.heap.size w wq)) (fun i _ => l.length - (intOf i).toNat)
      case atStart => exact ⟨0, k, by omega, by have := hk2.out; omega, rfl, bd, bel⟩
      case round =>
        obtain ⟨j, k, hj, hk, rfl, bd, bel⟩ := hrel
        by_cases hlt : j < l.length
        · obtain ⟨ad, path, mode, data, rfl, hp, e0, e1, e2⟩ := file_cells (HC.out wr bel.out) j hlt
          obtain ⟨f1, f2, f3, f4⟩ := HF.out.2 l[j] (List.getElem_mem hlt)
          rw [hp] at f1 f2 f3 f4
          clear hp
          simp only at f1 f2 f3 f4
          go_upto_region 18 with (fail)
          have bel3 : Hid (Below w.heap.size w (wr.alloc (.cells #[.string path, .int .i64 mode, .string data] 93))) := bel.out.alloc bel.out.size _
          have bd3 : Hid (Bd w.heap.size bb k (wr.alloc (.cells #[.string path, .int .i64 mode, .string data] 93))) := bd.out.below ((Below.refl _ _).alloc (Nat.le_refl _) _)
          have F3 : Hid (Blk (wr.alloc (.cells #[.string path, .int .i64 mode, .string data] 93)) wr.heap.size #[.string path, .int .i64 mode, .string data] 93) := Blk.new _ _ _
          clear bd bel e0 e1 e2
          change Code.wp _ _ _ _ (wr.alloc (.cells #[.string path, .int .i64 mode, .string data] 93))
          generalize wr.alloc (.cells #[.string path, .int .i64 mode, .string data] 93) = W3 at *
          generalize wr.heap.size = g at *
          have x2 : W3.cell? ⟨g, 2, none⟩ = some (.string data) := F3.out.cell 2
          have hlen := fun q => len_bd w.heap.size bb k (W3.drewN q) (bd3.out.below (pw_below_drewN (Below.refl _ _) _))
          have i1 : ¬ (data.size : Int) > 524288 - (k : Int) := by omega
          go_quiet ((go_at_call 100; exact quiet0 (hlen _)))
          clear hlen
          have bel4 : Hid (Below w.heap.size w (W3.drewN nq)) := pw_below_drewN bel3.out nq
          have hn := write_bd w.heap.size bb k data (W3.drewN nq) (bd3.out.below (pw_below_drewN (Below.refl _ _) _)) (by omega) bel4.out.size
          go_wp2_with (go_at_call 99; (with_reducible refine hn.mono ?_); rintro e' w5 ⟨rfl, hw⟩)
          have bel5 : Hid (Below w.heap.size w w5) := bel4.out.trans hw.out.2.1
          have b5 : Hid (Bd w.heap.size bb (k + data.size) w5) := hw.out.1
          go_roundw
          case rel => exact ⟨j + 1, _, by omega, by omega, by go_num, b5, bel5⟩
          case measure => simp [intOf]; omega
        · have hs := string_bd w.heap.size bb k wr bd.out bel.out.size
          go_wp2_with (go_at_call 101; (with_reducible refine hs.mono ?_); rintro e' w5 ⟨s, rfl, hw⟩)
          go_ret2
          exact ⟨_, rfl, bel.out.trans hw.out⟩
end Go.Proofs.YtcbecbalhnomcaaGreatDoor.Build
