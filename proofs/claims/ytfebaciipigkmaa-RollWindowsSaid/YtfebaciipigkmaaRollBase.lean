/- Words for worlds in which one block may be written: a block known whole, a world in which nothing but one block has changed. And what a text's bytes, its weak sum and a window on it are. -/
import Derived.Test.YtfebaciipigkmaaPRollEndsx1
import Derived.Test.YtfebaciipigkmaaRollMath
namespace Go.Proofs.Ytfebaciipigkmaa.Roll
open Go.RowKit Go.Proofs.Ytfebaciipigkmaa.PRollEnds Go.Proofs.YtfebaciipigkmaaW.PrintWords Go.Proofs.YtfebaciipigkmaaW.PrintLast Go.Proofs.YtfebaciipigkmaaW.PrintMore Go.Proofs.Ytfebaciipigkmaa.RollMath

/-- a block of cells, none of them frozen -/
def Blk (w : World) (b : Nat) (cs : Array Value) (t : TypeId) : Prop := w.heap[b]? = some (.cells cs t (0, 0))
theorem Blk.cell {w : World} {b : Nat} {cs : Array Value} {t : TypeId} (h : Blk w b cs t) (i : Nat) : w.cell? ⟨b, i, none⟩ = cs[i]? := by
  unfold Blk at h; simp [World.cell?, h]
theorem Blk.free {w : World} {b : Nat} {cs : Array Value} {t : TypeId} (h : Blk w b cs t) (i : Nat) : w.frozen? ⟨b, i, none⟩ = false := by
  unfold Blk at h; simp [World.frozen?, h]
theorem Blk.drewN {w : World} {b : Nat} {cs : Array Value} {t : TypeId} (h : Blk w b cs t) (n : Nat) : Blk (w.drewN n) b cs t := h
theorem Blk.drew {w : World} {b : Nat} {cs : Array Value} {t : TypeId} (h : Blk w b cs t) : Blk w.drew b cs t := h
theorem Blk.lt {w : World} {b : Nat} {cs : Array Value} {t : TypeId} (h : Blk w b cs t) : b < w.heap.size := (Array.getElem?_eq_some_iff.1 h).1
theorem Blk.set {w : World} {b : Nat} {cs : Array Value} {t : TypeId} (h : Blk w b cs t) (i : Nat) (v : Value) : Blk (w.setCell ⟨b, i, none⟩ v) b (cs.setIfInBounds i v) t := by
  unfold Blk at h ⊢; simp [World.setCell, Array.getElem?_modify, h]
theorem Blk.other {w : World} {b c : Nat} {cs : Array Value} {t : TypeId} (h : Blk w b cs t) (hne : b ≠ c) (i : Nat) (v : Value) : Blk (w.setCell ⟨c, i, none⟩ v) b cs t := by
  unfold Blk at h ⊢; rw [Below.heap_setCell _ _ _ _ hne]; exact h
theorem Blk.new (w : World) (cs : Array Value) (t : TypeId) : Blk (w.alloc (.cells cs t)) w.heap.size cs t := by
  unfold Blk World.alloc; simp
theorem Blk.below {w w' : World} {b B : Nat} {cs : Array Value} {t : TypeId} (h : Blk w b cs t) (hb : Below B w w') (hlt : b < B) : Blk w' b cs t := by
  unfold Blk at h ⊢; rw [hb.block b hlt]; exact h

/-- nothing but block b may have changed, and nothing is new -/
structure Only (b : Nat) (w w' : World) : Prop where
  os : w'.os = w.os
  tape : w'.tape = w.tape
  output : w'.output = w.output
  size : w'.heap.size = w.heap.size
  block : ∀ k, k ≠ b → w'.heap[k]? = w.heap[k]?
theorem Only.refl (b : Nat) (w : World) : Only b w w := ⟨rfl, rfl, rfl, rfl, fun _ _ => rfl⟩
theorem Only.trans {b : Nat} {a c d : World} (h : Only b a c) (k : Only b c d) : Only b a d :=
  ⟨k.os.trans h.os, k.tape.trans h.tape, k.output.trans h.output, k.size.trans h.size, fun i hi => (k.block i hi).trans (h.block i hi)⟩
theorem Only.drewN {b : Nat} {a w : World} (h : Only b a w) (n : Nat) : Only b a (w.drewN n) := ⟨h.os, h.tape, h.output, h.size, h.block⟩
theorem Only.drew {b : Nat} {a w : World} (h : Only b a w) : Only b a w.drew := ⟨h.os, h.tape, h.output, h.size, h.block⟩
theorem Only.set {b : Nat} {a w : World} (h : Only b a w) (i : Nat) (v : Value) : Only b a (w.setCell ⟨b, i, none⟩ v) :=
  h.trans ⟨rfl, rfl, rfl, by simp [World.setCell], fun k hk => Below.heap_setCell _ _ _ _ hk⟩
theorem Only.below {b B : Nat} {w w' : World} (h : Only b w w') (hb : B ≤ b) : Below B w w' :=
  ⟨h.os, h.tape, h.output, by rw [h.size]; exact Nat.le_refl _, fun k hk => h.block k (by omega)⟩
theorem Only.drawn {b : Nat} {w w' : World} (h : Drawn0 w w') : Only b w w' := by
  obtain ⟨n, rfl⟩ := h; exact (Only.refl b w).drewN n

/-- a text's bytes, and those of its window that begins at k -/
def bs (s : ByteArray) (i : Nat) : Int := bt s (i : Int)
def Wi (s : ByteArray) (k : Nat) : Nat → Int := fun i => bs s (k + i)
theorem bs_bd (s : ByteArray) : ∀ i, 0 ≤ bs s i ∧ bs s i ≤ 255 := fun i => bt_range s (i : Int)
theorem Wi_zero (s : ByteArray) : Wi s 0 = bs s := by funext i; unfold Wi; rw [Nat.zero_add]
theorem Wi_succ (s : ByteArray) (k : Nat) : (fun i => Wi s k (i + 1)) = Wi s (k + 1) := by
  funext i; unfold Wi; rw [show k + (i + 1) = k + 1 + i from by omega]
def wA (s : ByteArray) (n k : Nat) : Int := sA (Wi s k) n % 65536
def wB (s : ByteArray) (n k : Nat) : Int := sB (Wi s k) n % 65536
/-- the weak sum of a window -/
def wk (s : ByteArray) (n k : Nat) : Int := weak (Wi s k) n
theorem wA_bd (s : ByteArray) (n k : Nat) : 0 ≤ wA s n k ∧ wA s n k < 65536 := by unfold wA; omega
theorem wB_bd (s : ByteArray) (n k : Nat) : 0 ≤ wB s n k ∧ wB s n k < 65536 := by unfold wB; omega
theorem wk_bd (s : ByteArray) (n k : Nat) : 0 ≤ wk s n k ∧ wk s n k < 4294967296 := weak_bd _ _
theorem wk_eq (s : ByteArray) (n k : Nat) : wk s n k = wA s n k + wB s n k * 65536 := rfl
theorem wA_wk (s : ByteArray) (n k : Nat) : wk s n k % 65536 = wA s n k := weak_mod _ _
theorem wB_wk (s : ByteArray) (n k : Nat) : wk s n k / 65536 = wB s n k := weak_div _ _
theorem win_next (s : ByteArray) (n k : Nat) :
    wA s n (k + 1) = (wA s n k - bs s k + bs s (k + n) + 65536) % 65536 ∧
    wB s n (k + 1) = (wB s n k - (n * bs s k) % 65536 + wA s n (k + 1) + 65536) % 65536 := by
  have h := weak_next (Wi s k) n (wA s n k) (wB s n k) rfl rfl
  rw [Wi_succ] at h
  obtain ⟨h1, h2⟩ := h
  have e1 : wA s n (k + 1) = (wA s n k - bs s k + bs s (k + n) + 65536) % 65536 := by
    rw [show wA s n (k + 1) = sA (Wi s (k + 1)) n % 65536 from rfl, ← h1]; rfl
  refine ⟨e1, ?_⟩
  rw [e1, show wB s n (k + 1) = sB (Wi s (k + 1)) n % 65536 from rfl, ← h2]; rfl

theorem w64 {x : Int} (h : -9223372036854775808 ≤ x) (h' : x ≤ 9223372036854775807) : wrap64 x = x := by unfold wrap64; omega
theorem w64e {x y : Int} (e : x = y) (h : -9223372036854775808 ≤ y) (h' : y ≤ 9223372036854775807) : wrap64 x = y := by subst e; exact w64 h h'
theorem tm {x : Int} (h : 0 ≤ x) : Int.tmod x 65536 = x % 65536 := Int.tmod_eq_emod_of_nonneg h

theorem roll_sum_l (s : ByteArray) (hn : s.size ≤ 1048576) (d : Nat) : ∀ (k i : Nat), i ≤ s.size → s.size - i = d → d < k →
    roll_Sum.l0 k s (sA (bs s) i) (sB (bs s) i) (s.size : Int) (i : Int) = some (weak (bs s) s.size) := by
  induction d with
  | zero =>
    intro k i h1 hd hk
    obtain ⟨k, rfl⟩ : ∃ m, k = m + 1 := ⟨k - 1, by omega⟩
    obtain rfl : i = s.size := by omega
    have a1 := sA_bd (bs_bd s) s.size
    have a2 := sB_bd (bs_bd s) s.size hn
    have e1 : wrap64 (sB (bs s) s.size % 65536 * 65536) = sB (bs s) s.size % 65536 * 65536 := w64 (by omega) (by omega)
    have e2 : wrap64 (sA (bs s) s.size % 65536 + sB (bs s) s.size % 65536 * 65536) = weak (bs s) s.size := w64e rfl (by unfold weak; omega) (by unfold weak; omega)
    simp only [roll_Sum.l0]; rw [if_neg (by omega), tm a1.1, tm a2.1, e1, e2]
  | succ d ih =>
    intro k i h1 hd hk
    obtain ⟨k, rfl⟩ : ∃ m, k = m + 1 := ⟨k - 1, by omega⟩
    have a1 := sA_bd (bs_bd s) (i + 1)
    have a2 := sB_bd (bs_bd s) (i + 1) (by omega)
    have a3 := bs_bd s i
    have s1 : sA (bs s) i + bs s i = sA (bs s) (i + 1) := rfl
    have s2 : sB (bs s) i + sA (bs s) (i + 1) = sB (bs s) (i + 1) := rfl
    have c1 : (i : Int) < (s.size : Int) := by omega
    have c2 : 0 ≤ (i : Int) := by omega
    have c3 : (i : Int) + 1 = ((i + 1 : Nat) : Int) := by omega
    have i1 : -9223372036854775808 ≤ bs s i ∧ bs s i ≤ 9223372036854775807 := by omega
    have i2 : -9223372036854775808 ≤ sA (bs s) (i + 1) ∧ sA (bs s) (i + 1) ≤ 9223372036854775807 := by omega
    have i3 : -9223372036854775808 ≤ sB (bs s) (i + 1) ∧ sB (bs s) (i + 1) ≤ 9223372036854775807 := by omega
    have i4 : -9223372036854775808 ≤ ((i + 1 : Nat) : Int) ∧ ((i + 1 : Nat) : Int) ≤ 9223372036854775807 := by omega
    have H := ih k (i + 1) (by omega) (by omega) (by omega)
    have e1 : wrap64 (bt s (i : Int)) = bs s i := w64e rfl i1.1 i1.2
    simp only [roll_Sum.l0]
    rw [if_pos c1, if_pos c2, if_pos c1, e1, w64e s1 i2.1 i2.2, w64e s2 i3.1 i3.2, w64e c3 i4.1 i4.2]
    exact H

/-- the program's weak sum of a text of up to 2^20 bytes -/
theorem sum_calls (s : ByteArray) (hn : s.size ≤ 1048576) (w : World) : Calls Try.prog 12 #[.string s] w fun e w' => e = .returned (.int .i64 (wk s s.size 0)) ∧ Drawn0 w w' :=
  roll_Sum.calls (s.size + 1) s _ w ((roll_sum_l s hn s.size (s.size + 1) 0 (by omega) (by omega) (by omega)).trans (by unfold wk; rw [Wi_zero]))

theorem awake_calls (w : World) : Calls Try.prog 14 #[] w fun e w' => e = .returned (.bool true) ∧ Drawn0 w w' := by
  refine barquelaw04_awake.calls 3 true w ?_
  unfold barquelaw04_awake.f
  have h : roll_Sum.f 3 ⟨#[97, 98]⟩ = some 19136707 := by kernel_rfl
  rw [h]; rfl

theorem bs_extract (s : ByteArray) (a b i : Nat) (hb : b ≤ s.size) (h : a + i < b) : bs (s.extract a b) i = bs s (a + i) := by
  have h2 : i < (s.extract a b).size := by rw [ByteArray.size_extract]; omega
  unfold bs bt
  rw [dif_pos (by omega), dif_pos (by omega)]
  congr 2
  simp only [Int.toNat_natCast]
  exact ByteArray.getElem_extract _
/-- a window's weak sum is that of the text that lies in it -/
theorem wk_extract (s : ByteArray) (k n : Nat) (h : k + n ≤ s.size) : wk (s.extract k (k + n)) (s.extract k (k + n)).size 0 = wk s n k := by
  rw [ByteArray.size_extract, show min (k + n) s.size - k = n from by omega]
  unfold wk
  rw [Wi_zero]
  refine weak_congr n (fun i hi => ?_)
  exact bs_extract s k (k + n) i h (by omega)

end Go.Proofs.Ytfebaciipigkmaa.Roll
