/- A byte of a text changed: what the law's bent and the net's Bend do; and Swap. -/
import Derived.Test.YtjfohacibijnoaaWalk3
import Derived.Laws.IdiomStrings
namespace Go.Proofs.Ytjfohacibijnoaa.Net
open Go.RowKit Go.Proofs.YtjfohacibijnoaaW.PrintWords

/-- the byte that comes of byte k -/
def bentZ (s : ByteArray) (k : Nat) (hk : k < s.size) (y : Int) : Int := bits .xor .u8 ((s[k]'hk).toNat : Int) (y % 256)
theorem bentZ_bd (s : ByteArray) (k : Nat) (hk : k < s.size) (y : Int) : 0 ≤ bentZ s k hk y ∧ bentZ s k hk y ≤ 255 := by
  have h : (Lit.int .u8 (bentZ s k hk y)).wf = true := by
    unfold bentZ bits
    have hw : ∀ e : Int, (Lit.int .u8 (IntKind.wrap .u8 e)).wf = true := by
      intro e
      simp [Lit.wf, IntKind.wrap, IntKind.min, IntKind.max, IntKind.signed, IntKind.bits]
      omega
    split <;> exact hw _
  simp [Lit.wf, IntKind.min, IntKind.max, IntKind.signed, IntKind.bits] at h
  omega
/-- the text, its byte k changed -/
def bentB (s : ByteArray) (k : Nat) (hk : k < s.size) (y : Int) : ByteArray := ⟨(s.data.toList.set k (UInt8.ofNat (bentZ s k hk y).toNat)).toArray⟩
theorem bentB_size (s : ByteArray) (k : Nat) (hk : k < s.size) (y : Int) : (bentB s k hk y).size = s.size := by
  show (bentB s k hk y).data.size = s.data.size
  simp [bentB]

/-- '[]byte(s)', a store at k, and back: the three worlds -/
theorem bent_parts (s : ByteArray) (k : Nat) (y : Int) (w : World) (hk : k < s.size) : ∃ cap W1,
    (convert 9 53 (.string s)).run Try.prog w = .ok (.slice (some ⟨w.heap.size, 0, none⟩) s.size cap) W1 ∧ Hid (Below w.heap.size w W1) ∧ Hid (W1.heap.size = w.heap.size + 1) ∧
    W1.cell? ⟨w.heap.size, k, none⟩ = some (.int .u8 ((s[k]'hk).toNat : Int)) ∧ W1.frozen? ⟨w.heap.size, k, none⟩ = false ∧
    ∀ W2 : World, (∀ a : Addr, a.block = w.heap.size → W2.cell? a = (W1.setCell ⟨w.heap.size, k, none⟩ (.int .u8 (bentZ s k hk y))).cell? a) →
      (convert 53 9 (.slice (some ⟨w.heap.size, 0, none⟩) s.size cap)).run Try.prog W2 = .ok (.string (bentB s k hk y)) W2 := by
  have hconv := run_bytes_of_string (P := Try.prog) w 9 53 5 s Try.underlying9 Try.underlying53 Try.underlying5
  obtain ⟨cap, hcap⟩ : ∃ cap, grownCap w s.size 0 5 = cap := ⟨_, rfl⟩
  rw [hcap] at hconv
  have hrs : ∀ j (hj : j < s.size), (bytesRow s cap)[j]? = some (.int .u8 ((s[j]'hj).toNat : Int)) := by
    intro j hj
    have hj' : j < s.data.size := hj
    unfold bytesRow
    rw [Array.getElem?_append, if_pos (by simpa using hj), Array.getElem?_map, Array.getElem?_eq_getElem hj']
    rfl
  have hrn : s.size ≤ (bytesRow s cap).size := by unfold bytesRow; rw [Array.size_append, Array.size_map]; exact Nat.le_add_right _ _
  generalize bytesRow s cap = R at *
  have C1 : (w.drew.alloc (.cells R 5 (R.size, R.size + 1))).heap[w.heap.size]? = some (.cells R 5 (R.size, R.size + 1)) := heap_alloc_new w.drew _
  refine ⟨cap, _, hconv, ((Below.refl _ w).drew).alloc (Nat.le_refl _) _, by show (_ : Nat) = _; simp, ?_, ?_, fun W2 h2 => ?_⟩
  · simp only [World.cell?, C1]; simpa using hrs k hk
  · simp only [World.frozen?, C1]; simp; omega
  · obtain ⟨l, hl⟩ : ∃ l, s.data.toList.set k (UInt8.ofNat (bentZ s k hk y).toNat) = l := ⟨_, rfl⟩
    have hll : l.length = s.size := by rw [← hl]; simp
    have hz := bentZ_bd s k hk y
    have hcells : ∀ j (hj : j < l.length), W2.cell? ((⟨w.heap.size, 0, none⟩ : Addr).add j) = some (.int .u8 (l[j].toNat : Int)) := by
      intro j hj
      have ea : (⟨w.heap.size, 0, none⟩ : Addr).add j = ⟨w.heap.size, j, none⟩ := add_plain _ _
      have hset : ((w.drew.alloc (.cells R 5 (R.size, R.size + 1))).setCell ⟨w.heap.size, k, none⟩ (.int .u8 (bentZ s k hk y))).heap[w.heap.size]? = some (.cells (R.setIfInBounds k (.int .u8 (bentZ s k hk y))) 5 (R.size, R.size + 1)) := by
        simp only [World.setCell, Array.getElem?_modify, if_true, C1]
        simp
      rw [ea, h2 _ rfl]
      simp only [World.cell?, hset]
      by_cases e : k = j
      · subst e
        have : l[k] = UInt8.ofNat (bentZ s k hk y).toNat := by simp [← hl]
        rw [this]
        simp [show k < R.size by omega]
        omega
      · have : l[j] = s[j]'(by omega) := by simp [← hl, e]; rfl
        rw [this]
        simp only [Option.isSome_none, Bool.false_eq_true, if_false, Array.getElem?_setIfInBounds, if_neg e]
        exact hrs j (by omega)
    have := run_convert_bytes_back (P := Try.prog) W2 53 9 5 ⟨w.heap.size, 0, none⟩ cap l Try.underlying53 Try.underlying5 Try.underlying9 hcells
    rw [hll] at this
    rw [this, ← hl]
    rfl

theorem bent_calls (s : ByteArray) (k : Nat) (y : Int) (w : World) (hk : k < s.size) : Calls Try.prog 24 #[.string s, .int .i64 k, .int .i64 y] w fun e w' => e = .returned (.string (bentB s k hk y)) ∧ Below w.heap.size w w' := by
  obtain ⟨cap, W1, hconv, B1, S1, hk1, fk1, back⟩ := bent_parts s k y w hk
  have hback := back (W1.setCell ⟨w.heap.size, k, none⟩ (.int .u8 (bentZ s k hk y))) (fun _ _ => rfl)
  clear back
  rw [show bentZ s k hk y = bits .xor .u8 ((s[k]'hk).toNat : Int) (y % 256) from rfl] at hback
  go_enter Try.func24, Try.ntmps24
  go_wp2
  go_ret
  exact ⟨rfl, B1.out.setCell (Nat.le_refl _) _⟩

/-- a message put in the place of another -/
theorem did_set {w W7 : World} {b c : Nat} {v : Value} {L : List ByteArray} {x y : Int} {i : Nat} {t : ByteArray} {g n cap : Nat} (st : At w b c v L x y) (hv : v = .slice (some ⟨g, 0, none⟩) n cap) (_hi : i < L.length)
    (md : Below w.heap.size w W7) : Did w b c v (W7.setCell ⟨g, i, none⟩ (.string t)) (L.set i t) x y := by
  have hg : v.ownBlock = some g := by rw [hv]; rfl
  have hgb := st.gb g hg
  have hgc := st.gc g hg
  obtain ⟨q, r, hc⟩ := st.ch
  have clt : c < w.heap.size := (Array.getElem?_eq_some_iff.1 hc).1
  have hglt := st.own.lt g hg
  refine ⟨v, ⟨?_, ⟨q, r, ?_⟩, ?_⟩, ?_, fun k hk => .inl hk⟩
  · exact st.blk.same (by rw [heap_setCell_ne _ _ _ _ (fun e => hgb e.symm), md.block b st.blk.lt])
  · rw [heap_setCell_ne _ _ _ _ (fun e => hgc e.symm), md.block c clt]; exact hc
  · obtain ⟨g', cap', cur, hv', hb, h2, h3, h4, h5⟩ := st.own.row (by omega)
    rw [hv'] at hv
    injection hv with e1 e2 e3
    injection e1 with e1
    injection e1 with e1
    subst e1 e2 e3
    have hb7 : Blk W7 g' cur 9 := hb.same (md.block g' hglt)
    have hb8 := hb7.set i (.string t)
    have ho := Strs.of (L := L.set i t) hb8 (by simpa using h2) h3 (by simpa using h4) (fun j hj => by
      have hj' : j < L.length := by simpa using hj
      rw [Array.getElem?_setIfInBounds]
      by_cases e : i = j
      · subst e
        rw [if_pos rfl, if_pos (by omega)]
        simp
      · rw [if_neg e, h5 j hj']
        simp [e])
    rw [hv']
    simpa using ho
  · exact (Mod.ofBelow md).set (.inr (.inr hg)) _

set_option maxRecDepth 100000 in
theorem bend_far (b c : Nat) (v : Value) (L : List ByteArray) (x y : Int) (i : Nat) (m z : Int) (w : World) (st : At w b c v L x y) (hi : i < L.length) (h : m < 0 ∨ (L[i].size : Int) ≤ m) :
    Calls Try.prog 20 #[.pointer (some ⟨b, 0, none⟩), .int .i64 i, .int .i64 m, .int .i64 z] w fun e w' => e = .returned (.int .i64 2) ∧ w = w' := by
  have hp := peek_at b c v L x y i w st hi
  generalize L[i] = s at *
  clear st
  by_cases h1 : m < 0
  · have g1 : decide (m < 0) = true := decide_eq_true h1
    clear h
    go_enter Try.func20, Try.ntmps20
    go_wp2_with (go_at_call 19; (with_reducible refine hp.mono ?_); rintro e w' ⟨rfl, rfl⟩)
    go_ret
    exact ⟨rfl, rfl⟩
  · have g1 : decide (m < 0) = false := decide_eq_false h1
    have h2 : (s.size : Int) ≤ m := by omega
    clear h
    go_enter Try.func20, Try.ntmps20
    go_wp2_with (go_at_call 19; (with_reducible refine hp.mono ?_); rintro e w' ⟨rfl, rfl⟩)
    go_ret
    exact ⟨rfl, rfl⟩
set_option maxRecDepth 100000 in
theorem bend_at (b c : Nat) (v : Value) (L : List ByteArray) (x y : Int) (i k : Nat) (z : Int) (w : World) (st : At w b c v L x y) (hi : i < L.length) (s : ByteArray) (hs : L[i] = s) (hk : k < s.size) :
    Calls Try.prog 20 #[.pointer (some ⟨b, 0, none⟩), .int .i64 i, .int .i64 k, .int .i64 z] w fun e w' => e = .returned (.int .i64 0) ∧ Did w b c v w' (L.set i (bentB s k hk z)) x y := by
  have hp := peek_at b c v L x y i w st hi
  obtain ⟨cap1, W1, hconv, B1, S1, hk1, fk1, back⟩ := bent_parts s k z w hk
  obtain ⟨g, cap, cur, hv, hb, h2, h3, h4, h5⟩ := st.own.row (by omega)
  have hglt := hb.lt
  have hblt := st.blk.lt
  have hcur : cur[i]? = some (.string L[i]) := h5 i hi
  have FIN : Hid (∀ W7, Below w.heap.size w W7 → Did w b c v (W7.setCell ⟨g, i, none⟩ (.string (bentB s k hk z))) (L.set i (bentB s k hk z)) x y) := fun W7 h => did_set st hv hi h
  have h0 : w.cell? ⟨b, 0, none⟩ = some (.slice (some ⟨g, 0, none⟩) L.length cap) := by rw [← hv]; exact Blk.cell st.blk 0
  have gi : w.cell? ⟨g, i, none⟩ = some (.string s) := (Blk.cell hb i).trans (by rw [hcur, hs])
  have gf : w.frozen? ⟨g, i, none⟩ = false := Blk.free hb i
  rw [hs] at hp
  have back1 : Hid (∀ W2 : World, (∀ a : Addr, a.block = w.heap.size → W2.cell? a = (W1.setCell ⟨w.heap.size, k, none⟩ (.int .u8 (bits .xor .u8 ((s[k]'hk).toNat : Int) (z % 256)))).cell? a) →
      (convert 53 9 (.slice (some ⟨w.heap.size, 0, none⟩) s.size cap1)).run Try.prog W2 = .ok (.string (bentB s k hk z)) W2) := back
  generalize bentB s k hk z = T at *
  have B2 : Hid (Below w.heap.size w (W1.setCell ⟨w.heap.size, k, none⟩ (.int .u8 (bits .xor .u8 ((s[k]'hk).toNat : Int) (z % 256))))) := B1.out.setCell (Nat.le_refl _) _
  have hki : (k : Int) < (s.size : Int) := by omega
  clear st hb h5 hcur hs B1 back h4
  go_enter Try.func20, Try.ntmps20
  go_wp2_with (go_at_call 19; (with_reducible refine hp.mono ?_); rintro e w' ⟨rfl, rfl⟩)
  generalize hW2 : W1.setCell ⟨w.heap.size, k, none⟩ (.int .u8 (bits .xor .u8 ((s[k]'hk).toNat : Int) (z % 256))) = W2 at *
  clear hW2
  have hback : ∀ n, (convert 53 9 (.slice (some ⟨w.heap.size, 0, none⟩) s.size cap1)).run Try.prog (W2.drewN n) = .ok (.string T) (W2.drewN n) := fun n => back1.out (W2.drewN n) (fun _ _ => rfl)
  have h02 : W2.cell? ⟨b, 0, none⟩ = some (.slice (some ⟨g, 0, none⟩) L.length cap) := (B2.out.cell (p := ⟨b, 0, none⟩) hblt).trans h0
  have gi2 : W2.cell? ⟨g, i, none⟩ = some (.string s) := (B2.out.cell (p := ⟨g, i, none⟩) hglt).trans gi
  clear hp hconv hk1 fk1 h0 gi
  have hback1 : (convert 53 9 (.slice (some ⟨w.heap.size, 0, none⟩) s.size cap1)).run Try.prog W2.drew = .ok (.string T) W2.drew := back1.out W2.drew (fun _ _ => rfl)
  have hi2 : (i : Int) < (L.length : Int) := by omega
  have hi3 : 0 ≤ (i : Int) := by omega
  go_still_tail 8, (by kernel_rfl)
  change wpList _ _ _ _ _ W2.drew
  have gf2 : W2.frozen? ⟨g, i, none⟩ = false := (B2.out.frozen (p := ⟨g, i, none⟩) hglt).trans gf
  go_wp2
  go_ret
  exact ⟨rfl, FIN.out W2.drew B2.out.drew⟩
end Go.Proofs.Ytjfohacibijnoaa.Net
