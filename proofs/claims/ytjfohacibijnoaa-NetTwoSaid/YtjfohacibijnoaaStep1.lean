/- A net and its plain list, before and behind a call. -/
import Derived.Test.YtjfohacibijnoaaStep0
namespace Go.Proofs.Ytjfohacibijnoaa.Net
open Go.RowKit Go.Proofs.YtjfohacibijnoaaW.PrintWords

/-- a net in memory and its plain list -/
structure Sc (w : World) (b c : Nat) (v : Value) (L : List ByteArray) (x y : Int) (lv : Value) : Prop where
  at_ : At w b c v L x y
  lst : Lst w lv L
  own : ∀ k, lv.ownBlock = some k → k < w.heap.size ∧ ¬ Foot b c v k
theorem At.foot_lt {w : World} {b c : Nat} {v : Value} {L : List ByteArray} {x y : Int} (h : At w b c v L x y) : ∀ k, Foot b c v k → k < w.heap.size := by
  rintro k (rfl | rfl | e)
  · exact h.blk.lt
  · obtain ⟨s, r, hc⟩ := h.ch
    exact (Array.getElem?_eq_some_iff.1 hc).1
  · exact h.own.lt k e
theorem At.below {w w' : World} {b c : Nat} {v : Value} {L : List ByteArray} {x y : Int} (h : At w b c v L x y) (d : Below w.heap.size w w') : At w' b c v L x y :=
  h.same fun k hk => d.block k (h.foot_lt k hk)
theorem Sc.below {w w' : World} {b c : Nat} {v : Value} {L : List ByteArray} {x y : Int} {lv : Value} (h : Sc w b c v L x y lv) (d : Below w.heap.size w w') : Sc w' b c v L x y lv :=
  ⟨h.at_.below d, h.lst.same fun k hk => d.block k (h.own k hk).1, fun k hk => ⟨Nat.lt_of_lt_of_le (h.own k hk).1 d.size, (h.own k hk).2⟩⟩
theorem At.did {w : World} {b c : Nat} {v : Value} {L : List ByteArray} {x y : Int} (h : At w b c v L x y) : Did w b c v w L x y := ⟨v, h, Mod.refl _ w, fun _ hk => .inl hk⟩
/-- what a step did -/
def Stp (w : World) (b c : Nat) (v : Value) (lv : Value) (w' : World) (lv' : Value) (L' : List ByteArray) (x' y' : Int) : Prop :=
  ∃ v', Sc w' b c v' L' x' y' lv' ∧ Mod (Foot b c v) w w' ∧ (∀ k, v'.ownBlock = some k → v.ownBlock = some k ∨ w.heap.size ≤ k) ∧ ∀ k, lv'.ownBlock = some k → lv.ownBlock = some k ∨ w.heap.size ≤ k
section
variable {w w1 w2 w3 : World} {b c : Nat} {v lv lv' : Value} {L L' : List ByteArray} {x y x' y' : Int}
/-- the list as it was -/
theorem stp_same (st : Sc w b c v L x y lv) (B1 : Below w.heap.size w w1) (d : Did w1 b c v w2 L x' y') (B2 : Below w2.heap.size w2 w3) : Stp w b c v lv w3 lv L x' y' := by
  obtain ⟨v', a, m, o⟩ := d
  have st1 := st.below B1
  have l2 : Lst w2 lv L := st1.lst.same fun k hk => m.block k (st1.own k hk).1 (st1.own k hk).2
  have sc2 : Sc w2 b c v' L x' y' lv := ⟨a, l2, fun k hk => ⟨Nat.lt_of_lt_of_le (st1.own k hk).1 m.size, fun hf => by
    rcases hf with e | e | e
    · exact (st1.own k hk).2 (.inl e)
    · exact (st1.own k hk).2 (.inr (.inl e))
    · rcases o k e with e | e
      · exact (st1.own k hk).2 (.inr (.inr e))
      · have := (st1.own k hk).1
        omega⟩⟩
  refine ⟨v', sc2.below B2, ((Mod.ofBelow B1).trans m).trans' (Mod.ofBelow (S := fun _ => False) B2) (fun _ h => h.elim), fun k hk => ?_, fun k hk => .inl hk⟩
  rcases o k hk with e | e
  · exact .inl e
  · exact .inr (Nat.le_trans B1.size e)
/-- a new list behind what the net did -/
theorem stp_new (_ : Sc w b c v L x y lv) (B1 : Below w.heap.size w w1) (d : Did w1 b c v w2 L' x' y') (B2 : Below w2.heap.size w2 w3) (hl : Lst w3 lv' L') (ho : ∀ k, lv'.ownBlock = some k → w2.heap.size ≤ k ∧ k < w3.heap.size) : Stp w b c v lv w3 lv' L' x' y' := by
  obtain ⟨v', a, m, o⟩ := d
  refine ⟨v', ⟨a.below B2, hl, fun k hk => ⟨(ho k hk).2, fun hf => ?_⟩⟩, ((Mod.ofBelow B1).trans m).trans' (Mod.ofBelow (S := fun _ => False) B2) (fun _ h => h.elim), fun k hk => ?_, fun k hk => .inr ?_⟩
  · have := a.foot_lt k hf
    have := (ho k hk).1
    omega
  · rcases o k hk with e | e
    · exact .inl e
    · exact .inr (Nat.le_trans B1.size e)
  · exact Nat.le_trans (Nat.le_trans B1.size m.size) (ho k hk).1
/-- a new list ahead of what the net did -/
theorem stp_first (st : Sc w b c v L x y lv) (B1 : Below w.heap.size w w1) (hl : Lst w1 lv' L') (ho : ∀ k, lv'.ownBlock = some k → w.heap.size ≤ k ∧ k < w1.heap.size) (d : Did w1 b c v w2 L' x' y') : Stp w b c v lv w2 lv' L' x' y' := by
  obtain ⟨v', a, m, o⟩ := d
  have hn : ∀ k, lv'.ownBlock = some k → ¬ Foot b c v k := fun k hk hf => by
    have := st.at_.foot_lt k hf
    have := (ho k hk).1
    omega
  refine ⟨v', ⟨a, hl.same fun k hk => m.block k (ho k hk).2 (hn k hk), fun k hk => ⟨Nat.lt_of_lt_of_le (ho k hk).2 m.size, fun hf => ?_⟩⟩, (Mod.ofBelow B1).trans m, fun k hk => ?_, fun k hk => .inr (ho k hk).1⟩
  · rcases hf with e | e | e
    · exact hn k hk (.inl e)
    · exact hn k hk (.inr (.inl e))
    · rcases o k e with e | e
      · exact hn k hk (.inr (.inr e))
      · have := (ho k hk).2
        omega
  · rcases o k hk with e | e
    · exact .inl e
    · exact .inr (Nat.le_trans B1.size e)
end

/-- a call of the script, in memory -/
def opv (K N M Y : Int) (T : ByteArray) : Array Value := #[.int .i64 K, .int .i64 N, .int .i64 M, .int .i64 Y, .string T]
structure Opc (w : World) (g : Nat) (K N M Y : Int) (T : ByteArray) : Prop where
  blk : Blk w g (opv K N M Y T) 40
theorem Opc.same {w w' : World} {g : Nat} {K N M Y : Int} {T : ByteArray} (h : Opc w g K N M Y T) (e : w'.heap[g]? = w.heap[g]?) : Opc w' g K N M Y T := ⟨h.blk.same e⟩
theorem Opc.c {w : World} {g : Nat} {K N M Y : Int} {T : ByteArray} (h : Opc w g K N M Y T) :
    w.cell? ⟨g, 0, none⟩ = some (.int .i64 K) ∧ w.cell? ⟨g, 1, none⟩ = some (.int .i64 N) ∧ w.cell? ⟨g, 2, none⟩ = some (.int .i64 M) ∧ w.cell? ⟨g, 3, none⟩ = some (.int .i64 Y) ∧ w.cell? ⟨g, 4, none⟩ = some (.string T) :=
  ⟨h.blk.cell 0, h.blk.cell 1, h.blk.cell 2, h.blk.cell 3, h.blk.cell 4⟩

end Go.Proofs.Ytjfohacibijnoaa.Net
namespace Go.Proofs.Ytjfohacibijnoaa.Net
open Go.RowKit Go.Proofs.YtjfohacibijnoaaW.PrintWords
theorem Lst.cell {w : World} {ad : Addr} {n c : Nat} {L : List ByteArray} (h : Lst w (.slice (some ad) n c) L) (i : Nat) (hi : i < L.length) : w.cell? (ad.add i) = some (.string L[i]) := by
  obtain ⟨A, c', e, _, h2⟩ := h
  cases e
  obtain ⟨ad', e', hc⟩ := C_str h2 i hi
  cases e'
  exact hc
theorem Sc.did {w w' : World} {b c : Nat} {v lv : Value} {L L' : List ByteArray} {x y x' y' : Int} (h : Sc w b c v L x y lv) (d : Did w b c v w' L' x' y') : Lst w' lv L := by
  obtain ⟨v', a, m, o⟩ := d
  exact h.lst.same fun k hk => m.block k (h.own k hk).1 (h.own k hk).2
theorem Opc.did {w w' : World} {g : Nat} {K N M Y : Int} {T : ByteArray} {b c : Nat} {v : Value} {L' : List ByteArray} {x' y' : Int} (h : Opc w g K N M Y T) (hg : ¬ Foot b c v g) (d : Did w b c v w' L' x' y') : Opc w' g K N M Y T := by
  obtain ⟨v', a, m, o⟩ := d
  exact h.same (m.block g h.blk.lt hg)
end Go.Proofs.Ytjfohacibijnoaa.Net
