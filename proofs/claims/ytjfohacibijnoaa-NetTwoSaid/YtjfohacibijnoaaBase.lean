/- Words for the net's memory: its block, its channel, the row of messages; and what may have changed. -/
import Derived.Test.YtjfohacibijnoaaShelf
import Derived.Test.YtjfohacibijnoaaComm
import Derived.Test.YtjfohacibijnoaaWMore
import Derived.Laws.OwnMore
import Derived.Lib.Hide
namespace Go.Proofs.Ytjfohacibijnoaa.Net
open Go.RowKit Go.Proofs.YtjfohacibijnoaaW.PrintWords

/-- a block of cells, none of them frozen -/
def Blk (w : World) (b : Nat) (cs : Array Value) (t : TypeId) : Prop := w.heap[b]? = some (.cells cs t (0, 0))
theorem Blk.cell {w : World} {b : Nat} {cs : Array Value} {t : TypeId} (h : Blk w b cs t) (i : Nat) : w.cell? ⟨b, i, none⟩ = cs[i]? := by
  unfold Blk at h; simp [World.cell?, h]
theorem Blk.free {w : World} {b : Nat} {cs : Array Value} {t : TypeId} (h : Blk w b cs t) (i : Nat) : w.frozen? ⟨b, i, none⟩ = false := by
  unfold Blk at h; simp [World.frozen?, h]
theorem Blk.drewN {w : World} {b : Nat} {cs : Array Value} {t : TypeId} (h : Blk w b cs t) (n : Nat) : Blk (w.drewN n) b cs t := h
theorem Blk.lt {w : World} {b : Nat} {cs : Array Value} {t : TypeId} (h : Blk w b cs t) : b < w.heap.size := (Array.getElem?_eq_some_iff.1 h).1
theorem Blk.set {w : World} {b : Nat} {cs : Array Value} {t : TypeId} (h : Blk w b cs t) (i : Nat) (v : Value) : Blk (w.setCell ⟨b, i, none⟩ v) b (cs.setIfInBounds i v) t := by
  unfold Blk at h ⊢; simp [World.setCell, Array.getElem?_modify, h]
theorem Blk.same {w w' : World} {b : Nat} {cs : Array Value} {t : TypeId} (h : Blk w b cs t) (e : w'.heap[b]? = w.heap[b]?) : Blk w' b cs t := by
  unfold Blk at h ⊢; rw [e]; exact h
theorem Blk.new (w : World) (cs : Array Value) (t : TypeId) : Blk (w.alloc (.cells cs t)) w.heap.size cs t := by
  unfold Blk World.alloc; simp
theorem heap_setCell_ne (w : World) (a : Addr) (v : Value) (k : Nat) (h : k ≠ a.block) : (w.setCell a v).heap[k]? = w.heap[k]? := Below.heap_setCell w a v k h

/-- of what was there, nothing but the blocks of S may have changed -/
structure Mod (S : Nat → Prop) (w w' : World) : Prop where
  os : w'.os = w.os
  tape : w'.tape = w.tape
  output : w'.output = w.output
  size : w.heap.size ≤ w'.heap.size
  block : ∀ k, k < w.heap.size → ¬ S k → w'.heap[k]? = w.heap[k]?
namespace Mod
variable {S T : Nat → Prop} {a c d w w' : World}
theorem refl (S : Nat → Prop) (w : World) : Mod S w w := ⟨rfl, rfl, rfl, Nat.le_refl _, fun _ _ _ => rfl⟩
theorem trans (h : Mod S a c) (k : Mod S c d) : Mod S a d :=
  ⟨k.os.trans h.os, k.tape.trans h.tape, k.output.trans h.output, Nat.le_trans h.size k.size, fun i hi hs => (k.block i (Nat.lt_of_lt_of_le hi h.size) hs).trans (h.block i hi hs)⟩
/-- a later step may also change what is new -/
theorem trans' (h : Mod S a c) (k : Mod T c d) (hT : ∀ i, T i → S i ∨ a.heap.size ≤ i) : Mod S a d :=
  ⟨k.os.trans h.os, k.tape.trans h.tape, k.output.trans h.output, Nat.le_trans h.size k.size, fun i hi hs => (k.block i (Nat.lt_of_lt_of_le hi h.size) (fun ht => (hT i ht).elim hs (by omega))).trans (h.block i hi hs)⟩
theorem mono (h : Mod S a c) (hS : ∀ i, S i → T i) : Mod T a c := ⟨h.os, h.tape, h.output, h.size, fun i hi hs => h.block i hi (fun x => hs (hS i x))⟩
theorem drewN (h : Mod S a w) (n : Nat) : Mod S a (w.drewN n) := ⟨h.os, h.tape, h.output, h.size, h.block⟩
theorem drew (h : Mod S a w) : Mod S a w.drew := ⟨h.os, h.tape, h.output, h.size, h.block⟩
theorem alloc (h : Mod S a w) (o : Obj) : Mod S a (w.alloc o) :=
  h.trans ⟨rfl, rfl, rfl, by simp, fun k hk _ => Below.heap_alloc _ _ _ hk⟩
theorem set (h : Mod S a w) {p : Addr} (hp : S p.block) (v : Value) : Mod S a (w.setCell p v) :=
  h.trans ⟨rfl, rfl, rfl, by simp [World.setCell], fun k _ hs => Below.heap_setCell _ _ _ _ (fun e => hs (e ▸ hp))⟩
theorem setNew (h : Mod S a w) {p : Addr} (hp : a.heap.size ≤ p.block) (v : Value) : Mod S a (w.setCell p v) :=
  h.trans' (T := fun i => i = p.block) ⟨rfl, rfl, rfl, by simp [World.setCell], fun k _ hs => Below.heap_setCell _ _ _ _ hs⟩ (fun i hi => .inr (hi ▸ hp))
theorem ofDrawn (h : Drawn0 w w') : Mod S w w' := by obtain ⟨n, rfl⟩ := h; exact (refl S w).drewN n
theorem ofBelow (h : Below w.heap.size w w') : Mod S w w' := ⟨h.os, h.tape, h.output, h.size, fun k hk _ => h.block k hk⟩
theorem below {B : Nat} (h : Mod S w w') (hB : ∀ k, S k → B ≤ k) (hs : B ≤ w.heap.size) : Below B w w' :=
  ⟨h.os, h.tape, h.output, h.size, fun k hk => h.block k (by omega) (fun x => by have := hB k x; omega)⟩
theorem grown {row : Option Nat} (hg : w.grownBy w' row) (hr : ∀ k, row = some k → S k) : Mod S w w' :=
  ⟨hg.os, hg.tape, hg.output, hg.size, fun k hk hs => hg.block k hk (fun e => hs (hr k e.symm))⟩
end Mod

/-- a slice of strings at the head of its own row -/
def Strs (w : World) (v : Value) (L : List ByteArray) : Prop := w.ownsRow 0 9 1 v L.length (L.map Value.string)
theorem Strs.nil (w : World) : Strs w (.slice none 0 0) [] := ⟨rfl, .inl ⟨rfl, rfl⟩⟩
theorem Strs.same {w w' : World} {v : Value} {L : List ByteArray} (h : Strs w v L) (e : ∀ k, v.ownBlock = some k → w'.heap[k]? = w.heap[k]?) : Strs w' v L := own_move h e
theorem Strs.lt {w : World} {v : Value} {L : List ByteArray} (h : Strs w v L) (k : Nat) (hk : v.ownBlock = some k) : k < w.heap.size := own_lt h k hk
theorem Strs.form {w : World} {v : Value} {L : List ByteArray} (h : Strs w v L) : ∃ A c, v = .slice A L.length c ∧ L.length ≤ c ∧ L.length ≤ 9223372036854775807 := by
  rcases h.2 with ⟨rfl, h0⟩ | ⟨g, cap, cur, rfl, _, _, h2, h3, _⟩
  · exact ⟨none, 0, by rw [h0], by omega, by omega⟩
  · exact ⟨_, cap, rfl, h2, by simp only [maxLen] at h3; omega⟩
/-- with an element in it: its row -/
theorem Strs.row {w : World} {v : Value} {L : List ByteArray} (h : Strs w v L) (h0 : 0 < L.length) :
    ∃ g cap cur, v = .slice (some ⟨g, 0, none⟩) L.length cap ∧ Blk w g cur 9 ∧ L.length ≤ cap ∧ cap ≤ 9223372036854775807 ∧ cur.size = cap ∧ ∀ i (hi : i < L.length), cur[i]? = some (.string L[i]) := by
  rcases h.2 with ⟨rfl, h1⟩ | ⟨g, cap, cur, rfl, _, hb, h2, h3, h4, h5⟩
  · omega
  · refine ⟨g, cap, cur, rfl, hb, h2, by simp only [maxLen] at h3; omega, by omega, fun i hi => ?_⟩
    have := congrArg (fun l => l[i]?) h5
    simp only [Nat.mul_one, List.getElem?_take, if_pos hi, Array.getElem?_toList, List.getElem?_map, List.getElem?_eq_getElem hi, Option.map_some] at this
    exact this
theorem Strs.of {w : World} {g cap : Nat} {cur : Array Value} {L : List ByteArray} (hb : Blk w g cur 9) (h2 : L.length ≤ cap) (h3 : cap ≤ 9223372036854775807) (h4 : cur.size = cap)
    (h5 : ∀ i (hi : i < L.length), cur[i]? = some (.string L[i])) : Strs w (.slice (some ⟨g, 0, none⟩) L.length cap) L := by
  refine ⟨by simp, .inr ⟨g, cap, cur, rfl, Nat.zero_le _, hb, h2, by simp only [maxLen]; omega, by omega, ?_⟩⟩
  apply List.ext_getElem?
  intro i
  by_cases hi : i < L.length
  · rw [Nat.mul_one, List.getElem?_take, if_pos hi, Array.getElem?_toList, h5 i hi]; simp [hi]
  · rw [Nat.mul_one, List.getElem?_take, if_neg hi]
    exact (List.getElem?_eq_none (by rw [List.length_map]; omega)).symm

theorem Value.ownBlock_some (g n c : Nat) : (Value.slice (some ⟨g, 0, none⟩) n c).ownBlock = some g := rfl


def bytesOf (s : ByteArray) : List UInt8 := s.data.toList
open Go.Sort in
/-- slices.Delete of one element of such a slice -/
theorem delete_own (v : Value) (L : List ByteArray) (i : Nat) (w : World) (hs : Strs w v L) (hi : i < L.length) :
    Calls Try.prog 22 #[v, .int .i64 i, .int .i64 ((i + 1 : Nat) : Int)] w fun e w' => ∃ v', e = .returned v' ∧ v'.ownBlock = v.ownBlock ∧ Hid (Strs w' v' (L.eraseIdx i)) ∧ Hid (Mod (fun k => some k = v.ownBlock) w w') := by
  obtain ⟨g, cap, cur, rfl, hb, h2, h3, h4, h5⟩ := hs.row (by omega)
  have hz : (L.map bytesOf).length = L.length := by simp
  have hH : Holds encStr w g 0 (L.map bytesOf).toArray := by
    intro j hj
    have hj' : j < L.length := by simpa using hj
    rw [Nat.zero_add, Blk.cell hb, Blk.free hb, h5 j hj', getElem!_pos _ j hj]
    simp [encStr, bytesOf]
  have h := Try.slices_Delete_string g 0 cap i (i + 1) (L.map bytesOf) w hH (by omega) h3 (by omega) (by omega)
  rw [hz] at h
  refine h.mono fun e w' ⟨he, q, hw⟩ => ⟨_, he, rfl, ?_, ?_⟩
  · have hlen : (L.eraseIdx i).length = L.length - 1 := by rw [List.length_eraseIdx_of_lt hi]
    have e1 : L.length - (i + 1 - i) = (L.eraseIdx i).length := by rw [hlen]; omega
    rw [e1]
    have hb' : w'.heap[g]? = some (.cells (putCells encStr 0 ((L.map bytesOf).take i ++ (L.map bytesOf).drop (i + 1) ++ List.replicate (i + 1 - i) []).toArray cur) 9 (0, 0)) := by
      unfold Blk at hb
      rw [hw]
      show ((w.heap.modify g (onCells _)))[g]? = _
      rw [Array.getElem?_modify, if_pos rfl, hb]
      rfl
    refine Strs.of hb' (by omega) h3 (by rw [← h4]; unfold putCells; simp) (fun j hj => ?_)
    have hj2 : j < cur.size := by omega
    have hd : (L.map bytesOf).take i ++ (L.map bytesOf).drop (i + 1) ++ List.replicate (i + 1 - i) [] = (L.eraseIdx i).map bytesOf ++ List.replicate (i + 1 - i) [] := by
      rw [List.eraseIdx_eq_take_drop_succ, List.map_append, List.map_take, List.map_drop]
    rw [hd]
    have hj3 : j < ((L.eraseIdx i).map bytesOf ++ List.replicate (i + 1 - i) []).toArray.size := by simp; omega
    unfold putCells
    rw [Array.getElem?_mapIdx, Array.getElem?_eq_getElem hj2, Option.map_some, if_pos ⟨Nat.zero_le _, by omega⟩, Nat.sub_zero, getElem!_pos _ j hj3]
    simp [encStr, bytesOf, List.getElem_append_left, hj]
  · rw [hw]
    refine ⟨rfl, rfl, rfl, by simp, fun k hk hne => ?_⟩
    have hne' : k ≠ g := fun e => hne (by rw [e]; rfl)
    simp only [putRow, mapBlock, Array.getElem?_modify, if_neg (fun e : g = k => hne' e.symm)]
    rfl

end Go.Proofs.Ytjfohacibijnoaa.Net
