/- A strings.Builder in a block of its own: writing a text into it. A number's bytes: how many there are at most. A list of states that came in, opened: what its datum says of memory, for whatever kind of state. Calls and messages that came in, opened. A tree's image: whether there is one. -/
import Derived.Test.YtcbecbalhnomcaaGreatDoorShBuild
import Derived.Test.YtcbecbalhnomcaaGreatDoorCoA
import Derived.Laws.OwnMore
import Derived.Test.YtcbecbalhnomcaaGreatDoorWMore
import Derived.Deep.Slices
import Derived.Deep.Strs
import Derived.ChangeArms
namespace Go.Proofs.YtcbecbalhnomcaaGreatDoor.Build
open Go.RowKit Go.Proofs.YtcbecbalhnomcaaGreatDoorW.PrintWords

set_option maxHeartbeats 1000000 in
set_option maxRecDepth 100000 in
theorem check_used (b : Nat) (w : World) (h0 : w.cell? ⟨b, 0, none⟩ = some (.pointer (some ⟨b, 0, none⟩))) :
    Calls Tryz.prog 119 #[.pointer (some ⟨b, 0, none⟩)] w fun e w' => e = .returned (.tuple #[]) ∧ w' = w := by
  obtain ⟨j, hj, _⟩ := Option.map_eq_some_iff.1 (Tryz.Builder_Extra_169).toX72.sizeBuilder
  go_enter Tryz.func119, Tryz.ntmps119
  go_wp2
  rw [Lib.run_neq_ptr_same w _ Tryz.underlying155 hj]
  go_wp2
  go_end0
  exact ⟨rfl, rfl⟩
set_option maxHeartbeats 1000000 in
set_option maxRecDepth 100000 in
theorem check_fresh (b : Nat) (w : World) (h0 : w.cell? ⟨b, 0, none⟩ = some (.pointer none)) (hsh : w.shape? b = some (157, 2)) (hfz : w.frozen? ⟨b, 0, none⟩ = false) :
    Calls Tryz.prog 119 #[.pointer (some ⟨b, 0, none⟩)] w fun e w' => e = .returned (.tuple #[]) ∧ w' = w.setCell ⟨b, 0, none⟩ (.pointer (some ⟨b, 0, none⟩)) := by
  obtain ⟨j, hj, hjs⟩ := Option.map_eq_some_iff.1 (Tryz.Builder_Extra_169).toX72.sizeBuilder
  go_enter Tryz.func119, Tryz.ntmps119
  go_wp2
  rw [Lib.run_to_unsafe w ⟨b, 0, none⟩ Tryz.underlying155 Tryz.underlying198 hj (by rw [hjs]; decide) hsh (Nat.zero_lt_succ 1)]
  simp only [Result.andThen]
  rw [Oper.upon_value]
  go_wp2
  rw [run_callFunc_extern Tryz.func134 (by kernel_rfl) (by kernel_rfl) (by kernel_rfl) (e := Extern.AbiNoEscape.same) (by kernel_rfl)]
  rw [Lib.run_noEscape]
  simp only [Result.andThen]
  rw [Oper.upon_value]
  go_wp2
  rw [Lib.run_from_unsafe w ⟨b, 0, none⟩ Tryz.underlying198 Tryz.underlying155 hj hsh (Tryz.Builder_Extra_169).toX72.liesBuilder]
  simp only [Result.andThen]
  rw [Oper.upon_value]
  go_wp2
  go_end0
  exact ⟨rfl, rfl⟩
/-- blocks that are no bytes and no builder are as they were -/
def Keep (w w' : World) : Prop := ∀ k cs t, Co.Blk w k cs t → t ≠ 5 → t ≠ 157 → Co.Blk w' k cs t
theorem Keep.refl (w : World) : Keep w w := fun _ _ _ h _ _ => h
theorem Keep.trans {a c d : World} (h : Keep a c) (k : Keep c d) : Keep a d := fun i cs t hb h5 h157 => k i cs t (h i cs t hb h5 h157) h5 h157
theorem Keep.below {w w' : World} (h : Below w.heap.size w w') : Keep w w' := fun i _ _ hb _ _ => hb.same (h.block i hb.lt)
theorem Keep.set {w : World} {b i : Nat} {cells : Array Value} (h : w.heap[b]? = some (.cells cells 157 (0, 0))) (v : Value) : Keep w (w.setCell ⟨b, i, none⟩ v) := fun _ _ _ hb _ h157 =>
  hb.same (Below.heap_setCell _ _ _ _ (Co.Blk.ne hb h h157))
theorem Keep.grown {w w' : World} {base n : Nat} {v : Value} {xs : List Value} (ho : w.ownsRow base 5 1 v n xs) (h : w.grownBy w' v.ownBlock) : Keep w w' := fun k _ _ hb h5 _ =>
  hb.same (h.block k hb.lt (fun e => by
    obtain ⟨cells, hc⟩ := own_typed ho k e.symm
    unfold Co.Blk at hb
    rw [hb] at hc
    injection hc with hc
    injection hc with _ hc
    exact h5 hc))
theorem check_calls (B b : Nat) (bs : List Value) (w : World) (h : Lib.IsBuilder 157 5 B b bs w) :
    Calls Tryz.prog 119 #[.pointer (some ⟨b, 0, none⟩)] w fun e w' => e = .returned (.tuple #[]) ∧ (Lib.BuilderAt 157 5 B b (.pointer (some ⟨b, 0, none⟩)) bs w' ∧ Below B w w' ∧ Keep w w') := by
  rcases h with h | h
  · refine (check_fresh b w h.cell0 h.shape h.frozen0).mono ?_
    rintro e w' ⟨rfl, rfl⟩
    exact ⟨rfl, h.used _, (Below.refl B w).setCell (p := ⟨b, 0, none⟩) h.1 _, by obtain ⟨_, _, hb, _⟩ := h; exact Keep.set hb _⟩
  · refine (check_used b w h.cell0).mono ?_
    rintro e w' ⟨rfl, rfl⟩
    exact ⟨rfl, h, Below.refl B _, Keep.refl _⟩
set_option maxHeartbeats 2000000 in
set_option maxRecDepth 100000 in
theorem write_calls (B b : Nat) (bs : List Value) (s : ByteArray) (w : World) (h : Lib.IsBuilder 157 5 B b bs w) (hlen : bs.length + s.size ≤ 140737488355328) (hBw : B ≤ w.heap.size) :
    Calls Tryz.prog 99 #[.pointer (some ⟨b, 0, none⟩), .string s] w fun e w' => e = .returned (.tuple #[.int .i64 s.size, .nilIface]) ∧ Hid (Lib.IsBuilder 157 5 B b (bs ++ Lib.strCells s) w' ∧ Below B w w' ∧ Keep w w') := by
  obtain ⟨i0, hi, hz0, hz1, hz2⟩ := info_parts (Tryz.Builder_Extra_169).infoByte
  have hcc := check_calls B b bs w h
  go_enter Tryz.func99, Tryz.ntmps99
  go_wp2_with (go_at_call 119; refine hcc.mono ?_)
  rintro e w1 ⟨rfl, h1, hb1, hkk⟩
  obtain ⟨hB, v, hbk, hown, hne⟩ := h1
  have c0 : w1.cell? ⟨b, 0, none⟩ = some (.pointer (some ⟨b, 0, none⟩)) := by rw [Lib.cell_of_heap hbk]; rfl
  have c1 : w1.cell? ⟨b, 1, none⟩ = some v := by rw [Lib.cell_of_heap hbk]; rfl
  go_wp2_with (at_builtin; refine Lib.wpList_append_own_string _ rfl _ _ 152 9 rfl B 5 i0 Tryz.underlying152 Tryz.underlying9 hi hz0 hz1 hz2 _ _ _ rfl hown s rfl ?c3 ?c4 ?c5 ?_)
  case c3 => unfold maxLen; omega
  case c4 => omega
  case c5 => have := hb1.size; omega
  intro v' w2 hown' hgrow _
  have hlt : b < w1.heap.size := by
    rcases Nat.lt_or_ge b w1.heap.size with h' | h'
    · exact h'
    · simp [Array.getElem?_eq_none h'] at hbk
  have hb2 : w2.heap[b]? = some (.cells #[.pointer (some ⟨b, 0, none⟩), v] 157 (0, 0)) := by
    rw [hgrow.block b hlt (fun e => hne e.symm)]
    exact hbk
  have d0 : w2.cell? ⟨b, 0, none⟩ = some (.pointer (some ⟨b, 0, none⟩)) := by rw [Lib.cell_of_heap hb2]; rfl
  have d1 : w2.cell? ⟨b, 1, none⟩ = some v := by rw [Lib.cell_of_heap hb2]; rfl
  have f1 : w2.frozen? ⟨b, 1, none⟩ = false := Lib.frozen_of_heap hb2 1
  obtain ⟨ao, n', cap, rfl⟩ : ∃ ao n' cap, v' = .slice ao n' cap := by
    rcases hown'.2 with ⟨hv, _⟩ | ⟨g, cap, cur, hv, _⟩
    · exact ⟨_, _, _, hv⟩
    · exact ⟨_, _, _, hv⟩
  go_wp2
  go_ret2
  refine ⟨rfl, Or.inr ?_, ?_, (hkk.trans (Keep.grown hown hgrow)).trans (Keep.set hb2 _)⟩
  · exact Lib.BuilderAt.put (T := 157) (e := 5) hB hb2 (bs' := bs ++ Lib.strCells s) (by simpa [Lib.strCells_length] using hown') (by decide)
  · exact (hb1.grown hgrow (by have := hb1.size; omega) (fun k hk => (hown.lt k hk).1)).setCell (p := ⟨b, 1, none⟩) hB _
end Go.Proofs.YtcbecbalhnomcaaGreatDoor.Build
namespace Go.Proofs.YtcbecbalhnomcaaGreatDoor.Build
open Go.RowKit Go.Proofs.YtcbecbalhnomcaaGreatDoorW.PrintWords

/-- a row of bytes of one's own -/
def Bys (w : World) (base : Nat) (v : Value) (n : Nat) : Prop := ∃ cs : List Int, w.ownsRow base 5 1 v n (nums .u8 cs) ∧ cs.length = n
theorem num_bad (n : Int) (w : World) (h : n < 0 ∨ n > 4611686018427387903) : Calls Tryz.prog 98 #[.int .i64 n] w fun e w' => e = .returned (.tuple #[.string ⟨#[]⟩, .int .i64 2]) ∧ w = w' := by
  by_cases h1 : n < 0
  · go_enter Tryz.func98, Tryz.ntmps98
    go_wp2
    go_ret2
    exact ⟨rfl, rfl⟩
  · have h2 : n > 4611686018427387903 := by omega
    go_enter Tryz.func98, Tryz.ntmps98
    go_wp2
    go_ret2
    exact ⟨rfl, rfl⟩
set_option maxHeartbeats 2000000 in
set_option maxRecDepth 100000 in
theorem num_calls (n : Nat) (w : World) (h : n ≤ 4611686018427387903) : Calls Tryz.prog 98 #[.int .i64 n] w fun e w' => ∃ s, e = .returned (.tuple #[.string s, .int .i64 0]) ∧ Hid (s.size ≤ 10 ∧ Below w.heap.size w w') := by
  have h1 : ¬ (n : Int) < 0 := by omega
  have h2 : ¬ (n : Int) > 4611686018427387903 := by omega
  have B0 : Hid (Below w.heap.size w w) := Below.refl _ _
  have R0 : Hid (Bys w w.heap.size (.slice none 0 0) 0) := ⟨[], own_nil _ _ _ _, rfl⟩
  go_enter Tryz.func98, Tryz.ntmps98
  go_upto_region 4 with (fail)
  go_loopw [0, 4] (fun x v wr => ∃ (m k : Nat) (vv : Value), vv = v ∧ m * 128 ^ k ≤ 4611686018427387903 ∧ k ≤ 9 ∧ x = .int .i64 m ∧ Hid (Bys wr w.heap.size vv k) ∧ Hid (Below w.heap.size w wr)) (fun x _ _ => (intOf x).toNat)
  case atStart => exact ⟨n, 0, _, rfl, by omega, by omega, rfl, R0, B0⟩
  case round =>
    obtain ⟨m, k, v, rfl, hm, hk, rfl, row, bel⟩ := hrel
    clear R0 B0
    obtain ⟨cs, row, hcs⟩ := row.out
    by_cases hlt : (m : Int) > 127
    · have hk8 : k ≤ 8 := by
        rcases Nat.lt_or_ge k 9 with h | h
        · omega
        · obtain rfl : k = 9 := by omega
          have : 128 * 128 ^ 9 ≤ m * 128 ^ 9 := Nat.mul_le_mul_right _ (by omega)
          have e : (128 * 128 ^ 9 : Nat) = 1180591620717411303424 := by decide
          omega
      have hm' : Hid (m / 128 * 128 ^ (k + 1) ≤ 4611686018427387903) := by
        show _ ≤ _
        refine Nat.le_trans ?_ hm
        rw [Nat.pow_succ, Nat.mul_comm (128 ^ k) 128, ← Nat.mul_assoc]
        exact Nat.mul_le_mul_right _ (Nat.div_mul_le_self m 128)
      have ROW : Hid (wr.ownsRow w.heap.size 5 1 v cs.length (nums .u8 cs)) := by rw [hcs]; exact row
      have HC : Hid (cs.length = k) := hcs
      have hml : m ≤ 4611686018427387903 := Nat.le_trans (Nat.le_mul_of_pos_right m (Nat.pow_pos (by decide))) hm
      clear row hcs hm
      obtain ⟨A, c, rfl⟩ := own_slice ROW.out
      go_upto_region 6 with (
        (with_reducible refine gate_builtin (b := .append) (xs := #[.tmp 13, .tmp 18]) rfl ?_); at_builtin
        refine print_append_num (w0 := w) w.heap.size rfl (.tmp 13) (.tmp 18) 152 5 .u8 1 rfl Tryz.underlying152 (by kernel_rfl) (by decide) _ cs _ rfl rfl ROW.out bel.out bel.out.size (by have := HC.out; omega) ?_
        intro v1 w1 ho hb hg hat
        have R1 : Hid (Bys w1 w.heap.size v1 (k + 1)) := by (rw [← HC.out]; exact ⟨_, by simpa using ho, by simp⟩)
        have B1 : Hid (Below w.heap.size w w1) := hb
        clear ho hb hg hat)
      go_wp2
      go_roundw
      case rel => exact ⟨m / 128, k + 1, v1, rfl, hm'.out, by omega, by simp, R1, B1⟩
      case measure => simp [intOf]; omega
    · have ROW : Hid (wr.ownsRow w.heap.size 5 1 v cs.length (nums .u8 cs)) := by rw [hcs]; exact row
      have HC : Hid (cs.length = k) := hcs
      have HK : Hid (k ≤ 9) := hk
      clear row hcs hm hk
      obtain ⟨A, c, rfl⟩ := own_slice ROW.out
      go_wp2_with (
        (with_reducible refine gate_builtin (b := .append) (xs := #[.tmp 22, .tmp 25]) rfl ?_); at_builtin
        refine print_append_num (w0 := w) w.heap.size rfl (.tmp 22) (.tmp 25) 152 5 .u8 1 rfl Tryz.underlying152 (by kernel_rfl) (by decide) _ cs _ rfl rfl ROW.out bel.out bel.out.size (by have := HC.out; have := HK.out; omega) ?_
        intro v1 w1 ho hb hg hat
        have hcv := own_string (P := Tryz.prog) Tryz.underlying152 Tryz.underlying5 Tryz.underlying9 ho
        have B1 : Hid (Below w.heap.size w w1) := hb
        clear ho hb hg hat)
      go_ret2
      refine ⟨_, rfl, ?_, B1.out⟩
      have := HC.out
      have := HK.out
      rw [strOfNums_size]
      simp
      omega
end Go.Proofs.YtcbecbalhnomcaaGreatDoor.Build
namespace Go.Proofs.YtcbecbalhnomcaaGreatDoor.Opens
open Go.RowKit Go.Deep Go.ChangeShapes Go.WideShapes Go.Proofs.YtcbecbalhnomcaaGreatDoorW.PrintWords

section
variable {H : Type} {enc : TypeId × Value → H} {P : Program} {w : World} {base : Nat} {spare : Nat → Bool} {held : Bool} {α β γ : Type}

/-- what reads as a datum of type t is known as d knows it, and is as Q says -/
def Opens (enc : TypeId × Value → H) (P : Program) (w : World) (base : Nat) (spare : Nat → Bool) (held : Bool) (t : TypeId) (d : Kd α) (Q : α → Prop) : Prop :=
  ∀ fuel cs x, DataW.trod enc P w base spare held fuel t cs = some x → ∃ a, d.K w a cs ∧ Q a

theorem opens_int {t : TypeId} (k : IntKind) (ht : P.underlying t = some (.int k)) : Opens enc P w base spare held t (Kd.int k) (fun n => (Lit.int k n).wf = true) := by
  intro fuel cs x h
  obtain ⟨n, rfl, _, hw⟩ := DataW.trod_int ht h
  exact ⟨n, rfl, hw⟩
theorem opens_string {t : TypeId} (ht : P.underlying t = some .string) : Opens enc P w base spare held t Kd.string (fun s => s.size ≤ maxLen) := by
  intro fuel cs x h
  obtain ⟨s, rfl, _, hw⟩ := DataW.trod_string ht h
  exact ⟨s, rfl, hw⟩
theorem opens_bool {t : TypeId} (ht : P.underlying t = some .bool) : Opens enc P w base spare held t Kd.bool (fun _ => True) := by
  intro fuel cs x h
  obtain ⟨s, rfl, _⟩ := DataW.trod_bool ht h
  exact ⟨s, rfl, trivial⟩
theorem opens_iso {t : TypeId} {d : Kd α} {Q : α → Prop} (f : β → α) (hf : ∀ a, ∃ x, f x = a) (h : Opens enc P w base spare held t d Q) : Opens enc P w base spare held t (Kd.iso d f) (fun x => Q (f x)) := by
  intro fuel cs x hx
  obtain ⟨a, hk, hq⟩ := h fuel cs x hx
  obtain ⟨b, rfl⟩ := hf a
  exact ⟨b, hk, hq⟩

/-- the cells of the elements of a slice -/
theorem row_C {t e : TypeId} {d : Kd α} {Q : α → Prop} [Inhabited α] (ht : P.underlying t = some (.slice e)) (hc : P.cellsOf e = d.sz) (h : Opens enc P w base spare held e d Q)
    {fuel : Nat} {cs : List Value} {x : DataW H × List MemPlace} (hx : DataW.trod enc P w base spare held fuel t cs = some x) :
    ∃ A c l, cs = [.slice A l.length c] ∧ l.length ≤ c ∧ d.C w A l.length l ∧ ∀ a ∈ l, Q a := by
  rcases open_slice ht hx with ⟨rfl, _⟩ | ⟨a, len, cap, m, n, D, Pl, rfl, _, hl, hm, hmm, _, hel⟩
  · exact ⟨none, 0, [], rfl, Nat.le_refl _, ⟨rfl, by simp, fun h0 => absurd h0 (by simp)⟩, by simp⟩
  · have hlm : len ≤ m := by rw [hmm]; split <;> omega
    obtain ⟨f, hf⟩ := choose_lt (α := α) (p := fun i v => ∃ cs', w.cells? base (a.add (i * P.cellsOf e)) (P.cellsOf e) = some cs' ∧ d.K w v cs' ∧ Q v) (n := m) (fun i hi => by
      obtain ⟨cs', h1, h2⟩ := hel i hi
      obtain ⟨v, hk, hq⟩ := h _ _ _ h2
      exact ⟨v, cs', h1, hk, hq⟩)
    refine ⟨some a, cap, (List.range len).map f, by simp, by simpa using hl, ⟨rfl, by simp only [maxLen] at hm; simp; omega, fun _ => ⟨a, rfl, fun j p hj => ?_⟩⟩, ?_⟩
    · obtain ⟨hjl, hp⟩ : j < len ∧ f j = p := by
        rw [List.getElem?_map] at hj
        cases hr : (List.range len)[j]? with
        | none => rw [hr] at hj; cases hj
        | some q =>
          rw [hr] at hj
          obtain ⟨h1, h2⟩ := List.getElem?_eq_some_iff.1 hr
          simp at h1 h2
          subst h2
          exact ⟨h1, by simpa using hj⟩
      subst hp
      obtain ⟨cs', h1, h2, _⟩ := hf j (by omega)
      obtain ⟨_, hlen, hcell⟩ := World.cells?_some h1
      refine ⟨cs', by rw [hlen, hc], h2, fun i u hu => ?_⟩
      have hi : i < P.cellsOf e := by rw [← hlen]; exact (List.getElem?_eq_some_iff.1 hu).1
      have := hcell i hi
      rw [Go.Deep.add_add, hc] at this
      rw [this, hu]
    · intro v hv
      rw [List.mem_map] at hv
      obtain ⟨j, hj, rfl⟩ := hv
      obtain ⟨_, _, _, hq⟩ := hf j (by have := List.mem_range.1 hj; omega)
      exact hq
theorem opens_slice {t e : TypeId} {d : Kd α} {Q : α → Prop} [Inhabited α] (ht : P.underlying t = some (.slice e)) (hc : P.cellsOf e = d.sz) (h : Opens enc P w base spare held e d Q) :
    Opens enc P w base spare held t (Kd.slice e d) (fun l => ∀ a ∈ l, Q a) := by
  intro fuel cs x hx
  obtain ⟨A, c, l, rfl, h1, h2, h3⟩ := row_C ht hc h hx
  exact ⟨l, ⟨A, c, rfl, h1, h2⟩, h3⟩

/-- the fields of a struct from some cell on -/
def FOpens (enc : TypeId × Value → H) (P : Program) (w : World) (base : Nat) (spare : Nat → Bool) (held : Bool) (fs : List Field) (o : Nat) (d : Kd α) (Q : α → Prop) : Prop :=
  ∀ (n : Nat) (cs : List Value), (∀ f ∈ fs, ∃ y, DataW.trod enc P w base spare held n f.type ((cs.drop f.offset).take (P.cellsOf f.type)) = some y) → cs.length = o + d.sz → ∃ a, d.K w a (cs.drop o) ∧ Q a
theorem fopens_last {f : Field} {o : Nat} {d : Kd α} {Q : α → Prop} (ho : f.offset = o) (hc : P.cellsOf f.type = d.sz) (h : Opens enc P w base spare held f.type d Q) : FOpens enc P w base spare held [f] o d Q := by
  intro n cs hf hl
  obtain ⟨y, hy⟩ := hf f (List.mem_singleton.2 rfl)
  obtain ⟨a, ka, qa⟩ := h _ _ _ hy
  rw [ho, hc, List.take_of_length_le (by rw [List.length_drop]; omega)] at ka
  exact ⟨a, ka, qa⟩
theorem fopens_cons {f : Field} {fs : List Field} {o : Nat} {d0 : Kd α} {d1 : Kd β} {Q0 : α → Prop} {Q1 : β → Prop} (ho : f.offset = o) (hc : P.cellsOf f.type = d0.sz) (h : Opens enc P w base spare held f.type d0 Q0)
    (hr : FOpens enc P w base spare held fs (o + d0.sz) d1 Q1) : FOpens enc P w base spare held (f :: fs) o (Kd.pair d0 d1) (fun x => Q0 x.1 ∧ Q1 x.2) := by
  intro n cs hf hl
  have hl' : cs.length = o + (d0.sz + d1.sz) := hl
  obtain ⟨y, hy⟩ := hf f (List.mem_cons_self ..)
  obtain ⟨a, ka, qa⟩ := h _ _ _ hy
  rw [ho, hc] at ka
  obtain ⟨b, kb, qb⟩ := hr n cs (fun g hg => hf g (List.mem_cons_of_mem _ hg)) (by omega)
  refine ⟨(a, b), ⟨_, _, ?_, ka, kb⟩, qa, qb⟩
  rw [← List.drop_drop, List.take_append_drop]
theorem opens_struct {t : TypeId} {fs : Array Field} {d : Kd α} {Q : α → Prop} (ht : P.underlying t = some (.struct fs)) (hc : P.cellsOf t = d.sz) (h : FOpens enc P w base spare held fs.toList 0 d Q) : Opens enc P w base spare held t d Q := by
  intro fuel cs x hx
  obtain ⟨xs, n, _, _, hl, hlen, hf⟩ := DataW.trod_struct ht hx
  obtain ⟨a, ka, qa⟩ := h n cs (fun f hm => by
    obtain ⟨i, hi, e⟩ := List.mem_iff_getElem.1 hm
    have hi' : i < fs.size := by simpa using hi
    have h1 := hf i f (by rw [Array.getElem?_eq_getElem hi', ← e]; simp)
    rw [h1, List.getElem?_eq_getElem (by omega)]
    exact ⟨_, rfl⟩) (by omega)
  rw [List.drop_zero] at ka
  exact ⟨a, ka, qa⟩
end

section
variable {α β : Type} {w : World} {A : Option Addr} {n : Nat}
/-- the cells of the element at a place -/
theorem C_cells {d : Kd α} {l : List α} (h : d.C w A n l) (j : Nat) (hj : j < l.length) : ∃ ad cs, A = some ad ∧ d.K w l[j] cs ∧ ∀ i u, cs[i]? = some u → w.cell? ((ad.add (j * d.sz)).add i) = some u := by
  obtain ⟨ad, e, hc⟩ := h.2.2 (by have := h.1; omega)
  obtain ⟨cs, h1, h2, h3⟩ := hc j l[j] (List.getElem?_eq_getElem hj)
  refine ⟨ad, cs, e, by assumption, fun i u hu => ?_⟩
  rw [Go.Deep.add_add]
  exact h3 i u hu
end
end Go.Proofs.YtcbecbalhnomcaaGreatDoor.Opens
namespace Go.Proofs.YtcbecbalhnomcaaGreatDoor.Co
open Go.RowKit Go.ChangeShapes Go.WideShapes Go.Proofs.YtcbecbalhnomcaaGreatDoorW.PrintWords Go.Proofs.YtcbecbalhnomcaaGreatDoor.Opens

abbrev En : Type := Int × (Int × ByteArray)
def kEn : Kd En := Kd.pair (Kd.int .i64) (Kd.pair (Kd.int .i64) Kd.string)
abbrev Fi : Type := ByteArray × (Int × ByteArray)
abbrev Pa : Type := Int × (Int × ByteArray)
def kPa : Kd Pa := Kd.pair (Kd.int .i64) (Kd.pair (Kd.int .i64) Kd.string)
def kFi : Kd Fi := Kd.pair Kd.string (Kd.pair (Kd.int .i64) Kd.string)
/-- a list of files that is read -/
def Fs (w : World) (v : Value) (l : List Fi) : Prop := ∃ A c, v = .slice A l.length c ∧ l.length ≤ c ∧ Kd.C kFi w A l.length l
def Es (w : World) (v : Value) (l : List En) : Prop := ∃ A c, v = .slice A l.length c ∧ l.length ≤ c ∧ Kd.C kEn w A l.length l
section
variable {H : Type} {enc : TypeId × Value → H} {w : World} {base : Nat} {spare : Nat → Bool} {held : Bool}
theorem entry_opens : Opens enc Tryz.prog w base spare held 116 kEn (fun x => x.2.2.size ≤ maxLen) := by
  intro fuel cs x hx
  obtain ⟨a, k, _, _, q⟩ := opens_struct (d := kEn) Tryz.underlying116 (by kernel_rfl) (fopens_cons rfl (by kernel_rfl) (opens_int .i64 Tryz.underlying3) (fopens_cons rfl (by kernel_rfl) (opens_int .i64 Tryz.underlying3) (fopens_last rfl (by kernel_rfl) (opens_string Tryz.underlying9)))) fuel cs x hx
  exact ⟨a, k, q⟩
theorem file_opens : Opens enc Tryz.prog w base spare held 93 kFi (fun x => x.1.size ≤ maxLen ∧ (Lit.int .i64 x.2.1).wf = true ∧ x.2.2.size ≤ maxLen) := by
  intro fuel cs x hx
  exact opens_struct (d := kFi) Tryz.underlying93 (by kernel_rfl) (fopens_cons rfl (by kernel_rfl) (opens_string Tryz.underlying9) (fopens_cons rfl (by kernel_rfl) (opens_int .i64 Tryz.underlying3) (fopens_last rfl (by kernel_rfl) (opens_string Tryz.underlying9)))) fuel cs x hx
theorem entries_open {fuel : Nat} {cs : List Value} {x : DataW H × List MemPlace} (hx : DataW.trod enc Tryz.prog w base spare held fuel 25 cs = some x) :
    ∃ v l, cs = [v] ∧ Es w v l := by
  obtain ⟨A, c, l, e, h1, h2, _⟩ := row_C Tryz.underlying25 (by kernel_rfl) entry_opens hx
  exact ⟨_, l, e, A, c, rfl, h1, h2⟩
theorem files_open {fuel : Nat} {cs : List Value} {x : DataW H × List MemPlace} (hx : DataW.trod enc Tryz.prog w base spare held fuel 28 cs = some x) :
    ∃ v l, cs = [v] ∧ Fs w v l ∧ ∀ f ∈ l, f.1.size ≤ maxLen ∧ (Lit.int .i64 f.2.1).wf = true ∧ f.2.2.size ≤ maxLen := by
  obtain ⟨A, c, l, e, h1, h2, h3⟩ := row_C Tryz.underlying28 (by kernel_rfl) file_opens hx
  exact ⟨_, l, e, ⟨A, c, rfl, h1, h2⟩, h3⟩

theorem part_opens : Opens enc Tryz.prog w base spare held 24 kPa (fun x => (Lit.int .i64 x.1).wf = true ∧ (Lit.int .i64 x.2.1).wf = true ∧ x.2.2.size ≤ maxLen) := by
  intro fuel cs x hx
  exact opens_struct (d := kPa) Tryz.underlying24 (by kernel_rfl) (fopens_cons rfl (by kernel_rfl) (opens_int .i64 Tryz.underlying3) (fopens_cons rfl (by kernel_rfl) (opens_int .i64 Tryz.underlying3) (fopens_last rfl (by kernel_rfl) (opens_string Tryz.underlying9)))) fuel cs x hx
end
/-- a call that came in -/
structure KC (w : World) (k g : Int) (fs : Value) (l : List Fi) : Prop where
  kind : (Lit.int .i64 k).wf = true
  gen : (Lit.int .i64 g).wf = true
  files : Fs w fs l
  good : ∀ f ∈ l, f.1.size ≤ maxLen ∧ (Lit.int .i64 f.2.1).wf = true ∧ f.2.2.size ≤ maxLen
/-- a message that came in -/
structure MC (w : World) (m : Mg) (l : List En) : Prop where
  i_kind : (Lit.int .i64 m.kind).wf = true
  i_frm : (Lit.int .i64 m.frm).wf = true
  i_to_ : (Lit.int .i64 m.to_).wf = true
  i_ballot : (Lit.int .i64 m.ballot).wf = true
  i_gen : (Lit.int .i64 m.gen).wf = true
  i_basis : (Lit.int .i64 m.basis).wf = true
  i_floor : (Lit.int .i64 m.floor).wf = true
  i_top : (Lit.int .i64 m.top).wf = true
  i_read : (Lit.int .i64 m.read).wf = true
  i_at : (Lit.int .i64 m.at_).wf = true
  i_of : (Lit.int .i64 m.of_).wf = true
  mark : m.mark.size ≤ maxLen
  text : m.text.size ≤ maxLen
  list : Es w m.list l
theorem Fs.below {w w1 : World} {v : Value} {l : List Fi} (h : Fs w v l) (hb : Below w.heap.size w w1) : Fs w1 v l := by
  obtain ⟨A, c, e, h1, h2⟩ := h
  exact ⟨A, c, e, h1, Kd.C_below h2 hb⟩
theorem Es.below {w w1 : World} {v : Value} {l : List En} (h : Es w v l) (hb : Below w.heap.size w w1) : Es w1 v l := by
  obtain ⟨A, c, e, h1, h2⟩ := h
  exact ⟨A, c, e, h1, Kd.C_below h2 hb⟩
def kCa : Kd (Int × (Int × List Fi)) := Kd.pair (Kd.int .i64) (Kd.pair (Kd.int .i64) (Kd.slice 93 kFi))
abbrev TMg : Type := Int × (Int × (Int × (Int × (Int × (Int × (Int × (Int × (Int × (ByteArray × ((Int × (Int × ByteArray)) × List En))))))))))
def kMg : Kd TMg := Kd.pair (Kd.int .i64) ( Kd.pair (Kd.int .i64) ( Kd.pair (Kd.int .i64) ( Kd.pair (Kd.int .i64) ( Kd.pair (Kd.int .i64) ( Kd.pair (Kd.int .i64) ( Kd.pair (Kd.int .i64) ( Kd.pair (Kd.int .i64) ( Kd.pair (Kd.int .i64) (Kd.pair Kd.string (Kd.pair kPa (Kd.slice 116 kEn)))))))))))
section
variable {H : Type} {enc : TypeId × Value → H} {w : World} {base : Nat} {spare : Nat → Bool} {held : Bool}
theorem call_K {x : Int × (Int × List Fi)} {cs : List Value} (h : kCa.K w x cs) : ∃ fs, cs = (kcells x.1 x.2.1 fs).toList ∧ Fs w fs x.2.2 := by
  obtain ⟨c0, c1, rfl, h0, d0, d1, rfl, h1, A, c, rfl, h2, h3⟩ := h
  have h0' : c0 = [Value.int .i64 x.1] := h0
  have h1' : d0 = [Value.int .i64 x.2.1] := h1
  subst h0' h1'
  exact ⟨_, rfl, A, c, rfl, h2, h3⟩
theorem call_opens : Opens enc Tryz.prog w base spare held 30 kCa (fun x => (Lit.int .i64 x.1).wf = true ∧ (Lit.int .i64 x.2.1).wf = true ∧ ∀ f ∈ x.2.2, f.1.size ≤ maxLen ∧ (Lit.int .i64 f.2.1).wf = true ∧ f.2.2.size ≤ maxLen) := by
  intro fuel cs x hx
  exact opens_struct (d := kCa) Tryz.underlying30 (by kernel_rfl) (fopens_cons rfl (by kernel_rfl) (opens_int .i64 Tryz.underlying3) (fopens_cons rfl (by kernel_rfl) (opens_int .i64 Tryz.underlying3) (fopens_last rfl (by kernel_rfl) (opens_slice Tryz.underlying28 (by kernel_rfl) file_opens)))) fuel cs x hx
theorem call_open {fuel : Nat} {cs : List Value} {x : DataW H × List MemPlace} (hx : DataW.trod enc Tryz.prog w base spare held fuel 30 cs = some x) :
    ∃ z : Int × Int × Value × List Fi, cs = (kcells z.1 z.2.1 z.2.2.1).toList ∧ KC w z.1 z.2.1 z.2.2.1 z.2.2.2 := by
  obtain ⟨a, k, q0, q1, q2⟩ := call_opens fuel cs x hx
  obtain ⟨fs, e, h⟩ := call_K k
  exact ⟨(a.1, a.2.1, fs, a.2.2), e, q0, q1, h, q2⟩
def mgOf (x : TMg) (v : Value) : Mg := ⟨x.1, x.2.1, x.2.2.1, x.2.2.2.1, x.2.2.2.2.1, x.2.2.2.2.2.1, x.2.2.2.2.2.2.1, x.2.2.2.2.2.2.2.1, x.2.2.2.2.2.2.2.2.1, x.2.2.2.2.2.2.2.2.2.1, x.2.2.2.2.2.2.2.2.2.2.1.1, x.2.2.2.2.2.2.2.2.2.2.1.2.1, x.2.2.2.2.2.2.2.2.2.2.1.2.2, v⟩
theorem msg_K {x : TMg} {cs : List Value} (h : kMg.K w x cs) : ∃ v, cs = (mcells (mgOf x v)).toList ∧ Es w v x.2.2.2.2.2.2.2.2.2.2.2 := by
  obtain ⟨a0, b0, rfl, h0, a1, b1, rfl, h1, a2, b2, rfl, h2, a3, b3, rfl, h3, a4, b4, rfl, h4, a5, b5, rfl, h5, a6, b6, rfl, h6, a7, b7, rfl, h7, a8, b8, rfl, h8, a9, b9, rfl, h9, a10, b10, rfl, ⟨u0, u1, rfl, g0, u2, u3, rfl, g1, g2⟩, A, c, rfl, hl, hc⟩ := h
  have h0' : a0 = [Value.int .i64 x.1] := h0
  have h1' : a1 = [Value.int .i64 x.2.1] := h1
  have h2' : a2 = [Value.int .i64 x.2.2.1] := h2
  have h3' : a3 = [Value.int .i64 x.2.2.2.1] := h3
  have h4' : a4 = [Value.int .i64 x.2.2.2.2.1] := h4
  have h5' : a5 = [Value.int .i64 x.2.2.2.2.2.1] := h5
  have h6' : a6 = [Value.int .i64 x.2.2.2.2.2.2.1] := h6
  have h7' : a7 = [Value.int .i64 x.2.2.2.2.2.2.2.1] := h7
  have h8' : a8 = [Value.int .i64 x.2.2.2.2.2.2.2.2.1] := h8
  have h9' : a9 = [Value.string x.2.2.2.2.2.2.2.2.2.1] := h9
  have g0' : u0 = [Value.int .i64 x.2.2.2.2.2.2.2.2.2.2.1.1] := g0
  have g1' : u2 = [Value.int .i64 x.2.2.2.2.2.2.2.2.2.2.1.2.1] := g1
  have g2' : u3 = [Value.string x.2.2.2.2.2.2.2.2.2.2.1.2.2] := g2
  subst h0' h1' h2' h3' h4' h5' h6' h7' h8' h9' g0' g1' g2'
  exact ⟨_, rfl, A, c, rfl, hl, hc⟩
theorem msg_opens : Opens enc Tryz.prog w base spare held 27 kMg (fun x => (Lit.int .i64 x.1).wf = true ∧ (Lit.int .i64 x.2.1).wf = true ∧ (Lit.int .i64 x.2.2.1).wf = true ∧ (Lit.int .i64 x.2.2.2.1).wf = true ∧ (Lit.int .i64 x.2.2.2.2.1).wf = true ∧ (Lit.int .i64 x.2.2.2.2.2.1).wf = true ∧ (Lit.int .i64 x.2.2.2.2.2.2.1).wf = true ∧ (Lit.int .i64 x.2.2.2.2.2.2.2.1).wf = true ∧ (Lit.int .i64 x.2.2.2.2.2.2.2.2.1).wf = true ∧ x.2.2.2.2.2.2.2.2.2.1.size ≤ maxLen ∧ ((Lit.int .i64 x.2.2.2.2.2.2.2.2.2.2.1.1).wf = true ∧ (Lit.int .i64 x.2.2.2.2.2.2.2.2.2.2.1.2.1).wf = true ∧ x.2.2.2.2.2.2.2.2.2.2.1.2.2.size ≤ maxLen) ∧ ∀ f ∈ x.2.2.2.2.2.2.2.2.2.2.2, f.2.2.size ≤ maxLen) := by
  intro fuel cs x hx
  exact opens_struct (d := kMg) Tryz.underlying27 (by kernel_rfl) (fopens_cons rfl (by kernel_rfl) (opens_int .i64 Tryz.underlying3) (fopens_cons rfl (by kernel_rfl) (opens_int .i64 Tryz.underlying3) (fopens_cons rfl (by kernel_rfl) (opens_int .i64 Tryz.underlying3) (fopens_cons rfl (by kernel_rfl) (opens_int .i64 Tryz.underlying3) (fopens_cons rfl (by kernel_rfl) (opens_int .i64 Tryz.underlying3) (fopens_cons rfl (by kernel_rfl) (opens_int .i64 Tryz.underlying3) (fopens_cons rfl (by kernel_rfl) (opens_int .i64 Tryz.underlying3) (fopens_cons rfl (by kernel_rfl) (opens_int .i64 Tryz.underlying3) (fopens_cons rfl (by kernel_rfl) (opens_int .i64 Tryz.underlying3) (fopens_cons rfl (by kernel_rfl) (opens_string Tryz.underlying9) (fopens_cons rfl (by kernel_rfl) part_opens (fopens_last rfl (by kernel_rfl) (opens_slice Tryz.underlying25 (by kernel_rfl) entry_opens))))))))))))) fuel cs x hx
theorem MC.of {x : TMg} {v : Value} (q : (Lit.int .i64 x.1).wf = true ∧ (Lit.int .i64 x.2.1).wf = true ∧ (Lit.int .i64 x.2.2.1).wf = true ∧ (Lit.int .i64 x.2.2.2.1).wf = true ∧ (Lit.int .i64 x.2.2.2.2.1).wf = true ∧ (Lit.int .i64 x.2.2.2.2.2.1).wf = true ∧ (Lit.int .i64 x.2.2.2.2.2.2.1).wf = true ∧ (Lit.int .i64 x.2.2.2.2.2.2.2.1).wf = true ∧ (Lit.int .i64 x.2.2.2.2.2.2.2.2.1).wf = true ∧ x.2.2.2.2.2.2.2.2.2.1.size ≤ maxLen ∧ ((Lit.int .i64 x.2.2.2.2.2.2.2.2.2.2.1.1).wf = true ∧ (Lit.int .i64 x.2.2.2.2.2.2.2.2.2.2.1.2.1).wf = true ∧ x.2.2.2.2.2.2.2.2.2.2.1.2.2.size ≤ maxLen) ∧ ∀ f ∈ x.2.2.2.2.2.2.2.2.2.2.2, f.2.2.size ≤ maxLen) (h : Es w v x.2.2.2.2.2.2.2.2.2.2.2) : MC w (mgOf x v) x.2.2.2.2.2.2.2.2.2.2.2 := by
  obtain ⟨q0, q1, q2, q3, q4, q5, q6, q7, q8, q9, ⟨q10, q11, q12⟩, _⟩ := q
  exact ⟨q0, q1, q2, q3, q4, q5, q6, q7, q8, q10, q11, q9, q12, h⟩
theorem msg_open {fuel : Nat} {cs : List Value} {x : DataW H × List MemPlace} (hx : DataW.trod enc Tryz.prog w base spare held fuel 27 cs = some x) :
    ∃ z : Mg × List En, cs = (mcells z.1).toList ∧ MC w z.1 z.2 := by
  obtain ⟨a, k, q⟩ := msg_opens fuel cs x hx
  obtain ⟨v, e, h⟩ := msg_K k
  exact ⟨(mgOf a v, a.2.2.2.2.2.2.2.2.2.2.2), e, MC.of q h⟩
end
end Go.Proofs.YtcbecbalhnomcaaGreatDoor.Co
namespace Go.Proofs.YtcbecbalhnomcaaGreatDoor.Build
open Go.RowKit Go.Proofs.YtcbecbalhnomcaaGreatDoorW.PrintWords Go.Proofs.YtcbecbalhnomcaaGreatDoor.Co

/-- a builder of one's own that holds so many bytes -/
def Bd (B b k : Nat) (w : World) : Prop := ∃ l : List UInt8, l.length = k ∧ Lib.IsBuilder 157 5 B b (Lib.byteCells l) w
theorem Bd.more {B b k : Nat} {w' : World} (s : ByteArray) (l : List UInt8) (hl : l.length = k) (h : Lib.IsBuilder 157 5 B b (Lib.byteCells l ++ Lib.strCells s) w') : Bd B b (k + s.size) w' := by
  refine ⟨l ++ s.data.toList, by rw [List.length_append, hl]; rfl, ?_⟩
  have e : Lib.byteCells (l ++ s.data.toList) = Lib.byteCells l ++ Lib.strCells s := by simp [Lib.byteCells, Lib.strCells]
  rw [e]
  exact h
theorem Bd.below {B b k : Nat} {w w' : World} (h : Bd B b k w) (hb : Below w.heap.size w w') : Bd B b k w' := by
  obtain ⟨l, hl, hb'⟩ := h
  have key : ∀ p, Lib.BuilderAt 157 5 B b p (Lib.byteCells l) w → Lib.BuilderAt 157 5 B b p (Lib.byteCells l) w' := by
    rintro p ⟨h1, v, h2, h3, h4⟩
    have hlt : b < w.heap.size := (Array.getElem?_eq_some_iff.1 h2).1
    exact ⟨h1, v, by rw [hb.block b hlt]; exact h2, own_move h3 (fun k hk => hb.block k (own_lt h3 k hk)), h4⟩
  exact ⟨l, hl, hb'.imp (key _) (key _)⟩
theorem Bd.lt {B b k : Nat} {w : World} (h : Bd B b k w) : b < w.heap.size := by
  obtain ⟨l, hl, h | h⟩ := h
  · exact h.lt
  · exact h.lt
theorem Bd.new {B : Nat} {w : World} (h : B ≤ w.heap.size) : Bd B w.heap.size 0 (w.alloc (.cells #[.pointer none, .slice none 0 0] 157)) :=
  ⟨[], rfl, Or.inl ⟨h, .slice none 0 0, (Blk.new _ _ _), own_nil _ _ _ _, by simp [Value.ownBlock]⟩⟩
theorem write_bd (B b k : Nat) (s : ByteArray) (w : World) (h : Bd B b k w) (hlen : k + s.size ≤ 140737488355328) (hBw : B ≤ w.heap.size) :
    Calls Tryz.prog 99 #[.pointer (some ⟨b, 0, none⟩), .string s] w fun e w' => e = .returned (.tuple #[.int .i64 s.size, .nilIface]) ∧ Hid (Bd B b (k + s.size) w' ∧ Below B w w' ∧ Keep w w') := by
  obtain ⟨l, hl, hb⟩ := h
  refine (write_calls B b _ s w hb (by rw [Lib.byteCells_length]; omega) hBw).mono ?_
  rintro e w' ⟨rfl, hh⟩
  exact ⟨rfl, Bd.more s l hl hh.out.1, hh.out.2⟩
theorem num_bd (B b k n : Nat) (w : World) (h : Bd B b k w) (hn : n ≤ 4611686018427387903) (hlen : k ≤ 1000000) (hBw : B ≤ w.heap.size) :
    Calls Tryz.prog 97 #[.int .i64 n, .pointer (some ⟨b, 0, none⟩)] w fun e w' => e = .returned (.tuple #[]) ∧ Hid (∃ j, j ≤ 10 ∧ Bd B b (k + j) w' ∧ Below B w w' ∧ Keep w w') := by
  have hnum := num_calls n w hn
  have HB : Hid (∀ w', Below w.heap.size w w' → Bd B b k w') := fun w' hb => h.below hb
  go_enter Tryz.func97, Tryz.ntmps97
  go_wp2_with (first
    | (go_at_call 98; (with_reducible refine hnum.mono ?_); rintro e w1 ⟨s, rfl, h1⟩
       have hw := write_bd B b k s w1 (HB.out _ h1.out.2) (by have := h1.out.1; omega) (Nat.le_trans hBw h1.out.2.size))
    | (go_at_call 99; (with_reducible refine hw.mono ?_); rintro e w2 ⟨rfl, h2⟩))
  go_end0
  exact ⟨rfl, s.size, h1.out.1, h2.out.1, (h1.out.2.mono hBw).trans h2.out.2.1, (Keep.below h1.out.2).trans h2.out.2.2⟩
theorem len_bd (B b k : Nat) (w : World) (h : Bd B b k w) : Calls Tryz.prog 100 #[.pointer (some ⟨b, 0, none⟩)] w fun e w' => e = .returned (.int .i64 k) ∧ w = w' := by
  obtain ⟨l, hl, hb⟩ := h
  refine (Tryz.Builder_Len B b _ w hb).mono ?_
  rintro e w' ⟨rfl, rfl⟩
  rw [Lib.byteCells_length, hl]
  exact ⟨rfl, rfl⟩
theorem string_bd (B b k : Nat) (w : World) (h : Bd B b k w) (hBw : B ≤ w.heap.size) : Calls Tryz.prog 101 #[.pointer (some ⟨b, 0, none⟩)] w fun e w' => ∃ s, e = .returned (.string s) ∧ Hid (Below B w w') := by
  obtain ⟨l, hl, hb⟩ := h
  refine (Tryz.Builder_String_any B b l w hb hBw).mono ?_
  rintro e w' ⟨rfl, h⟩
  exact ⟨_, rfl, h⟩
/-- the cells of a file in a list -/
theorem file_cells {w : World} {A : Option Addr} {n : Nat} {l : List Fi} (h : Kd.C kFi w A n l) (j : Nat) (hj : j < l.length) : ∃ ad path mode data, A = some ad ∧ l[j] = (path, mode, data) ∧ w.cell? (ad.add (j * 3)) = some (.string path) ∧
    w.cell? ⟨(ad.add (j * 3)).block, (ad.add (j * 3)).off + 1, none⟩ = some (.int .i64 mode) ∧ w.cell? ⟨(ad.add (j * 3)).block, (ad.add (j * 3)).off + 2, none⟩ = some (.string data) := by
  obtain ⟨ad, e, hc⟩ := h.2.2 (by have := h.1; omega)
  obtain ⟨cs, h1, hK, h3⟩ := hc j l[j] (List.getElem?_eq_getElem hj)
  obtain ⟨c0, c1, rfl, k0, d0, d1, rfl, k1, k2⟩ := hK
  rw [show c0 = _ from k0, show d0 = _ from k1, show d1 = _ from k2] at h3
  refine ⟨ad, _, _, _, e, rfl, h3 0 _ rfl, ?_, ?_⟩
  · rw [← add_field _ _ 1 (by omega)]
    exact h3 1 _ rfl
  · rw [← add_field _ _ 2 (by omega)]
    exact h3 2 _ rfl
/-- files of which an image may be made -/
def Fit (l : List Fi) : Prop := l.length ≤ 8 ∧ ∀ f ∈ l, f.1.size ≤ 200 ∧ 0 ≤ f.2.1 ∧ f.2.1 ≤ 511 ∧ f.2.2.size ≤ 2000
set_option maxRecDepth 100000 in
set_option maxHeartbeats 2000000 in
theorem image_bad (e : Int) (he : e ≠ 0) (fs : Value) (w : World) (hc : Calls Tryz.prog 96 #[fs] w fun e' w' => e' = .returned (.int .i64 e) ∧ Hid (Below w.heap.size w w')) :
    Calls Tryz.prog 65 #[fs] w fun e' w' => ∃ s, e' = .returned (.tuple #[.string s, .int .i64 e]) ∧ Hid (Below w.heap.size w w') := by
  go_enter Tryz.func65, Tryz.ntmps65
  go_wp2_with (go_at_call 96; (with_reducible refine hc.mono ?_); rintro e' w1 ⟨rfl, h1⟩)
  go_ret2
  exact ⟨_, rfl, h1⟩
set_option maxRecDepth 100000 in
set_option maxHeartbeats 4000000 in
theorem image_ok (A : Option Addr) (c : Nat) (l : List Fi) (w : World) (hC : Kd.C kFi w A l.length l) (hf : Fit l) (hc : Calls Tryz.prog 96 #[.slice A l.length c] w fun e' w' => e' = .returned (.int .i64 0) ∧ Hid (Below w.heap.size w w')) :
    Calls Tryz.prog 65 #[.slice A l.length c] w fun e' w' => ∃ s, e' = .returned (.tuple #[.string s, .int .i64 0]) ∧ Hid (Below w.heap.size w w') := by
  have hmf : ∀ (fn : Fn) (first cap : Array Value) (w : World), (Instr.makeFunc fn first cap).run Tryz.prog w = .ok (.func fn first cap) w := fun _ _ _ _ => rfl
  have h8 : l.length ≤ 8 := hf.1
  have HC : Hid (∀ w', Below w.heap.size w w' → Kd.C kFi w' A l.length l) := fun w' hb => Kd.C_below hC hb
  have HF : Hid (Fit l) := hf
  clear hC hf
  go_enter Tryz.func65, Tryz.ntmps65
  go_upto_region 8 with (first
    | (go_at_call 96; (with_reducible refine hc.mono ?_); rintro e' w1 ⟨rfl, h1⟩
       have s1 := h1.out.size
       have hn := num_bd w.heap.size w1.heap.size 0 l.length _ (Bd.new s1) (by omega) (by omega) (by simp; omega))
    | (go_at_call 97; (with_reducible refine hn.mono ?_); rintro e' w2 ⟨rfl, h2⟩))
  have hb2 : Hid (∃ k, k ≤ 10 ∧ Bd w.heap.size w1.heap.size k w2) := by
    obtain ⟨k, hk, hb, _⟩ := h2.out
    exact ⟨0 + k, by omega, hb⟩
  have B2 : Hid (Below w.heap.size w w2) := by
    obtain ⟨k, hk, hb, hl, _⟩ := h2.out
    exact (h1.out.alloc s1 _).trans hl
  have HL : Hid (w.heap.size ≤ w1.heap.size) := s1
  clear h2 h1 s1 hn hc
  generalize w1.heap.size = bb at *
  go_loopw [23] (fun i wr => ∃ (j k : Nat), j ≤ l.length ∧ k ≤ 10 + j * 230 ∧ i = .int .i64 j ∧ Hid (Bd w.heap.size bb k wr) ∧ Hid (Below w.heap.size w wr)) (fun i _ => l.length - (intOf i).toNat)
  case atStart =>
    obtain ⟨k, hk, hb⟩ := hb2.out
    exact ⟨0, k, by omega, by omega, rfl, hb, B2⟩
  case round =>
    obtain ⟨j, k, hj, hk, rfl, bd, bel⟩ := hrel
    clear hb2 B2
    by_cases hlt : j < l.length
    · obtain ⟨ad, path, mode, data, rfl, hp, e0, e1, e2⟩ := file_cells (HC.out wr bel.out) j hlt
      obtain ⟨f1, f2, f3, f4⟩ := HF.out.2 l[j] (List.getElem_mem hlt)
      rw [hp] at f1 f2 f3 f4
      clear hp
      simp only at f1 f2 f3 f4
      go_upto_region 10 with (fail)
      obtain ⟨md, rfl⟩ := Int.eq_ofNat_of_zero_le f2
      have bel3 : Hid (Below w.heap.size w (wr.alloc (.cells #[.string path, .int .i64 md, .string data] 93))) := bel.out.alloc bel.out.size _
      have bd3 : Hid (Bd w.heap.size bb k (wr.alloc (.cells #[.string path, .int .i64 md, .string data] 93))) := bd.out.below ((Below.refl _ _).alloc (Nat.le_refl _) _)
      have F3 : Hid (Blk (wr.alloc (.cells #[.string path, .int .i64 md, .string data] 93)) wr.heap.size #[.string path, .int .i64 md, .string data] 93) := Blk.new _ _ _
      clear bd bel e0 e1 e2
      change Code.wp _ _ _ _ (wr.alloc (.cells #[.string path, .int .i64 md, .string data] 93))
      generalize wr.alloc (.cells #[.string path, .int .i64 md, .string data] 93) = W3 at *
      generalize wr.heap.size = g at *
      have x0 : W3.cell? ⟨g, 0, none⟩ = some (.string path) := F3.out.cell 0
      have hn := num_bd w.heap.size bb k path.size W3 bd3.out (by omega) (by omega) bel3.out.size
      go_upto_region 11 with (go_at_call 97; (with_reducible refine hn.mono ?_); rintro e' w4 ⟨rfl, hw⟩)
      obtain ⟨j4, hj4, b4, l4, q4⟩ := hw.out
      have bel4 : Hid (Below w.heap.size w w4) := bel3.out.trans l4
      have F4 : Hid (Blk w4 g #[.string path, .int .i64 md, .string data] 93) := q4 _ _ _ F3.out (by decide) (by decide)
      clear hw hn x0 l4 q4
      have x0 : w4.cell? ⟨g, 0, none⟩ = some (.string path) := F4.out.cell 0
      have hn := write_bd w.heap.size bb (k + j4) path w4 b4 (by omega) bel4.out.size
      go_upto_region 12 with (go_at_call 99; (with_reducible refine hn.mono ?_); rintro e' w5 ⟨rfl, hw⟩)
      obtain ⟨b5, l5, q5⟩ := hw.out
      have bel5 : Hid (Below w.heap.size w w5) := bel4.out.trans l5
      have F5 : Hid (Blk w5 g #[.string path, .int .i64 md, .string data] 93) := q5 _ _ _ F4.out (by decide) (by decide)
      clear hw hn x0 l5 q5 b4
      have x1 : w5.cell? ⟨g, 1, none⟩ = some (.int .i64 md) := F5.out.cell 1
      have hn := num_bd w.heap.size bb (k + j4 + path.size) md w5 b5 (by omega) (by omega) bel5.out.size
      go_upto_region 13 with (go_at_call 97; (with_reducible refine hn.mono ?_); rintro e' w6 ⟨rfl, hw⟩)
      obtain ⟨j6, hj6, b6, l6, q6⟩ := hw.out
      have bel6 : Hid (Below w.heap.size w w6) := bel5.out.trans l6
      have F6 : Hid (Blk w6 g #[.string path, .int .i64 md, .string data] 93) := q6 _ _ _ F5.out (by decide) (by decide)
      clear hw hn x1 l6 q6 b5
      have x2 : w6.cell? ⟨g, 2, none⟩ = some (.string data) := F6.out.cell 2
      have hn := num_bd w.heap.size bb (k + j4 + path.size + j6) data.size w6 b6 (by omega) (by omega) bel6.out.size
      go_upto_region 14 with (go_at_call 97; (with_reducible refine hn.mono ?_); rintro e' w7 ⟨rfl, hw⟩)
      obtain ⟨j7, hj7, b7, l7, q7⟩ := hw.out
      have bel7 : Hid (Below w.heap.size w w7) := bel6.out.trans l7
      have b7' : Hid (Bd w.heap.size bb (k + j4 + path.size + j6 + j7) w7) := b7
      clear hw hn x2 l7 q7 b6 b7
      go_wp2
      go_roundw
      case rel => exact ⟨j + 1, _, by omega, by omega, by go_num, b7', bel7⟩
      case measure => simp [intOf]; omega
    · obtain rfl : j = l.length := by omega
      have hk2 : Hid (k ≤ 10 + 8 * 230) := by show k ≤ _; omega
      clear hk
      go_upto_region 16 with (fail)
      go_loopw [47] (fun i wq => ∃ (j k : Nat), j ≤ l.length ∧ k ≤ 1850 + j * 2000 ∧ i = .int .i64 j ∧ Hid (Bd w.heap.size bb k wq) ∧ Hid (Below w.heap.size w wq)) (fun i _ => l.length - (intOf i).toNat)
      case atStart => exact ⟨0, k, by omega, by have := hk2.out; omega, rfl, bd, bel⟩
      case round =>
        obtain ⟨j, k, hj, hk, rfl, bd, bel⟩ := hrel
        by_cases hlt : j < l.length
        · obtain ⟨ad, path, mode, data, rfl, hp, e0, e1, e2⟩ := file_cells (HC.out wr bel.out) j hlt
          obtain ⟨f1, f2, f3, f4⟩ := HF.out.2 l[j] (List.getElem_mem hlt)
          rw [hp] at f1 f2 f3 f4
          clear hp
          simp only at f1 f2 f3 f4
          go_upto_region 18 with (fail)
          have bel3 : Hid (Below w.heap.size w (wr.alloc (.cells #[.string path, .int .i64 mode, .string data] 93))) := bel.out.alloc bel.out.size _
          have bd3 : Hid (Bd w.heap.size bb k (wr.alloc (.cells #[.string path, .int .i64 mode, .string data] 93))) := bd.out.below ((Below.refl _ _).alloc (Nat.le_refl _) _)
          have F3 : Hid (Blk (wr.alloc (.cells #[.string path, .int .i64 mode, .string data] 93)) wr.heap.size #[.string path, .int .i64 mode, .string data] 93) := Blk.new _ _ _
          clear bd bel e0 e1 e2
          change Code.wp _ _ _ _ (wr.alloc (.cells #[.string path, .int .i64 mode, .string data] 93))
          generalize wr.alloc (.cells #[.string path, .int .i64 mode, .string data] 93) = W3 at *
          generalize wr.heap.size = g at *
          have x2 : W3.cell? ⟨g, 2, none⟩ = some (.string data) := F3.out.cell 2
          have hlen := fun q => len_bd w.heap.size bb k (W3.drewN q) (bd3.out.below (pw_below_drewN (Below.refl _ _) _))
          have i1 : ¬ (data.size : Int) > 524288 - (k : Int) := by omega
          go_quiet ((go_at_call 100; exact quiet0 (hlen _)))
          clear hlen
          have bel4 : Hid (Below w.heap.size w (W3.drewN nq)) := pw_below_drewN bel3.out nq
          have hn := write_bd w.heap.size bb k data (W3.drewN nq) (bd3.out.below (pw_below_drewN (Below.refl _ _) _)) (by omega) bel4.out.size
          go_wp2_with (go_at_call 99; (with_reducible refine hn.mono ?_); rintro e' w5 ⟨rfl, hw⟩)
          have bel5 : Hid (Below w.heap.size w w5) := bel4.out.trans hw.out.2.1
          have b5 : Hid (Bd w.heap.size bb (k + data.size) w5) := hw.out.1
          go_roundw
          case rel => exact ⟨j + 1, _, by omega, by omega, by go_num, b5, bel5⟩
          case measure => simp [intOf]; omega
        · have hs := string_bd w.heap.size bb k wr bd.out bel.out.size
          go_wp2_with (go_at_call 101; (with_reducible refine hs.mono ?_); rintro e' w5 ⟨s, rfl, hw⟩)
          go_ret2
          exact ⟨_, rfl, bel.out.trans hw.out⟩
end Go.Proofs.YtcbecbalhnomcaaGreatDoor.Build
