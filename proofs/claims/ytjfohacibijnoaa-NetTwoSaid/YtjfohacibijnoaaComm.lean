/- The walk over code at an ordinary call's frame alone ('wpN'): there a select of one case with a default is one step, and so can be walked like any other operation. -/
import Derived.Conc.LoneSelect
import Derived.WalkKit
namespace Go.Proofs.Ytjfohacibijnoaa.Comm
open Go.RowKit Go.Conc

/-- the code's walk, at frames of ordinary calls -/
def wpN (P : Program) (c : Code) (Q : Exit → Act → World → Prop) (a : Act) (w : World) : Prop :=
  ∀ (b : Frame) (k : List Item) (cs : List Frame), b.kind = .normal →
    ∃ e a' w', Q e a' w' ∧ Arrives P (lone (b.at a (.code c :: k)) cs w) b k cs e a' w'

theorem calls_of_wpN {P : Program} {f : FuncId} {fn : Func} {c : Code} {args : Array Value} {w : World} {R : Ending → World → Prop}
    (hf : P.funcs[f]? = some fn) (hb : fn.body = some c)
    (h : wpN P c (bodyPost P fn R) { tmps := args ++ Array.replicate (fn.ntmps - args.size) undef, defers := [] } w) :
    Calls P f args w R := by
  intro cs
  let b : Frame := { (default : Frame) with fn := f, kind := .normal }
  have henter : Frame.enter P f args .normal =
      b.at { tmps := args ++ Array.replicate (fn.ntmps - args.size) undef, defers := [] } [.code c] := by
    simp [Frame.enter, Frame.at, hf, hb, b]
  obtain ⟨e, a', w', hq, harr⟩ := h b [] cs rfl
  rw [← henter] at harr
  cases e with
  | normal =>
    obtain ⟨hd, v, hr, hR⟩ := hq
    exact ⟨.returned v, w', _, hR, Steps.trans harr (.one step_end), rfl, rfl, hd, rfl, fn, hf, hr⟩
  | ret =>
    obtain ⟨hd, v, hr, hR⟩ := hq
    obtain ⟨todo, hs⟩ := harr
    exact ⟨.returned v, w', _, hR, hs, rfl, rfl, hd, rfl, fn, hf, hr⟩
  | panic chain =>
    obtain ⟨hd, hR⟩ := hq
    obtain ⟨todo, hs⟩ := harr
    exact ⟨.panicked chain, w', _, hR, hs, rfl, rfl, hd, fn, hf⟩
  | exit id => exact hq.elim
  | goto l => exact hq.elim
  | outgrown => exact ⟨.outgrown, w', b, hq, harr.resolve_left (by simp [b]), rfl, trivial⟩

section
variable {P : Program} {Q : Exit → Act → World → Prop} {a : Act} {w : World}
theorem wpN_of_wp {c : Code} (h : c.wp P Q a w) : wpN P c Q a w := fun b k cs _ => h b k cs
theorem wpN_seqN {x y : Code} (h : wpN P x (Exit.then (wpN P y Q) Q) a w) : wpN P (Code.seq x y) Q a w := by
  intro b k cs hb
  obtain ⟨e, a₁, w₁, hq, harr⟩ := h b (.code y :: k) cs hb
  cases e with
  | normal =>
    obtain ⟨e₂, a₂, w₂, hq₂, harr₂⟩ := hq b k cs hb
    exact ⟨e₂, a₂, w₂, hq₂, .of_steps (.head step_seq harr) harr₂⟩
  | exit id => exact ⟨_, a₁, w₁, hq, .of_steps (.one step_seq) (.pass (x := .code y) rfl (fun _ _ => .inl (by simp)) harr)⟩
  | goto l => exact ⟨_, a₁, w₁, hq, .of_steps (.one step_seq) (.pass (x := .code y) rfl (fun _ _ => .inl (by simp)) harr)⟩
  | ret => exact ⟨_, a₁, w₁, hq, .of_steps (.one step_seq) (.pass (x := .code y) rfl (fun _ _ => .inl (by simp)) harr)⟩
  | panic ch => exact ⟨_, a₁, w₁, hq, .of_steps (.one step_seq) (.pass (x := .code y) rfl (fun _ _ => .inl (by simp)) harr)⟩
  | outgrown => exact ⟨_, a₁, w₁, hq, .of_steps (.one step_seq) (.pass (x := .code y) rfl (fun _ _ => .inl (by simp)) harr)⟩
/-- a piece that is walked as ever, and what stands behind it -/
theorem wpN_seq_k {x y : Code} (h : ∀ K : Act → World → Prop, (∀ a w, wpN P y Q a w → K a w) → x.wp P (Exit.then K Q) a w) : wpN P (Code.seq x y) Q a w :=
  wpN_seqN (wpN_of_wp (h _ fun _ _ h => h))
theorem wpN_mono {c : Code} {Q' : Exit → Act → World → Prop} (h : wpN P c Q a w) (hq : ∀ e a w, Q e a w → Q' e a w) : wpN P c Q' a w :=
  fun b k cs hb => let ⟨e, a', w', q, r⟩ := h b k cs hb; ⟨e, a', w', hq _ _ _ q, r⟩

theorem range_succ' (n : Nat) : List.range (n + 1) = 0 :: List.range' 1 n := by
  rw [List.range_eq_range', List.range'_succ]

theorem finish_lone (b : Frame) (ops : Array Oper) (o : Oper) (rest : List Nat) (k : List Item) (v : Value) (cs : List Frame) (w' : World) (ho : ops[0]? = some o) :
    lone ((b.at a (.inRegion ops (0 :: rest) :: k)).finish v) cs w' = lone (b.at (a.put o.dst v) (.inRegion ops rest :: k)) cs w' := by
  rw [Frame.finish_at, ho]; rfl

/-- a region that begins with a select of one send, with a default; there is room -/
theorem wpN_select_send {id : Nat} {o : Oper} {l : List Oper} {c cap s r : Nat} {buf : Array Value} {v z : Value} {tm : Bool}
    (hw : Region.wanted o (yielded (o :: l).toArray a.tmps) = true) (hrun : (execOp a.eval o).run P w = .ok (.comm #[scase c v z] false .select) w)
    (hc : w.heap[c]? = some (.chan cap buf false s r tm)) (hroom : buf.size < cap)
    (h : wpList P (o :: l).toArray Q l (a.put o.dst (.tuple #[goInt 0, .bool false])) (w.setChan c cap (buf.push v) false (s + 1) r tm)) :
    wpN P (.region id (o :: l).toArray false) Q a w := by
  intro b k cs hb
  have h2 : wpOps P (o :: l).toArray Q (List.range' 1 l.length) (a.put o.dst (.tuple #[goInt 0, .bool false])) (w.setChan c cap (buf.push v) false (s + 1) r tm) := by
    rw [wpOps_eq_wpList l 1 (fun j => by simp [Nat.add_comm 1 j])]; exact h
  obtain ⟨e, a', w', hq, harr⟩ := wp_ops _ _ _ h2 b k cs
  refine ⟨e, a', w', hq, .of_steps ?_ harr⟩
  refine .head step_region ?_
  have hsz : (o :: l).toArray.size = l.length + 1 := by simp
  rw [hsz, range_succ']
  have hs := stepG_comm (P := P) (main := true) (b := b) (a := a) (k := k) (cs := cs) (w := w) (ops := (o :: l).toArray) (i := 0) (rest := List.range' 1 l.length) (o := o) rfl hw (by rw [hb]; decide) hrun
  have := step_lone_select_send_room hs hc hroom
  rw [← finish_lone b (o :: l).toArray o (List.range' 1 l.length) k _ cs _ rfl]
  exact .one this
/-- a region that begins with a select of one receive, with a default; the buffer holds something -/
theorem wpN_select_recv {id : Nat} {o : Oper} {l : List Oper} {c cap s r : Nat} {buf : Array Value} {z : Value} {tm closed : Bool}
    (hw : Region.wanted o (yielded (o :: l).toArray a.tmps) = true) (hrun : (execOp a.eval o).run P w = .ok (.comm #[rcase c z] false .select) w)
    (hc : w.heap[c]? = some (.chan cap buf closed s r tm)) (hsome : 0 < buf.size)
    (h : wpList P (o :: l).toArray Q l (a.put o.dst (.tuple #[goInt 0, .bool true, buf.getD 0 undef])) (w.setChan c cap (buf.extract 1 buf.size) closed s (r + 1) tm)) :
    wpN P (.region id (o :: l).toArray false) Q a w := by
  intro b k cs hb
  have h2 : wpOps P (o :: l).toArray Q (List.range' 1 l.length) (a.put o.dst (.tuple #[goInt 0, .bool true, buf.getD 0 undef])) (w.setChan c cap (buf.extract 1 buf.size) closed s (r + 1) tm) := by
    rw [wpOps_eq_wpList l 1 (fun j => by simp [Nat.add_comm 1 j])]; exact h
  obtain ⟨e, a', w', hq, harr⟩ := wp_ops _ _ _ h2 b k cs
  refine ⟨e, a', w', hq, .of_steps ?_ harr⟩
  refine .head step_region ?_
  have hsz : (o :: l).toArray.size = l.length + 1 := by simp
  rw [hsz, range_succ']
  have hs := stepG_comm (P := P) (main := true) (b := b) (a := a) (k := k) (cs := cs) (w := w) (ops := (o :: l).toArray) (i := 0) (rest := List.range' 1 l.length) (o := o) rfl hw (by rw [hb]; decide) hrun
  have := step_lone_select_recv_buf hs hc hsome
  rw [← finish_lone b (o :: l).toArray o (List.range' 1 l.length) k _ cs _ rfl]
  exact .one this
end
end Go.Proofs.Ytjfohacibijnoaa.Comm
