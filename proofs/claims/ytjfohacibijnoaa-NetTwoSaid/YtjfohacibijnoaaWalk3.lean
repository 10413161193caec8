/- What New, Take, Bend and Swap of a net do. -/
import Derived.Test.YtjfohacibijnoaaWalk2
namespace Go.Proofs.Ytjfohacibijnoaa.Net
open Go.RowKit Go.Proofs.YtjfohacibijnoaaW.PrintWords Go.Conc Go.Proofs.Ytjfohacibijnoaa.Comm

theorem bytes9 : ∃ i, Try.prog.info? 9 = some i ∧ i.bytes = 16 := by
  have h : (Try.prog.info? 9).map (·.bytes) = some 16 := by kernel_rfl
  obtain ⟨i, hi, hb⟩ := Option.map_eq_some_iff.1 h
  exact ⟨i, hi, hb⟩
theorem mk1 (w : World) : (Instr.makeChan 47 (.int .i64 1)).run Try.prog w = .ok (.chan (some w.heap.size)) (w.alloc (.chan 1 #[] false 0 0 false)) := by
  obtain ⟨i, hi, hb⟩ := bytes9
  simpa using run_makeChan (P := Try.prog) (w := w) Try.underlying47 hi .i64 1 (by omega) (by rw [hb]; omega)

theorem new_calls (w : World) : Calls Try.prog 8 #[] w fun e w' => ∃ b c, e = .returned (.pointer (some ⟨b, 0, none⟩)) ∧ Hid (At w' b c (.slice none 0 0) [] 0 0) ∧ Hid (Below w.heap.size w w') ∧ w.heap.size ≤ b ∧ w.heap.size ≤ c := by
  have hmc := mk1
  go_enter Try.func8, Try.ntmps8
  go_wp2
  go_ret
  refine ⟨w.heap.size + 1, w.heap.size, rfl, ⟨?_, ⟨0, 0, ?_⟩, Strs.nil _⟩, ?_, by omega, by omega⟩
  · have := Blk.new (w.alloc (.chan 1 #[] false 0 0 false)) #[.slice none 0 0, .chan (some w.heap.size), .int .i64 0, .int .i64 0] 49
    simpa using this
  · rw [Below.heap_alloc _ _ _ (by simp)]
    exact heap_alloc_new w _
  · exact ((Below.refl _ _).alloc (Nat.le_refl _) _).alloc (by simp) _

theorem equalIn_chan_nil (c d : Nat) (w : World) : (Op.equalIn (d + 1) 47 (.chan (some c)) (.chan none)).run Try.prog w = .ok false w := by
  simp [Op.equalIn, run_underlying Try.underlying47]
theorem eql_chan_nil (c : Nat) (w : World) : (binOp .eql 47 (.chan (some c)) (.chan none)).run Try.prog w = .ok (.bool false) w := by
  simp only [binOp]
  simp [show Op.equal 47 (.chan (some c)) (.chan none) = Op.equalIn (9999 + 1) 47 (.chan (some c)) (.chan none) from rfl, equalIn_chan_nil c 9999 w]

theorem setChan_other (w : World) (c c' cap : Nat) (buf : Array Value) (closed : Bool) (s r : Nat) (tm : Bool) (h : c ≠ c') : (w.setChan c cap buf closed s r tm).heap[c']? = w.heap[c']? := by
  simp [World.setChan, Array.getElem?_setIfInBounds_ne h]

set_option maxRecDepth 100000 in
theorem take_at (b c : Nat) (v : Value) (L : List ByteArray) (x y : Int) (i : Nat) (w : World) (st : At w b c v L x y) (hi : i < L.length) :
    Calls Try.prog 10 #[.pointer (some ⟨b, 0, none⟩), .int .i64 i] w fun e w' => e = .returned (.tuple #[.string L[i], .int .i64 0]) ∧ Did w b c v w' (L.eraseIdx i) x y := by
  have hp := peek_at b c v L x y i w st hi
  have hdel := delete_own v L i w st.own hi
  rw [show ((i + 1 : Nat) : Int) = (i : Int) + 1 from by omega] at hdel
  have hlen : L.length ≤ 9223372036854775807 := by obtain ⟨_, _, _, _, h⟩ := st.own.form; exact h
  generalize L[i] = s at *
  obtain ⟨A, cap, hv, h1, h2⟩ := st.own.form
  have h0 : w.cell? ⟨b, 0, none⟩ = some (.slice A L.length cap) := by rw [← hv]; exact Blk.cell st.blk 0
  have ST : Hid (At w b c v L x y) := st
  have HV : Hid (v = .slice A L.length cap) := hv
  have lt : Hid (b < w.heap.size) := st.blk.lt
  rw [hv] at hdel
  clear st hv
  have hi2 : (i : Int) < 9223372036854775807 := by omega
  refine calls_of_wpN Try.func10 rfl ?_
  simp only [Try.ntmps10, List.size_toArray, List.length_cons, List.length_nil, Nat.reduceAdd, Nat.reduceSub, Array.replicate_succ, Array.replicate_zero, List.push_toArray, List.append_toArray, List.nil_append, List.cons_append]
  -- R0
  refine wpN_seq_k (fun K hK => ?_)
  go_wp2
  -- R1
  refine wpN_seq_k (fun K hK => ?_)
  go_wp2_with (go_at_call 19; (with_reducible refine hp.mono ?_); rintro e w' ⟨rfl, rfl⟩)
  -- R2
  refine wpN_seq_k (fun K hK => ?_)
  go_wp2
  -- R4
  refine wpN_seq_k (fun K hK => ?_)
  go_wp2_with (go_at_call 22; (with_reducible refine hdel.mono ?_); rintro e W7 ⟨v7, he, hob, OWN, MD⟩; obtain ⟨A7, c7, hv7, _, _⟩ := Strs.form OWN.out; subst hv7; subst he; rw [← HV.out] at MD hob; have B7 : Hid (Blk W7 b #[v, .chan (some c), .int .i64 x, .int .i64 y] 49) := ST.out.blk.same (MD.out.block b lt.out (fun e => ST.out.gb b e.symm rfl)); have f7 : W7.frozen? ⟨b, 0, none⟩ = false := Blk.free B7.out 0; have h7 : W7.cell? ⟨b, 0, none⟩ = some (.slice A L.length cap) := (by rw [← HV.out]; exact Blk.cell B7.out 0); have HOB : Hid ((Value.slice A7 (L.eraseIdx i).length c7).ownBlock = v.ownBlock) := hob; clear hob)
  have HD : Hid (Did w b c v (W7.setCell ⟨b, 0, none⟩ (.slice A7 (L.eraseIdx i).length c7)) (L.eraseIdx i) x y) := did_store ST.out OWN.out MD.out (.inl HOB.out)
  clear hdel hp OWN MD B7 f7 h7 HOB h0
  generalize W7.setCell ⟨b, 0, none⟩ (.slice A7 (L.eraseIdx i).length c7) = W8 at *
  obtain ⟨v8, at8, md8, ob8⟩ := HD.out
  have h1' : W8.cell? ⟨b, 1, none⟩ = some (.chan (some c)) := Blk.cell at8.blk 1
  obtain ⟨q, r, hch⟩ := at8.ch
  have clt : c < W8.heap.size := (Array.getElem?_eq_some_iff.1 hch).1
  have cb : b ≠ c := fun e => at8.bc e.symm
  have AT8 : Hid (At W8 b c v8 (L.eraseIdx i) x y) := at8
  have MD8 : Hid (Mod (Foot b c v) w W8) := md8
  have OB8 : Hid (∀ k, v8.ownBlock = some k → v.ownBlock = some k ∨ w.heap.size ≤ k) := ob8
  have HCH : Hid (W8.heap[c]? = some (.chan 1 #[] false q r false)) := hch
  clear at8 md8 ob8 hch HD
  have heq := eql_chan_nil c
  -- R5
  refine wpN_seq_k (fun K hK => ?_)
  go_wp2
  refine wpN_seqN ?_
  -- R7, R8
  refine wpN_seq_k (fun K hK => ?_)
  go_wp2
  -- R9: the send
  refine wpN_seqN ?_
  refine wpN_select_send (c := c) (cap := 1) (s := q) (r := r) (buf := #[]) (v := .string s) (z := .string ⟨#[]⟩) (tm := false) rfl (by simp [go_sem, execOp, scase, Act.eval]) HCH.out (by simp) ?_
  go_wp2
  refine wpN_of_wp ?_
  go_wp2
  -- Y
  refine wpN_seqN ?_
  refine wpN_seq_k (fun K hK => ?_)
  have hch9 : (W8.setChan c 1 #[.string s] false (q + 1) r false).heap[c]? = some (.chan 1 #[.string s] false (q + 1) r false) := heap_setChan W8 c 1 _ false (q + 1) r false clt
  have h19 : (W8.setChan c 1 #[.string s] false (q + 1) r false).cell? ⟨b, 1, none⟩ = some (.chan (some c)) := by
    rw [← h1']; exact World.cell?_of_block (setChan_other W8 c b _ _ _ _ _ _ (fun e => cb e.symm))
  have o9 : ∀ k, k ≠ c → (W8.setChan c 1 #[.string s] false (q + 1) r false).heap[k]? = W8.heap[k]? := fun k hk => setChan_other W8 c k _ _ _ _ _ _ (fun e => hk e.symm)
  have O9 : Hid (∀ k, k ≠ c → (W8.setChan c 1 #[.string s] false (q + 1) r false).heap[k]? = W8.heap[k]?) := o9
  have M9 : Hid (Mod (Foot b c v) w (W8.setChan c 1 #[.string s] false (q + 1) r false)) := MD8.out.trans ⟨rfl, rfl, rfl, by simp [World.setChan], fun k _ hk => o9 k (fun e => hk (.inr (.inl e)))⟩
  have C9 : Hid ((W8.setChan c 1 #[.string s] false (q + 1) r false).heap[c]? = some (.chan 1 #[.string s] false (q + 1) r false)) := hch9
  have Z9 : Hid (c < (W8.setChan c 1 #[.string s] false (q + 1) r false).heap.size) := by show c < _; rw [size_setChan]; exact clt
  clear hch9 o9 h1'
  generalize W8.setChan c 1 #[.string s] false (q + 1) r false = W9 at *
  go_wp2
  -- R12: the receive
  refine wpN_seqN ?_
  refine wpN_select_recv (c := c) (cap := 1) (s := q + 1) (r := r) (buf := #[.string s]) (z := .string ⟨#[]⟩) (tm := false) (closed := false) rfl (by simp [go_sem, execOp, rcase, Act.eval]) C9.out (by simp) ?_
  have W : W9.setChan c 1 ((#[Value.string s] : Array Value).extract 1 (#[Value.string s] : Array Value).size) false (q + 1) (r + 1) false = W9.setChan c 1 #[] false (q + 1) (r + 1) false := by simp
  rw [W]
  clear W
  have FIN : Hid (Did w b c v (W9.setChan c 1 #[] false (q + 1) (r + 1) false) (L.eraseIdx i) x y) := by
    have o10 : ∀ k, k ≠ c → (W9.setChan c 1 #[] false (q + 1) (r + 1) false).heap[k]? = W9.heap[k]? := fun k hk => setChan_other W9 c k _ _ _ _ _ _ (fun e => hk e.symm)
    refine ⟨v8, ⟨?_, ⟨q + 1, r + 1, heap_setChan W9 c 1 _ false (q + 1) (r + 1) false Z9.out⟩, ?_⟩, ?_, OB8.out⟩
    · exact AT8.out.blk.same ((o10 b cb).trans (O9.out b cb))
    · exact AT8.out.own.same (fun k hk => (o10 k (AT8.out.gc k hk)).trans (O9.out k (AT8.out.gc k hk)))
    · exact M9.out.trans ⟨rfl, rfl, rfl, by simp [World.setChan], fun k _ hk => o10 k (fun e => hk (.inr (.inl e)))⟩
  generalize W9.setChan c 1 #[] false (q + 1) (r + 1) false = W10 at *
  go_wp2
  refine wpN_of_wp ?_
  go_wp2
  refine wpN_of_wp ?_
  go_wp2
  go_ret2
  exact ⟨rfl, FIN.out⟩
end Go.Proofs.Ytjfohacibijnoaa.Net
