/- What Send, Copy, Drop and Clear of a net do. -/
import Derived.Test.YtjfohacibijnoaaWalk
namespace Go.Proofs.Ytjfohacibijnoaa.Net
open Go.RowKit Go.Proofs.YtjfohacibijnoaaW.PrintWords

theorem own_str1 (s : ByteArray) : ∀ u ∈ [Value.string s], u.oneCell' = true := by
  intro u hu
  rw [List.mem_singleton.1 hu]; rfl

/-- an append to the net's list, and its store -/
theorem did_append {w W1 W7 : World} {b c : Nat} {v v7 : Value} {L M : List ByteArray} {x y : Int} (st : At W1 b c v L x y) (md : Mod (Foot b c v) w W1) (sz : W1.heap.size = w.heap.size)
    (own : Strs W7 v7 M) (b7 : Blk W7 b #[v, .chan (some c), .int .i64 x, .int .i64 y] 49) (hg : W1.grownBy W7 v.ownBlock) (hat : v7.ownBlock = v.ownBlock ∨ ∃ b, v7.ownBlock = some b ∧ W1.heap.size ≤ b) :
    Did w b c v (W7.setCell ⟨b, 0, none⟩ v7) M x y := by
  have hgb : ∀ k, v7.ownBlock = some k → k ≠ b := by
    intro k hk
    rcases hat with e | ⟨q, hq, hge⟩
    · exact st.gb k (e ▸ hk)
    · rw [hq] at hk
      injection hk with hk
      have := st.blk.lt
      omega
  obtain ⟨q, r, hc⟩ := st.ch
  have clt : c < W1.heap.size := (Array.getElem?_eq_some_iff.1 hc).1
  refine ⟨v7, ⟨b7.set 0 _, ⟨q, r, ?_⟩, ?_⟩, ?_, ?_⟩
  · rw [heap_setCell_ne _ _ _ _ st.bc, hg.block c clt (fun e => st.gc c e.symm rfl)]; exact hc
  · exact own.same (fun k hk => heap_setCell_ne _ _ _ _ (hgb k hk))
  · exact (md.trans (Mod.grown hg (fun k hk => .inr (.inr hk)))).set (.inl rfl) _
  · intro k hk
    rcases hat with e | ⟨q, hq, hge⟩
    · exact .inl (e ▸ hk)
    · rw [hq] at hk
      injection hk with hk
      exact .inr (by omega)

theorem send_full (b c : Nat) (v : Value) (L : List ByteArray) (x y : Int) (s : ByteArray) (w : World) (st : At w b c v L x y) (h : 4096 ≤ L.length) (x0 : 0 ≤ x) (x1 : x ≤ 1000000) (y0 : 0 ≤ y) (y1 : y ≤ 1000000) :
    Calls Try.prog 9 #[.pointer (some ⟨b, 0, none⟩), .string s] w fun e w' => e = .returned (.bool false) ∧ Did w b c v w' L (x + 1) (y + 1) := by
  obtain ⟨A, cap, hv, h1, h2⟩ := st.own.form
  have h0 : w.cell? ⟨b, 0, none⟩ = some (.slice A L.length cap) := by rw [← hv]; exact Blk.cell st.blk 0
  have h2' : w.cell? ⟨b, 2, none⟩ = some (.int .i64 x) := Blk.cell st.blk 2
  have h3 : w.cell? ⟨b, 3, none⟩ = some (.int .i64 y) := Blk.cell st.blk 3
  have f2 : w.frozen? ⟨b, 2, none⟩ = false := Blk.free st.blk 2
  have f3 : w.frozen? ⟨b, 3, none⟩ = false := Blk.free st.blk 3
  have hl : decide ((4096 : Int) ≤ (L.length : Int)) = true := decide_eq_true (by omega)
  have ST : Hid (At w b c v L x y) := st
  clear st hv
  go_enter Try.func9, Try.ntmps9
  go_wp2
  go_ret
  refine ⟨rfl, v, ⟨?_, ?_, ?_⟩, ?_, fun k hk => .inl hk⟩
  · exact (ST.out.blk.set 2 _).set 3 _
  · obtain ⟨q, r, hc⟩ := ST.out.ch
    exact ⟨q, r, by rw [heap_setCell_ne _ _ _ _ ST.out.bc, heap_setCell_ne _ _ _ _ ST.out.bc]; exact hc⟩
  · exact ST.out.own.same (fun k hk => by rw [heap_setCell_ne _ _ _ _ (ST.out.gb k hk), heap_setCell_ne _ _ _ _ (ST.out.gb k hk)])
  · exact ((Mod.refl _ w).set (.inl rfl) _).set (.inl rfl) _

theorem send_at (b c : Nat) (v : Value) (L : List ByteArray) (x y : Int) (s : ByteArray) (w : World) (st : At w b c v L x y) (h : L.length < 4096) (x0 : 0 ≤ x) (x1 : x ≤ 1000000) :
    Calls Try.prog 9 #[.pointer (some ⟨b, 0, none⟩), .string s] w fun e w' => e = .returned (.bool true) ∧ Did w b c v w' (L ++ [s]) (x + 1) y := by
  obtain ⟨A, cap, hv, h1, h2⟩ := st.own.form
  have h0 : w.cell? ⟨b, 0, none⟩ = some (.slice A L.length cap) := by rw [← hv]; exact Blk.cell st.blk 0
  have h2' : w.cell? ⟨b, 2, none⟩ = some (.int .i64 x) := Blk.cell st.blk 2
  have f2 : w.frozen? ⟨b, 2, none⟩ = false := Blk.free st.blk 2
  have hl : decide ((4096 : Int) ≤ (L.length : Int)) = false := decide_eq_false (by omega)
  have ST : Hid (At (w.setCell ⟨b, 2, none⟩ (.int .i64 (x + 1))) b c v L (x + 1) y) := by
    refine ⟨st.blk.set 2 _, ?_, ?_⟩
    · obtain ⟨q, r, hc⟩ := st.ch
      exact ⟨q, r, by rw [heap_setCell_ne _ _ _ _ st.bc]; exact hc⟩
    · exact st.own.same (fun k hk => by rw [heap_setCell_ne _ _ _ _ (st.gb k hk)])
  have MD : Hid (Mod (Foot b c v) w (w.setCell ⟨b, 2, none⟩ (.int .i64 (x + 1)))) := (Mod.refl _ w).set (.inl rfl) _
  have HV : Hid (v = .slice A L.length cap) := hv
  have hln : Hid ((L.length + 1) * 16 ≤ 140737488355328) := by show (_ : Nat) ≤ _; omega
  have SZ : Hid ((w.setCell ⟨b, 2, none⟩ (.int .i64 (x + 1))).heap.size = w.heap.size) := by simp [Hid]
  clear st hv
  go_enter Try.func9, Try.ntmps9
  go_upto_region 7 with (fail)
  generalize w.setCell ⟨b, 2, none⟩ (.int .i64 (x + 1)) = W1 at *
  clear h0 h2' f2
  have h0 : W1.cell? ⟨b, 0, none⟩ = some (.slice A L.length cap) := by rw [← HV.out]; exact Blk.cell ST.out.blk 0
  have lt : Hid (b < W1.heap.size) := ST.out.blk.lt
  go_wp2_with (((with_reducible refine gate_builtin (b := .append) (xs := #[.tmp 31, .tmp 33]) rfl ?_); at_builtin; refine print_append_cells (w0 := w) 0 rfl (.tmp 31) (.tmp 33) 22 9 (.string ⟨#[]⟩) 1 16 rfl Try.underlying22 info9 rfl (by decide) (by omega) (.slice A L.length cap) L.length (L.map Value.string) [.string s] rfl rfl rfl (own_str1 s) ?aO ?aB (Nat.zero_le _) hln.out ?_; (case aO => rw [← HV.out]; exact ST.out.own); (case aB => exact MD.out.below (fun k _ => Nat.zero_le k) (Nat.zero_le _)); intro v7 W7 ho hb hg hat; rw [← HV.out] at hg hat; have OWN : Hid (Strs W7 v7 (L ++ [s])) := (by unfold Strs; rw [List.length_append, List.map_append]; exact ho); obtain ⟨A7, c7, hv7, _, _⟩ := Strs.form OWN.out; subst hv7; have B7 : Hid (Blk W7 b #[v, .chan (some c), .int .i64 (x + 1), .int .i64 y] 49) := ST.out.blk.same (hg.block b lt.out (fun e => ST.out.gb b e.symm rfl)); have f7 : W7.frozen? ⟨b, 0, none⟩ = false := Blk.free B7.out 0; have h7 : W7.cell? ⟨b, 0, none⟩ = some (.slice A L.length cap) := (by rw [← HV.out]; exact Blk.cell B7.out 0); have HG : Hid (World.grownBy W1 W7 v.ownBlock) := hg; have HAT : Hid ((Value.slice A7 (L ++ [s]).length c7).ownBlock = v.ownBlock ∨ ∃ b, (Value.slice A7 (L ++ [s]).length c7).ownBlock = some b ∧ W1.heap.size ≤ b) := hat; clear ho hb hg hat))
  go_ret
  have hd := did_append ST.out MD.out SZ.out OWN.out B7.out HG.out HAT.out
  rw [show (L ++ [s]).length = L.length + 1 from by simp] at hd
  exact ⟨rfl, hd⟩

theorem copy_full (b c : Nat) (v : Value) (L : List ByteArray) (x y : Int) (i : Nat) (w : World) (st : At w b c v L x y) (hi : i < L.length) (h : 4096 ≤ L.length) :
    Calls Try.prog 15 #[.pointer (some ⟨b, 0, none⟩), .int .i64 i] w fun e w' => e = .returned (.int .i64 7) ∧ w = w' := by
  have hp := peek_at b c v L x y i w st hi
  have hl := len_at b c v L x y w st
  have h1 : (4096 : Int) ≤ (L.length : Int) := by omega
  have h2 : (L.length : Int) ≤ 9223372036854775807 := by obtain ⟨_, _, _, _, h⟩ := st.own.form; omega
  generalize L[i] = s at *
  clear st
  go_enter Try.func15, Try.ntmps15
  go_wp2_with (first
    | (go_at_call 19; (with_reducible refine hp.mono ?_); rintro e w' ⟨rfl, rfl⟩)
    | (go_at_call 11; (with_reducible refine hl.mono ?_); rintro e w' ⟨rfl, rfl⟩))
  go_ret
  exact ⟨rfl, rfl⟩
set_option maxRecDepth 100000 in
theorem copy_at (b c : Nat) (v : Value) (L : List ByteArray) (x y : Int) (i : Nat) (w : World) (st : At w b c v L x y) (hi : i < L.length) (h : L.length < 4096) :
    Calls Try.prog 15 #[.pointer (some ⟨b, 0, none⟩), .int .i64 i] w fun e w' => e = .returned (.int .i64 0) ∧ Did w b c v w' (L ++ [L[i]]) x y := by
  have hp := peek_at b c v L x y i w st hi
  have hl := len_at b c v L x y w st
  have h1 : (L.length : Int) < 4096 := by omega
  generalize L[i] = s at *
  obtain ⟨A, cap, hv, h1, h2⟩ := st.own.form
  have h0 : w.cell? ⟨b, 0, none⟩ = some (.slice A L.length cap) := by rw [← hv]; exact Blk.cell st.blk 0
  have ST : Hid (At w b c v L x y) := st
  have HV : Hid (v = .slice A L.length cap) := hv
  have hln : Hid ((L.length + 1) * 16 ≤ 140737488355328) := by show (_ : Nat) ≤ _; omega
  have lt : Hid (b < w.heap.size) := st.blk.lt
  clear st hv
  go_enter Try.func15, Try.ntmps15
  go_wp2_with (first
    | (go_at_call 19; (with_reducible refine hp.mono ?_); rintro e w' ⟨rfl, rfl⟩)
    | (go_at_call 11; (with_reducible refine hl.mono ?_); rintro e w' ⟨rfl, rfl⟩)
    | ((with_reducible refine gate_builtin (b := .append) (xs := #[.tmp 23, .tmp 25]) rfl ?_); at_builtin; refine print_append_cells (w0 := w) 0 rfl (.tmp 23) (.tmp 25) 22 9 (.string ⟨#[]⟩) 1 16 rfl Try.underlying22 info9 rfl (by decide) (by omega) (.slice A L.length cap) L.length (L.map Value.string) [.string s] rfl rfl rfl (own_str1 s) ?aO ?aB (Nat.zero_le _) hln.out ?_; (case aO => rw [← HV.out]; exact ST.out.own); (case aB => exact Below.refl _ _); intro v7 W7 ho hb hg hat; rw [← HV.out] at hg hat; have OWN : Hid (Strs W7 v7 (L ++ [s])) := (by unfold Strs; rw [List.length_append, List.map_append]; exact ho); obtain ⟨A7, c7, hv7, _, _⟩ := Strs.form OWN.out; subst hv7; have B7 : Hid (Blk W7 b #[v, .chan (some c), .int .i64 x, .int .i64 y] 49) := ST.out.blk.same (hg.block b lt.out (fun e => ST.out.gb b e.symm rfl)); have f7 : W7.frozen? ⟨b, 0, none⟩ = false := Blk.free B7.out 0; have h7 : W7.cell? ⟨b, 0, none⟩ = some (.slice A L.length cap) := (by rw [← HV.out]; exact Blk.cell B7.out 0); have HG : Hid (World.grownBy w W7 v.ownBlock) := hg; have HAT : Hid ((Value.slice A7 (L ++ [s]).length c7).ownBlock = v.ownBlock ∨ ∃ b, (Value.slice A7 (L ++ [s]).length c7).ownBlock = some b ∧ w.heap.size ≤ b) := hat; clear ho hb hg hat))
  go_ret
  have hd := did_append ST.out (Mod.refl _ _) rfl OWN.out B7.out HG.out HAT.out
  rw [show (L ++ [s]).length = L.length + 1 from by simp] at hd
  exact ⟨rfl, hd⟩

/-- a list put in the place of the net's, in a world where nothing but its row has changed -/
theorem did_store {w W7 : World} {b c : Nat} {v v7 : Value} {L M : List ByteArray} {x y : Int} (st : At w b c v L x y) (hs : Strs W7 v7 M) (md : Mod (fun k => some k = v.ownBlock) w W7) (ho : v7.ownBlock = v.ownBlock ∨ v7.ownBlock = none) :
    Did w b c v (W7.setCell ⟨b, 0, none⟩ v7) M x y := by
  have hgb : ∀ k, v7.ownBlock = some k → v.ownBlock = some k := by
    intro k hk
    rcases ho with e | e
    · exact e ▸ hk
    · rw [e] at hk; cases hk
  obtain ⟨q, r, hc⟩ := st.ch
  have clt : c < w.heap.size := (Array.getElem?_eq_some_iff.1 hc).1
  refine ⟨v7, ⟨(st.blk.same (md.block b st.blk.lt (fun e => st.gb b e.symm rfl))).set 0 _, ⟨q, r, ?_⟩, ?_⟩, ?_, ?_⟩
  · rw [heap_setCell_ne _ _ _ _ st.bc, md.block c clt (fun e => st.gc c e.symm rfl)]; exact hc
  · exact hs.same (fun k hk => heap_setCell_ne _ _ _ _ (st.gb k (hgb k hk)))
  · exact (md.mono (fun k hk => .inr (.inr hk.symm))).set (.inl rfl) _
  · exact fun k hk => .inl (hgb k hk)

theorem drop_at (b c : Nat) (v : Value) (L : List ByteArray) (x y : Int) (i : Nat) (w : World) (st : At w b c v L x y) (hi : i < L.length) :
    Calls Try.prog 16 #[.pointer (some ⟨b, 0, none⟩), .int .i64 i] w fun e w' => e = .returned (.int .i64 0) ∧ Did w b c v w' (L.eraseIdx i) x y := by
  have hp := peek_at b c v L x y i w st hi
  have hdel := delete_own v L i w st.own hi
  rw [show ((i + 1 : Nat) : Int) = (i : Int) + 1 from by omega] at hdel
  have hlen : L.length ≤ 9223372036854775807 := by obtain ⟨_, _, _, _, h⟩ := st.own.form; exact h
  generalize L[i] = s at *
  obtain ⟨A, cap, hv, h1, h2⟩ := st.own.form
  have h0 : w.cell? ⟨b, 0, none⟩ = some (.slice A L.length cap) := by rw [← hv]; exact Blk.cell st.blk 0
  have ST : Hid (At w b c v L x y) := st
  have HV : Hid (v = .slice A L.length cap) := hv
  have lt : Hid (b < w.heap.size) := st.blk.lt
  rw [hv] at hdel
  clear st hv
  have hi2 : (i : Int) < 9223372036854775807 := by omega
  go_enter Try.func16, Try.ntmps16
  go_wp2_with (first
    | (go_at_call 19; (with_reducible refine hp.mono ?_); rintro e w' ⟨rfl, rfl⟩)
    | (go_at_call 22; (with_reducible refine hdel.mono ?_); rintro e W7 ⟨v7, he, hob, OWN, MD⟩; obtain ⟨A7, c7, hv7, _, _⟩ := Strs.form OWN.out; subst hv7; subst he; rw [← HV.out] at MD hob; have B7 : Hid (Blk W7 b #[v, .chan (some c), .int .i64 x, .int .i64 y] 49) := ST.out.blk.same (MD.out.block b lt.out (fun e => ST.out.gb b e.symm rfl)); have f7 : W7.frozen? ⟨b, 0, none⟩ = false := Blk.free B7.out 0; have h7 : W7.cell? ⟨b, 0, none⟩ = some (.slice A L.length cap) := (by rw [← HV.out]; exact Blk.cell B7.out 0); have HOB : Hid ((Value.slice A7 (L.eraseIdx i).length c7).ownBlock = v.ownBlock) := hob; clear hob))
  go_ret
  exact ⟨rfl, did_store ST.out OWN.out MD.out (.inl HOB.out)⟩
theorem clear_at (b c : Nat) (v : Value) (L : List ByteArray) (x y : Int) (w : World) (st : At w b c v L x y) :
    Calls Try.prog 12 #[.pointer (some ⟨b, 0, none⟩)] w fun e w' => e = .returned (.int .i64 L.length) ∧ Did w b c v w' [] x y := by
  obtain ⟨A, cap, hv, h1, h2⟩ := st.own.form
  have h0 : w.cell? ⟨b, 0, none⟩ = some (.slice A L.length cap) := by rw [← hv]; exact Blk.cell st.blk 0
  have f0 : w.frozen? ⟨b, 0, none⟩ = false := Blk.free st.blk 0
  have ST : Hid (At w b c v L x y) := st
  clear st hv
  go_enter Try.func12, Try.ntmps12
  go_wp2
  go_ret
  exact ⟨rfl, did_store ST.out (Strs.nil _) (Mod.refl _ _) (.inr rfl)⟩
end Go.Proofs.Ytjfohacibijnoaa.Net
