/- What a coordinator sends while it asks for promises; the example that each law asks for at its end. -/
import Derived.Test.YtcbecbalhnomcaaGreatDoorCoGet
import Derived.Laws.OwnMore
namespace Go.Proofs.YtcbecbalhnomcaaGreatDoor.Co
open Go.RowKit Go.Proofs.YtcbecbalhnomcaaGreatDoorW.PrintWords

def zmsg : Value := .agg (mcells (Mg.bare 0 0 0 0))
theorem info_msg : (Tryz.prog.info? 27).map (fun i => (i.zero, i.size, i.bytes)) = some (some zmsg, 14, 144) := by kernel_rfl
def mrow (ms : List Mg) : List Value := ms.flatMap fun m => (mcells m).toList
/-- a list of messages in a row of its own -/
def Ms (w : World) (base : Nat) (v : Value) (ms : List Mg) : Prop := w.ownsRow base 27 14 v ms.length (mrow ms)
theorem Ms.nil (w : World) (base : Nat) : Ms w base (.slice none 0 0) [] := ⟨rfl, .inl ⟨rfl, rfl⟩⟩
theorem mrow_length (ms : List Mg) : (mrow ms).length = ms.length * 14 := by
  induction ms with
  | nil => rfl
  | cons m ms ih =>
    have e : mrow (m :: ms) = (mcells m).toList ++ mrow ms := by simp [mrow]
    rw [e, List.length_append, ih, List.length_cons]
    have : (mcells m).toList.length = 14 := rfl
    omega
theorem mrow_snoc (ms : List Mg) (m : Mg) : mrow (ms ++ [m]) = mrow ms ++ (mcells m).toList := by simp [mrow]
theorem Ms.form {w : World} {base : Nat} {v : Value} {ms : List Mg} (h : Ms w base v ms) : ∃ A c, v = .slice A ms.length c ∧ ms.length ≤ c ∧ ms.length ≤ 9223372036854775807 := by
  rcases h.2 with ⟨rfl, h0⟩ | ⟨g, cap, cur, rfl, _, _, h2, h3, _⟩
  · exact ⟨none, 0, by rw [h0], by omega, by omega⟩
  · exact ⟨_, cap, rfl, h2, by simp only [maxLen] at h3; omega⟩
theorem mrow_get (ms : List Mg) (j k : Nat) (hj : j < ms.length) (hk : k < 14) : (mrow ms)[j * 14 + k]? = (mcells ms[j])[k]? := by
  induction ms generalizing j with
  | nil => simp at hj
  | cons m ms ih =>
    have e : mrow (m :: ms) = (mcells m).toList ++ mrow ms := by simp [mrow]
    have hl : (mcells m).toList.length = 14 := rfl
    rw [e]
    cases j with
    | zero => rw [List.getElem?_append_left (by omega)]; simp
    | succ j =>
      rw [List.getElem?_append_right (by omega), hl, show (j + 1) * 14 + k - 14 = j * 14 + k from by omega]
      simpa using ih j (by simpa using hj)
theorem Ms.cell {w : World} {base : Nat} {v : Value} {ms : List Mg} (h : Ms w base v ms) (h0 : 0 < ms.length) : ∃ g c, v = .slice (some ⟨g, 0, none⟩) ms.length c ∧ base ≤ g ∧ ms.length ≤ c ∧ ∀ j (hj : j < ms.length) k, k < 14 → w.cell? ⟨g, j * 14 + k, none⟩ = (mcells ms[j])[k]? := by
  rcases h.2 with ⟨rfl, h1⟩ | ⟨g, cap, cur, rfl, hg, _, h2, h3, _⟩
  · omega
  · refine ⟨g, cap, rfl, hg, h2, fun j hj k hk => ?_⟩
    have := World.ownsRow.cellAt h (j * 14 + k) (by omega)
    rw [this]
    exact mrow_get ms j k hj hk

/-- whom a coordinator asks -/
def asked (id ballot : Int) (S : Nat → Bool) : Nat → List Mg
  | 0 => []
  | k + 1 => asked id ballot S k ++ (if S k then [] else [Mg.bare 1 id k ballot])
theorem asked_le (id ballot : Int) (S : Nat → Bool) (k : Nat) : (asked id ballot S k).length ≤ k := by
  induction k with
  | zero => simp [asked]
  | succ k ih => unfold asked; rw [List.length_append]; split <;> simp <;> omega
theorem mcells_one (m : Mg) (hl : (m.list).oneCell' = true) : ∀ u ∈ (mcells m).toList, u.oneCell' = true := by
  intro u hu
  simp only [mcells, List.mem_cons, List.not_mem_nil, or_false] at hu
  rcases hu with rfl | rfl | rfl | rfl | rfl | rfl | rfl | rfl | rfl | rfl | rfl | rfl | rfl | rfl
  all_goals first | exact hl | rfl

set_option maxHeartbeats 1000000 in
theorem prepare_at (b t n : Nat) (S : Nat → Bool) (s : CS) (w : World) (h : Cd w b s) (hp : s.promised = some t) (tal : Tal w t n S) (hn : s.n = n) :
    Calls Tryz.prog 47 #[.pointer (some ⟨b, 0, none⟩)] w fun e w' => ∃ v, e = .returned v ∧ Hid (Ms w' w.heap.size v (asked s.id s.ballot S n) ∧ Below w.heap.size w w') := by
  have h1 := h.c_n
  rw [hn] at h1
  have h9 := tal.le
  have H : Hid (∀ w', Below w.heap.size w w' → Cd w' b s ∧ Tal w' t n S) := fun w' hb => ⟨h.same (hb.block b h.lt), tal.same (hb.block t tal.blk.lt)⟩
  have HP : Hid (s.promised = some t) := hp
  clear h hp hn tal
  go_enter Tryz.func47, Tryz.ntmps47
  go_wp2
  have B0 : Hid (Below w.heap.size w w) := Below.refl _ _
  have M0 : Hid (Ms w w.heap.size (.slice none 0 0) (asked s.id s.ballot S 0)) := Ms.nil _ _
  go_loopw [3, 9] (fun o i wr => ∃ (v : Value) (k : Nat), k ≤ n ∧ v = o ∧ i = .int .i64 k ∧ Hid (Ms wr w.heap.size v (asked s.id s.ballot S k)) ∧ Hid (Below w.heap.size w wr)) (fun _ i _ => n - (intOf i).toNat)
  case atStart => exact ⟨_, 0, by omega, rfl, rfl, M0, B0⟩
  case round =>
    obtain ⟨v, k, hk, rfl, rfl, ms, bel⟩ := hrel
    clear M0 B0
    by_cases hlt : k < n
    · have hlt' : (k : Int) < (n : Int) := by omega
      obtain ⟨cd, tl⟩ := H.out wr bel.out
      have hc := cd.c_promised
      rw [HP.out, ptr_some] at hc
      have hh := has_at t n S k wr tl hlt
      have hto := to_at b s k 1 wr cd
      have hs : Hid (asked s.id s.ballot S (k + 1) = asked s.id s.ballot S k ++ (if S k then [] else [Mg.bare 1 s.id k s.ballot])) := rfl
      have hle := asked_le s.id s.ballot S k
      clear cd tl
      obtain ⟨q, hq⟩ : ∃ q, S k = q := ⟨_, rfl⟩
      rw [hq] at hh
      cases q
      · have HQ : Hid (S k = false) := hq
        clear hq
        unfold mcells Mg.bare at hto
        simp only at hto
        go_wp2_with (first
          | (go_at_call 66; (with_reducible refine hh.mono ?_); rintro e w' ⟨rfl, rfl⟩)
          | (go_at_call 79; (with_reducible refine hto.mono ?_); rintro e w2 ⟨rfl, hb2⟩
             have B2 : Hid (Below w.heap.size w w2) := bel.out.trans (hb2.out.mono bel.out.size)
             have M2 : Hid (Ms w2 w.heap.size v (asked s.id s.ballot S k)) := own_less (pw_own_below ms.out hb2.out) (Nat.le_refl _)
             clear hb2)
          | ((with_reducible refine gate_builtin (b := .append) (xs := #[.tmp 19, .tmp 23]) rfl ?_); at_builtin
             refine print_append_cells (w0 := w) w.heap.size rfl (.tmp 19) (.tmp 23) 39 27 zmsg 14 144 rfl Tryz.underlying39 info_msg rfl (by decide) (by decide) v _ _ (mcells (Mg.bare 1 s.id k s.ballot)).toList rfl rfl rfl (mcells_one _ rfl) M2.out B2.out B2.out.size (by omega) ?_
             intro v3 w3 ho hb hg hat
             have M3 : Hid (Ms w3 w.heap.size v3 (asked s.id s.ballot S (k + 1))) := (by rw [hs.out, HQ.out]; unfold Ms; rw [if_neg (by simp), List.length_append, mrow_snoc]; exact ho)
             have B3 : Hid (Below w.heap.size w w3) := hb
             clear ho hb hg hat))
        go_roundw
        case rel => exact ⟨v3, k + 1, by omega, rfl, by go_num, M3, B3⟩
        case measure => simp [intOf]; omega
      · have M3 : Hid (Ms wr w.heap.size v (asked s.id s.ballot S (k + 1))) := by rw [hs.out, hq, if_pos rfl, List.append_nil]; exact ms.out
        clear hq
        go_wp2_with (go_at_call 66; (with_reducible refine hh.mono ?_); rintro e w' ⟨rfl, rfl⟩)
        go_roundw
        case rel => exact ⟨v, k + 1, by omega, rfl, by go_num, M3, bel⟩
        case measure => simp [intOf]; omega
    · obtain rfl : k = n := by omega
      go_wp2
      go_ret
      exact ⟨_, rfl, ms.out, bel.out⟩
end Go.Proofs.YtcbecbalhnomcaaGreatDoor.Co
