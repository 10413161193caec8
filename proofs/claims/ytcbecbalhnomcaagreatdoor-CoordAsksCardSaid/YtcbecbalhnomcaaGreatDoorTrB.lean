/- Whether a path may be: the walk. What the document says is wrong with paths and trees. What is wrong with paths, and with a tree: the walks. What is wrong with a tree: the walk. The document's image of a tree: numbers' bytes, and the text. A client's call with few files is asked: what is told at once. -/
import Derived.Test.YtcbecbalhnomcaaGreatDoorTrA
import Derived.Test.YtcbecbalhnomcaaGreatDoorShSplit
import Derived.Test.YtcbecbalhnomcaaGreatDoorRefCheck
import Derived.Test.YtcbecbalhnomcaaGreatDoorImA
import Derived.Test.YtcbecbalhnomcaaGreatDoorRefOf
import Derived.Test.YtcbecbalhnomcaaGreatDoorAsA
namespace Go.Proofs.YtcbecbalhnomcaaGreatDoor.Tree
open Go.RowKit Go.Proofs.YtcbecbalhnomcaaGreatDoorW.PrintWords Go.Proofs.YtcbecbalhnomcaaGreatDoor.Co

theorem sp_length (c : UInt8) : ∀ (l cur : List UInt8), (sp c cur l).length = l.count c + 1 := by
  intro l
  induction l with
  | nil => intro cur; rfl
  | cons b l ih =>
    intro cur
    unfold sp
    by_cases hb : b = c
    · subst hb
      rw [if_pos rfl, List.length_cons, ih, List.count_cons_self]
    · rw [if_neg hb, ih, List.count_cons_of_ne hb]
theorem names_length (s : ByteArray) : (names s).length = Lib.countB s ⟨#[47]⟩ + 1 := by
  have h := congrArg List.length (names_data s)
  rw [List.length_map, sp_length] at h
  rw [h]
  show _ = Lib.count s.data.toList [47] + 1
  rw [Lib.count_one]
set_option maxRecDepth 100000 in
theorem path_calls (s : ByteArray) (m : Int) (w : World) (hm : w.cell? ⟨0, 0, none⟩ = some (.int .i64 m)) : Calls Tryz.prog 131 #[.string s] w fun e w' => e = .returned (.int .i64 (pathE s)) ∧ Hid (Below w.heap.size w w') := by
  by_cases h : (s.size : Int) > 200
  · have e : pathE s = 4 := by unfold pathE; rw [if_pos h]
    rw [e]
    clear e
    go_enter Tryz.func131, Tryz.ntmps131
    go_wp2
    go_ret
    exact ⟨rfl, Below.refl _ _⟩
  · have e : pathE s = allF (names s) (names s).length 0 := by unfold pathE; rw [if_neg h, allF_all _ _ _ (by omega), List.drop_zero]
    have hl := names_le s (by omega)
    have hsp := Tryz.strings_Split s ⟨#[47]⟩ m w (by omega) hm (by decide)
    have hn : (names s).length = Lib.countB s ⟨#[47]⟩ + 1 := names_length s
    have HC : Hid (∀ j (hj : j < (names s).length), (w.alloc (.cells ((names s).map Value.string).toArray 9)).cell? ⟨w.heap.size, j, none⟩ = some (.string (names s)[j])) := fun j hj => by
      rw [(Blk.new w _ _).cell]
      simp [List.getElem?_map, List.getElem?_eq_getElem hj]
    rw [← hn] at hsp
    change Calls Tryz.prog _ _ _ (fun e w' => e = .returned (.slice (some ⟨w.heap.size, 0, none⟩) (names s).length (names s).length) ∧ w' = w.alloc (.cells ((names s).map Value.string).toArray 9)) at hsp
    have HB : Hid (Below w.heap.size w (w.alloc (.cells ((names s).map Value.string).toArray 9))) := (Below.refl _ _).alloc (Nat.le_refl _) _
    rw [e]
    clear e hn hm
    generalize names s = L at *
    go_enter Tryz.func131, Tryz.ntmps131
    go_upto_region 4 with (go_at_call 148; (with_reducible refine hsp.mono ?_); rintro e w1 ⟨rfl, rfl⟩)
    generalize w.alloc (.cells (L.map Value.string).toArray 9) = W1 at *
    have HCC : Hid (∀ wr, Below W1.heap.size W1 wr → ∀ j (hj : j < L.length), wr.cell? ⟨w.heap.size, j, none⟩ = some (.string L[j])) := fun wr hb j hj => pw_cell_below hb (HC.out j hj)
    have BB : Hid (Below W1.heap.size W1 W1) := Below.refl _ _
    have HGE : Hid (w.heap.size ≤ W1.heap.size) := HB.out.size
    clear HC hsp
    go_loopw [11] (fun i wr => ∃ j : Nat, j ≤ L.length ∧ i = .int .i64 j ∧ Hid (allF L (L.length - j) j = allF L L.length 0) ∧ Hid (Below W1.heap.size W1 wr)) (fun i _ => L.length - (intOf i).toNat)
    case atStart => exact ⟨0, by omega, rfl, rfl, BB⟩
    case round =>
      obtain ⟨j, hj, rfl, hg, bel⟩ := hrel
      clear BB
      by_cases hlt : j < L.length
      · have hc := HCC.out wr bel.out j hlt
        have hnm := name_calls L[j] wr
        have hst : allF L (L.length - j) j = if nameB L[j] then allF L (L.length - (j + 1)) (j + 1) else 10 := by
          obtain ⟨n, hn⟩ : ∃ n, L.length - j = n + 1 := ⟨L.length - j - 1, by omega⟩
          rw [hn, show L.length - (j + 1) = n from by omega]
          rw [show allF L (n + 1) j = if nameB (L.getD j ByteArray.empty) then allF L n (j + 1) else 10 from rfl, List.getD_eq_getElem?_getD, List.getElem?_eq_getElem hlt]
          rfl
        have hg' := hg.out
        rw [hst] at hg'
        clear hg hst
        generalize nameB L[j] = q at *
        generalize L[j] = x at *
        cases q
        · have HG : Hid (10 = allF L L.length 0) := hg'
          clear hg'
          go_wp2_with (go_at_call 149; (with_reducible refine hnm.mono ?_); rintro e w2 ⟨rfl, h2⟩)
          go_ret
          exact ⟨congrArg (fun q => Ending.returned (.int .i64 q)) HG.out, (HB.out.trans (bel.out.mono HGE.out)).trans (h2.mono (Nat.le_trans HGE.out bel.out.size))⟩
        · have HG : Hid (allF L (L.length - (j + 1)) (j + 1) = allF L L.length 0) := hg'
          clear hg'
          go_wp2_with (go_at_call 149; (with_reducible refine hnm.mono ?_); rintro e w2 ⟨rfl, h2⟩; have B2 : Hid (Below W1.heap.size W1 w2) := bel.out.trans (h2.mono bel.out.size))
          go_roundw
          case rel => exact ⟨j + 1, by omega, by go_num, HG, B2⟩
          case measure => simp [intOf]; omega
      · obtain rfl : j = L.length := by omega
        have hg' := hg.out
        rw [Nat.sub_self] at hg'
        have HG : Hid (0 = allF L L.length 0) := hg'
        clear hg hg'
        go_wp2
        go_ret
        exact ⟨congrArg (fun q => Ending.returned (.int .i64 q)) HG.out, HB.out.trans (bel.out.mono HGE.out)⟩
end Go.Proofs.YtcbecbalhnomcaaGreatDoor.Tree
namespace Go.Proofs.YtcbecbalhnomcaaGreatDoor.Tree
open Go.RowKit Go.Proofs.YtcbecbalhnomcaaGreatDoorW.PrintWords Go.Proofs.YtcbecbalhnomcaaGreatDoor.PCoordServes

theorem rd_at (L : List ByteArray) (j : Nat) : rdOf ByteArray.empty L (j : Int) = at_ L j := by simp [rdOf, at_]
theorem toList_inj' (a b : ByteArray) : a.toList = b.toList ↔ a = b := by
  rw [ByteArray.toList_eq, ByteArray.toList_eq]
  constructor
  · intro h
    cases a; cases b
    congr 1
    exact Array.toList_inj.1 h
  · rintro rfl; rfl
theorem ref_together_l0 (L : List ByteArray) (hL : L.length ≤ 1000) : ∀ (n j : Nat), j + n = L.length → (0 < j → pathE (at_ L (j - 1)) = 0) → barqueref09_together.l0 (2 * n + 1001) L (j : Int) = some (pF L n j) := by
  intro n
  induction n with
  | zero =>
    intro j hj _
    rw [barqueref09_together.l0, if_neg (by omega)]
    rfl
  | succ n ih =>
    intro j hj hp
    rw [show 2 * (n + 1) + 1001 = (2 * n + 1001) + 1 + 1 from by omega, barqueref09_together.l0, if_pos (by omega), if_pos (by omega), rd_at, ref_path _ _ (by omega), Option.bind_some]
    unfold pF
    by_cases c : pathE (at_ L j) = 0
    · rw [if_pos c, if_pos c]
      have hs := pathE_size _ c
      have hnext := ih (j + 1) (by omega) (fun _ => by simpa using c)
      by_cases c1 : 0 < j
      · have hs' := pathE_size _ (hp c1)
        have e1 : wrap64 ((j : Int) - 1) = ((j - 1 : Nat) : Int) := by rw [Co.w64 (by omega) (by omega)]; omega
        rw [if_pos (by omega), if_pos c1, e1, if_pos (by omega), if_pos (by omega), rd_at, ref_order _ _ hs hs' _ (by omega), Option.bind_some, barqueref09_together.j1]
        by_cases c2 : ord (at_ L j) (at_ L (j - 1)) < 0
        · rw [decide_eq_true c2, if_pos rfl, if_pos c2]
        rw [decide_eq_false c2, if_neg (by decide), if_neg c2, if_pos (by omega), if_pos (by omega), if_pos (by omega), e1, if_pos (by omega), if_pos (by omega), rd_at, rd_at]
        by_cases c3 : at_ L j = at_ L (j - 1)
        · rw [if_pos ((toList_inj' _ _).2 c3), if_pos c3]
        rw [if_neg (fun e => c3 ((toList_inj' _ _).1 e)), if_neg c3, ref_within _ _ hs', Option.bind_some, Co.w64 (by omega) (by omega)]
        cases withinB (at_ L j) (at_ L (j - 1))
        · exact hnext
        · rfl
      · obtain rfl : j = 0 := by omega
        rw [if_neg (by omega), if_neg (by omega), barqueref09_together.j1, if_neg (by decide), if_neg (by omega), Co.w64 (by omega) (by omega)]
        exact hnext
    · rw [if_neg c, if_neg c]
theorem ref_together (L : List ByteArray) (k : Nat) (hk : 2000 ≤ k) : barqueref09_together.f k L = some (pathsE L) := by
  unfold barqueref09_together.f pathsE
  by_cases c : (L.length : Int) > 256
  · rw [if_pos c, if_pos c]
  · rw [if_neg c, if_neg c]
    exact at_rounds (g := fun k => barqueref09_together.l0 k L 0) (fun k => (barqueref09_together.mono_l k).1 L 0) (by omega : 2 * L.length + 1001 ≤ k) (ref_together_l0 L (by omega) L.length 0 (by omega) (fun h => by omega))
/-- what is wrong with files' modes and lengths -/
def mF (l : List S93) : Nat → Nat → Int
  | 0, _ => 0
  | n + 1, j => if (l.getD j z93).f1 < 0 then 11 else if (l.getD j z93).f1 > 511 then 11 else if ((l.getD j z93).f2.size : Int) > 65536 then 4 else mF l n (j + 1)
/-- what is wrong with a tree -/
def checkE (l : List S93) : Int := if pathsE (l.map fun x => x.f0) = 0 then mF l l.length 0 else pathsE (l.map fun x => x.f0)
theorem rd_93 (l : List S93) (j : Nat) : rd_T93 l (j : Int) = l.getD j z93 := by simp [rd_T93]
theorem ref_check_l1 (l : List S93) (hL : l.length ≤ 1000) : ∀ (n j : Nat), j + n = l.length → barqueref09_Check.l1 (2 * n + 1) l (j : Int) = some (mF l n j) := by
  intro n
  induction n with
  | zero =>
    intro j hj
    rw [barqueref09_Check.l1, if_neg (by omega)]
    rfl
  | succ n ih =>
    intro j hj
    rw [show 2 * (n + 1) + 1 = (2 * n + 1) + 1 + 1 from by omega, barqueref09_Check.l1, if_pos (by omega), if_pos (by omega), rd_93]
    unfold mF
    by_cases c1 : (l.getD j z93).f1 < 0
    · rw [if_pos c1, if_pos c1]; rfl
    rw [if_neg c1, if_neg c1]
    by_cases c2 : (l.getD j z93).f1 > 511
    · rw [decide_eq_true c2, if_pos c2]; rfl
    rw [decide_eq_false c2, if_neg c2, barqueref09_Check.j2, if_neg (by decide), if_pos (by omega), if_pos (by omega), rd_93]
    by_cases c3 : ((l.getD j z93).f2.size : Int) > 65536
    · rw [if_pos c3, if_pos c3]
    rw [if_neg c3, if_neg c3, Co.w64 (by omega) (by omega)]
    exact ih (j + 1) (by omega)
theorem ref_check_l0 (l : List S93) (hL : l.length ≤ 1000) : ∀ (n j : Nat), j + n = l.length → barqueref09_Check.l0 (n + 3001) l ((l.take j).map fun x => x.f0) (j : Int) = some (checkE l) := by
  intro n
  induction n with
  | zero =>
    intro j hj
    obtain rfl : j = l.length := by omega
    rw [barqueref09_Check.l0, if_neg (by omega), List.take_length, ref_together _ _ (by omega), Option.bind_some]
    unfold checkE
    by_cases c : pathsE (l.map fun x => x.f0) = 0
    · rw [if_pos c, if_pos c]
      exact at_rounds (g := fun k => barqueref09_Check.l1 k l 0) (fun k => (barqueref09_Check.mono_l k).2.1 l 0) (by omega : 2 * l.length + 1 ≤ 0 + 3000) (ref_check_l1 l hL l.length 0 (by omega))
    · rw [if_neg c, if_neg c]
  | succ n ih =>
    intro j hj
    have hlt : j < l.length := by omega
    rw [show n + 1 + 3001 = (n + 3001) + 1 from by omega, barqueref09_Check.l0, if_pos (by omega), if_pos (by omega), if_pos (by simp; omega), rd_93, Co.w64 (by omega) (by omega)]
    have e : (l.take j).map (fun x => x.f0) ++ [(l.getD j z93).f0] = (l.take (j + 1)).map fun x => x.f0 := by
      rw [List.take_add_one, List.getElem?_eq_getElem hlt, List.getD_eq_getElem?_getD, List.getElem?_eq_getElem hlt, List.map_append]
      rfl
    rw [e]
    exact ih (j + 1) (by omega)
theorem ref_check (l : List S93) (hL : l.length ≤ 1000) (k : Nat) (hk : 5000 ≤ k) : barqueref09_Check.f k l = some (checkE l) :=
  at_rounds (g := fun k => barqueref09_Check.l0 k l [] 0) (fun k => (barqueref09_Check.mono_l k).1 l [] 0) (by omega : l.length + 3001 ≤ k) (ref_check_l0 l hL l.length 0 (by omega))
end Go.Proofs.YtcbecbalhnomcaaGreatDoor.Tree
namespace Go.Proofs.YtcbecbalhnomcaaGreatDoor.Tree
open Go.RowKit Go.Proofs.YtcbecbalhnomcaaGreatDoorW.PrintWords Go.Proofs.YtcbecbalhnomcaaGreatDoor.Co

theorem ord_turn (a b : ByteArray) : ord b a = - ord a b := by
  unfold ord
  rw [Nat.max_comm, ordF_turn]
theorem pF_step (L : List ByteArray) (j : Nat) (h : j < L.length) : pF L (L.length - j) j = if pathE (at_ L j) = 0 then (if 0 < j then (if ord (at_ L j) (at_ L (j - 1)) < 0 then 12 else if at_ L j = at_ L (j - 1) then 9 else if withinB (at_ L j) (at_ L (j - 1)) then 9 else pF L (L.length - (j + 1)) (j + 1)) else pF L (L.length - (j + 1)) (j + 1)) else pathE (at_ L j) := by
  obtain ⟨n, hn⟩ : ∃ n, L.length - j = n + 1 := ⟨L.length - j - 1, by omega⟩
  rw [hn, show L.length - (j + 1) = n from by omega]
  rfl
theorem str_cell {w : World} {A : Option Addr} {n : Nat} {L : List ByteArray} (h : Kd.C Kd.string w A n L) (j : Nat) (hj : j < L.length) : ∃ ad, A = some ad ∧ w.cell? (ad.add j) = some (.string (at_ L j)) := by
  obtain ⟨ad, c, e, hl, hk, hc⟩ := Kd.C_get h ByteArray.empty (j : Int) (by omega) (by have := h.1; omega)
  refine ⟨ad, e, ?_⟩
  have hk' : c = [.string (L.getD j ByteArray.empty)] := hk
  subst hk'
  have := hc 0 _ rfl
  have e : (j : Int).toNat * Kd.string.sz + 0 = j := by show (j : Int).toNat * 1 + 0 = j; omega
  rw [e] at this
  exact this
set_option maxRecDepth 100000 in
set_option maxHeartbeats 2000000 in
theorem paths_calls (A : Option Addr) (c : Nat) (L : List ByteArray) (m : Int) (w : World) (hC : Kd.C Kd.string w A L.length L) (hm : w.cell? ⟨0, 0, none⟩ = some (.int .i64 m)) :
    Calls Tryz.prog 117 #[.slice A L.length c] w fun e w' => e = .returned (.int .i64 (pathsE L)) ∧ Hid (Below w.heap.size w w') := by
  have hmax := Kd.C_max hC
  by_cases h : (L.length : Int) > 256
  · have e : pathsE L = 7 := by unfold pathsE; rw [if_pos h]
    rw [e]
    clear e hm hC
    go_enter Tryz.func117, Tryz.ntmps117
    go_wp2
    go_ret
    exact ⟨rfl, Below.refl _ _⟩
  · have HE : Hid (pF L L.length 0 = pathsE L) := by show _ = _; unfold pathsE; rw [if_neg h]
    have HC : Hid (∀ wr, Below w.heap.size w wr → Kd.C Kd.string wr A L.length L) := fun wr hb => Kd.C_below hC hb
    have HM : Hid (∀ wr, Below w.heap.size w wr → wr.cell? ⟨0, 0, none⟩ = some (.int .i64 m)) := fun wr hb => pw_cell_below hb hm
    have B0 : Hid (Below w.heap.size w w) := Below.refl _ _
    clear hC hm
    go_enter Tryz.func117, Tryz.ntmps117
    go_wp2
    go_loopw [12] (fun i wr => ∃ j : Nat, j ≤ L.length ∧ i = .int .i64 j ∧ Hid (pF L (L.length - j) j = pF L L.length 0) ∧ Hid (0 < j → pathE (at_ L (j - 1)) = 0) ∧ Hid (Below w.heap.size w wr)) (fun i _ => L.length - (intOf i).toNat)
    case atStart => exact ⟨0, by omega, rfl, rfl, fun h => absurd h (by omega), B0⟩
    case round =>
      obtain ⟨j, hj, rfl, hg, hpr, bel⟩ := hrel
      clear B0
      by_cases hlt : j < L.length
      · obtain ⟨ad, hA, hc⟩ := str_cell (HC.out wr bel.out) j hlt
        subst hA
        have hp := path_calls (at_ L j) m wr (HM.out wr bel.out)
        have hst := pF_step L j hlt
        have hg' := hg.out
        rw [hst] at hg'
        clear hst hg
        by_cases p0 : pathE (at_ L j) = 0
        · rw [if_pos p0] at hg'
          rw [p0] at hp
          have hs := pathE_size _ p0
          have HP : Hid (pathE (at_ L j) = 0) := p0
          clear p0
          by_cases j0 : 0 < j
          · rw [if_pos j0] at hg'
            have hs' := pathE_size _ (hpr.out j0)
            have ho := fun wq => order_calls (at_ L (j - 1)) (at_ L j) hs' hs wq
            have hc' : ∀ wq, Below w.heap.size w wq → wq.cell? (ad.add (j - 1)) = some (.string (at_ L (j - 1))) := fun wq hb => by
              obtain ⟨ad', e, h⟩ := str_cell (HC.out wq hb) (j - 1) (by omega)
              injection e with e
              subst e
              exact h
            have HC' : Hid (∀ wq, Below w.heap.size w wq → wq.cell? (ad.add (j - 1)) = some (.string (at_ L (j - 1)))) := hc'
            clear hc'
            have HOT : Hid (ord (at_ L j) (at_ L (j - 1)) = - ord (at_ L (j - 1)) (at_ L j)) := ord_turn _ _
            have hz := ord_zero (at_ L (j - 1)) (at_ L j)
            have hw := fun wq => within_calls (at_ L j) (at_ L (j - 1)) wq
            have j1 : 1 ≤ (j : Int) := by omega
            have j2 : (j : Int) - 1 < (L.length : Int) := by omega
            have j3 : ((j : Int) == 0) = false := by simp; omega
            by_cases o1 : ord (at_ L (j - 1)) (at_ L j) = 1
            · rw [if_pos (by rw [HOT.out, o1]; decide)] at hg'
              rw [o1] at ho
              have HG : Hid (12 = pF L L.length 0) := hg'
              clear hg' o1 hz hw hs hs' HOT
              go_wp2_with (first
                | (go_at_call 131; (with_reducible refine hp.mono ?_); rintro e w2 ⟨rfl, h2⟩
                   have B2 : Hid (Below w.heap.size w w2) := bel.out.trans (h2.out.mono bel.out.size)
                   have c2 := HC'.out w2 B2.out)
                | (go_at_call 132; (with_reducible refine (ho _).mono ?_); rintro e w3 ⟨r, rfl, h3⟩
                   have B3 : Hid (Below w.heap.size w w3) := B2.out.trans (h3.out.2.mono B2.out.size)
                   have i1 : r > 0 := h3.out.1.1.2 rfl))
              go_ret
              exact ⟨congrArg (fun q => Ending.returned (.int .i64 q)) (HG.out.trans HE.out), B3.out⟩
            by_cases o0 : ord (at_ L (j - 1)) (at_ L j) = 0
            · rw [if_neg (by rw [HOT.out, o0]; decide), if_pos (hz.1 o0).symm] at hg'
              rw [o0] at ho
              have HG : Hid (9 = pF L L.length 0) := hg'
              clear hg' o0 o1 hz hw hs hs' HOT
              go_wp2_with (first
                | (go_at_call 131; (with_reducible refine hp.mono ?_); rintro e w2 ⟨rfl, h2⟩
                   have B2 : Hid (Below w.heap.size w w2) := bel.out.trans (h2.out.mono bel.out.size)
                   have c2 := HC'.out w2 B2.out)
                | (go_at_call 132; (with_reducible refine (ho _).mono ?_); rintro e w3 ⟨r, rfl, h3⟩
                   have B3 : Hid (Below w.heap.size w w3) := B2.out.trans (h3.out.2.mono B2.out.size)
                   obtain rfl : r = 0 := h3.out.1.2.2 rfl))
              go_ret
              exact ⟨congrArg (fun q => Ending.returned (.int .i64 q)) (HG.out.trans HE.out), B3.out⟩
            · have hlt0 : ¬ ord (at_ L j) (at_ L (j - 1)) < 0 := fun hx => by
                rw [HOT.out] at hx
                have : ord (at_ L (j - 1)) (at_ L j) = 1 ∨ ord (at_ L (j - 1)) (at_ L j) = 0 ∨ ord (at_ L (j - 1)) (at_ L j) = -1 := ord_vals _ _
                omega
              rw [if_neg hlt0, if_neg (fun e => o0 (hz.2 e.symm))] at hg'
              have HO : Hid (∀ r, Sg r (ord (at_ L (j - 1)) (at_ L j)) → ¬ r > 0 ∧ (r == 0) = false) := fun r hr => ⟨fun h => o1 (hr.1.1 h), by simpa using fun h => o0 (hr.2.1 h)⟩
              clear hlt0 o0 o1 hz hs hs' HOT
              cases hwq : withinB (at_ L j) (at_ L (j - 1))
              · rw [hwq] at hg' hw
                have HG : Hid (pF L (L.length - (j + 1)) (j + 1) = pF L L.length 0) := hg'
                clear hg' hwq
                go_wp2_with (first
                  | (go_at_call 131; (with_reducible refine hp.mono ?_); rintro e w2 ⟨rfl, h2⟩
                     have B2 : Hid (Below w.heap.size w w2) := bel.out.trans (h2.out.mono bel.out.size)
                     have c2 := HC'.out w2 B2.out)
                  | (go_at_call 132; (with_reducible refine (ho _).mono ?_); rintro e w3 ⟨r, rfl, h3⟩
                     have B3 : Hid (Below w.heap.size w w3) := B2.out.trans (h3.out.2.mono B2.out.size)
                     obtain ⟨i1, i2⟩ := HO.out r h3.out.1
                     have c3 := HC'.out w3 B3.out)
                  | (go_at_call 133; (with_reducible refine (hw _).mono ?_); rintro e w4 ⟨rfl, h4⟩
                     have B4 : Hid (Below w.heap.size w w4) := B3.out.trans (h4.out.mono B3.out.size)))
                go_roundw
                case rel => exact ⟨j + 1, by omega, by go_num, HG, fun _ => HP.out, B4⟩
                case measure => simp [intOf]; omega
              · rw [hwq] at hg' hw
                have HG : Hid (9 = pF L L.length 0) := hg'
                clear hg' hwq
                go_wp2_with (first
                  | (go_at_call 131; (with_reducible refine hp.mono ?_); rintro e w2 ⟨rfl, h2⟩
                     have B2 : Hid (Below w.heap.size w w2) := bel.out.trans (h2.out.mono bel.out.size)
                     have c2 := HC'.out w2 B2.out)
                  | (go_at_call 132; (with_reducible refine (ho _).mono ?_); rintro e w3 ⟨r, rfl, h3⟩
                     have B3 : Hid (Below w.heap.size w w3) := B2.out.trans (h3.out.2.mono B2.out.size)
                     obtain ⟨i1, i2⟩ := HO.out r h3.out.1
                     have c3 := HC'.out w3 B3.out)
                  | (go_at_call 133; (with_reducible refine (hw _).mono ?_); rintro e w4 ⟨rfl, h4⟩
                     have B4 : Hid (Below w.heap.size w w4) := B3.out.trans (h4.out.mono B3.out.size)))
                go_ret
                exact ⟨congrArg (fun q => Ending.returned (.int .i64 q)) (HG.out.trans HE.out), B4.out⟩
          · rw [if_neg j0] at hg'
            have HG : Hid (pF L (L.length - (j + 1)) (j + 1) = pF L L.length 0) := hg'
            have j3 : ((j : Int) == 0) = true := by simp; omega
            clear hg' hs
            go_wp2_with (go_at_call 131; (with_reducible refine hp.mono ?_); rintro e w2 ⟨rfl, h2⟩
                         have B2 : Hid (Below w.heap.size w w2) := bel.out.trans (h2.out.mono bel.out.size))
            go_roundw
            case rel => exact ⟨j + 1, by omega, by go_num, HG, fun _ => HP.out, B2⟩
            case measure => simp [intOf]; omega
        · rw [if_neg p0] at hg'
          have HG : Hid (pathE (at_ L j) = pF L L.length 0) := hg'
          clear hg'
          generalize pathE (at_ L j) = r at *
          have p1 : (r != 0) = true := by simpa using p0
          clear p0
          go_wp2_with (go_at_call 131; (with_reducible refine hp.mono ?_); rintro e w2 ⟨rfl, h2⟩
                       have B2 : Hid (Below w.heap.size w w2) := bel.out.trans (h2.out.mono bel.out.size))
          go_ret
          exact ⟨congrArg (fun q => Ending.returned (.int .i64 q)) (HG.out.trans HE.out), B2.out⟩
      · obtain rfl : j = L.length := by omega
        have hg' := hg.out
        rw [Nat.sub_self] at hg'
        have HG : Hid (0 = pF L L.length 0) := hg'
        clear hg hg'
        go_wp2
        go_ret
        exact ⟨congrArg (fun q => Ending.returned (.int .i64 q)) (HG.out.trans HE.out), bel.out⟩
end Go.Proofs.YtcbecbalhnomcaaGreatDoor.Tree
namespace Go.Proofs.YtcbecbalhnomcaaGreatDoor.Tree
open Go.RowKit Go.Proofs.YtcbecbalhnomcaaGreatDoorW.PrintWords Go.Proofs.YtcbecbalhnomcaaGreatDoor.Co Go.Proofs.YtcbecbalhnomcaaGreatDoor.Build Go.Proofs.YtcbecbalhnomcaaGreatDoor.PCoordServes

def toS (x : Fi) : S93 := ⟨x.1, x.2.1, x.2.2⟩
def nm (l : List Fi) : List ByteArray := l.map fun x => x.1
theorem nm_toS (l : List Fi) : (l.map toS).map (fun x => x.f0) = nm l := by simp [nm, toS]
def modeB (n : Int) : Bool := if n < 0 then false else if n > 511 then false else true
theorem mode_calls (n : Int) (w : World) : Calls Tryz.prog 118 #[.int .i64 n] w fun e w' => e = .returned (.bool (modeB n)) ∧ w = w' := by
  unfold modeB
  by_cases h1 : n < 0
  · rw [if_pos h1]
    have h1' : ¬ n ≥ 0 := by omega
    go_enter Tryz.func118, Tryz.ntmps118
    go_wp2
    go_ret
    exact ⟨rfl, rfl⟩
  rw [if_neg h1]
  have h1' : n ≥ 0 := by omega
  by_cases h2 : n > 511
  · rw [if_pos h2]
    have h2' : ¬ n ≤ 511 := by omega
    go_enter Tryz.func118, Tryz.ntmps118
    go_wp2
    go_ret
    exact ⟨rfl, rfl⟩
  · rw [if_neg h2]
    have h2' : n ≤ 511 := by omega
    go_enter Tryz.func118, Tryz.ntmps118
    go_wp2
    go_ret
    exact ⟨rfl, rfl⟩
theorem mF_step (l : List Fi) (j : Nat) (h : j < l.length) : mF (l.map toS) (l.length - j) j = if modeB (l[j]).2.1 then (if ((l[j]).2.2.size : Int) > 65536 then 4 else mF (l.map toS) (l.length - (j + 1)) (j + 1)) else 11 := by
  obtain ⟨n, hn⟩ : ∃ n, l.length - j = n + 1 := ⟨l.length - j - 1, by omega⟩
  rw [hn, show l.length - (j + 1) = n from by omega]
  have e : (l.map toS).getD j z93 = toS l[j] := by simp [List.getD_eq_getElem?_getD, List.getElem?_eq_getElem h]
  show (if ((l.map toS).getD j z93).f1 < 0 then 11 else if ((l.map toS).getD j z93).f1 > 511 then 11 else if (((l.map toS).getD j z93).f2.size : Int) > 65536 then 4 else mF (l.map toS) n (j + 1)) = _
  rw [e]
  unfold modeB
  show (if (l[j]).2.1 < 0 then 11 else if (l[j]).2.1 > 511 then 11 else if ((l[j]).2.2.size : Int) > 65536 then 4 else mF (l.map toS) n (j + 1)) = _
  by_cases c1 : (l[j]).2.1 < 0
  · rw [if_pos c1, if_pos c1]; rfl
  by_cases c2 : (l[j]).2.1 > 511
  · rw [if_neg c1, if_neg c1, if_pos c2, if_pos c2]; rfl
  · rw [if_neg c1, if_neg c1, if_neg c2, if_neg c2, if_pos rfl]
theorem info_str : (Tryz.prog.info? 9).map (fun i => (i.zero, i.size, i.bytes)) = some (some (.string ⟨#[]⟩), 1, 16) := by kernel_rfl
set_option maxRecDepth 100000 in
set_option maxHeartbeats 2000000 in
theorem check_calls (A : Option Addr) (c : Nat) (l : List Fi) (m : Int) (w : World) (hC : Kd.C kFi w A l.length l) (hl : l.length ≤ 1000000) (hm : w.cell? ⟨0, 0, none⟩ = some (.int .i64 m)) :
    Calls Tryz.prog 96 #[.slice A l.length c] w fun e w' => e = .returned (.int .i64 (checkE (l.map toS))) ∧ Hid (Below w.heap.size w w') := by
  have HC : Hid (∀ w', Below w.heap.size w w' → Kd.C kFi w' A l.length l) := fun w' hb => Kd.C_below hC hb
  have HM : Hid (∀ wr, Below w.heap.size w wr → wr.cell? ⟨0, 0, none⟩ = some (.int .i64 m)) := fun wr hb => pw_cell_below hb hm
  have B0 : Hid (Below w.heap.size w w) := Below.refl _ _
  have R0 : Hid (Kd.R Kd.string 9 w w.heap.size (fun _ => True) (.slice none 0 0) ((nm l).take 0)) := by rw [List.take_zero]; exact Kd.R_nil _ _ _ _ _
  clear hC hm
  go_enter Tryz.func96, Tryz.ntmps96
  go_upto_region 3 with (fail)
  go_loopw [3, 11] (fun v i wr => ∃ (u : Value) (j : Nat), j ≤ l.length ∧ u = v ∧ i = .int .i64 j ∧ Hid (Kd.R Kd.string 9 wr w.heap.size (fun _ => True) u ((nm l).take j)) ∧ Hid (Below w.heap.size w wr)) (fun _ i _ => l.length - (intOf i).toNat)
  case atStart => exact ⟨_, 0, by omega, rfl, rfl, R0, B0⟩
  case round =>
    obtain ⟨u, j, hj, rfl, rfl, row, bel⟩ := hrel
    clear R0 B0
    by_cases hlt : j < l.length
    · obtain ⟨ad, path, mode, data, hA, hp, e0, e1, e2⟩ := file_cells (HC.out wr bel.out) j hlt
      subst hA
      have HN : Hid ((nm l).take j ++ [path] = (nm l).take (j + 1) ∧ ((nm l).take j).length = j) := by
        refine ⟨?_, by simp [nm]; omega⟩
        rw [List.take_add_one, show (nm l)[j]? = some path from by simp [nm, List.getElem?_eq_getElem hlt, hp]]
        rfl
      clear hp
      go_upto_region 5 with (fail)
      have bel3 : Hid (Below w.heap.size w (wr.alloc (.cells #[.string path, .int .i64 mode, .string data] 93))) := bel.out.alloc bel.out.size _
      have row3 : Hid (Kd.R Kd.string 9 (wr.alloc (.cells #[.string path, .int .i64 mode, .string data] 93)) w.heap.size (fun _ => True) u ((nm l).take j)) := Kd.R_alloc row.out _
      have x0 : (wr.alloc (.cells #[.string path, .int .i64 mode, .string data] 93)).cell? ⟨wr.heap.size, 0, none⟩ = some (.string path) := (Blk.new wr #[.string path, .int .i64 mode, .string data] 93).cell 0
      clear bel row e0 e1 e2
      change Code.wp _ _ _ _ (wr.alloc (.cells #[.string path, .int .i64 mode, .string data] 93))
      generalize wr.alloc (.cells #[.string path, .int .i64 mode, .string data] 93) = W3 at *
      generalize wr.heap.size = g at *
      have hlen : ((nm l).take j).length ≤ 1000000 := by rw [HN.out.2]; omega
      have hlen2 : Hid ((((nm l).take j).length + 1) * 16 ≤ 140737488355328) := by show _ ≤ _; omega
      clear hlen
      go_wp2_with (
        (with_reducible refine gate_builtin (b := .append) (xs := #[.tmp 15, .tmp 18]) rfl ?_); at_builtin
        refine Kd.R_append Kd.string (w0 := w) w.heap.size rfl (.tmp 15) (.tmp 18) 45 9 (.string ⟨#[]⟩) 16 rfl Tryz.underlying45 info_str rfl (by decide) (by decide) u _ path [.string path] (fun _ => True) (fun _ => False) rfl rfl ?aP (fun _ hk => hk.elim) (fun _ _ => trivial) row3.out bel3.out bel3.out.size hlen2.out ?_
        (case aP => exact rfl)
        intro v4 w4 ho hb hg hat
        have row4 : Hid (Kd.R Kd.string 9 w4 w.heap.size (fun _ => True) v4 ((nm l).take (j + 1))) := by rw [← HN.out.1]; exact ho
        have bel4 : Hid (Below w.heap.size w w4) := hb
        clear ho hb hg hat)
      go_roundw
      case rel => exact ⟨v4, j + 1, by omega, rfl, by go_num, row4, bel4⟩
      case measure => simp [intOf]; omega
    · obtain rfl : j = l.length := by omega
      have hrd := Kd.R_reads row.out
      rw [List.take_of_length_le (by simp [nm])] at hrd
      obtain ⟨A', c', hv, hcc, hrow⟩ := hrd
      subst hv
      have hp := paths_calls A' c' (nm l) m wr hrow (HM.out wr bel.out)
      have HCE : Hid (checkE (l.map toS) = if pathsE (nm l) = 0 then mF (l.map toS) l.length 0 else pathsE (nm l)) := by
        show _ = _
        unfold checkE
        rw [nm_toS, List.length_map]
      clear row hrow hcc
      by_cases p0 : pathsE (nm l) = 0
      · have HF : Hid (mF (l.map toS) l.length 0 = checkE (l.map toS)) := by show _ = _; rw [HCE.out, if_pos p0]
        rw [p0] at hp
        clear HCE p0
        go_upto_region 11 with (go_at_call 117; (with_reducible refine hp.mono ?_); rintro e w2 ⟨rfl, h2⟩
                                have B2 : Hid (Below w.heap.size w w2) := bel.out.trans (h2.out.mono bel.out.size))
        go_loopw [28] (fun i wr => ∃ j : Nat, j ≤ l.length ∧ i = .int .i64 j ∧ Hid (mF (l.map toS) (l.length - j) j = mF (l.map toS) l.length 0) ∧ Hid (Below w.heap.size w wr)) (fun i _ => l.length - (intOf i).toNat)
        case atStart => exact ⟨0, by omega, rfl, rfl, B2⟩
        case round =>
          obtain ⟨j, hj, rfl, hg, bel⟩ := hrel
          clear B2
          by_cases hlt : j < l.length
          · obtain ⟨ad, path, mode, data, hA, hpp, e0, e1, e2⟩ := file_cells (HC.out wr bel.out) j hlt
            subst hA
            have hst := mF_step l j hlt
            rw [hpp] at hst
            simp only at hst
            have hg' := hg.out
            rw [hst] at hg'
            clear hst hg hpp
            have hmo := fun wq => mode_calls mode wq
            go_upto_region 13 with (fail)
            have bel3 : Hid (Below w.heap.size w (wr.alloc (.cells #[.string path, .int .i64 mode, .string data] 93))) := bel.out.alloc bel.out.size _
            have F3 : Hid (Blk (wr.alloc (.cells #[.string path, .int .i64 mode, .string data] 93)) wr.heap.size #[.string path, .int .i64 mode, .string data] 93) := Blk.new _ _ _
            clear bel e0 e1 e2
            change Code.wp _ _ _ _ (wr.alloc (.cells #[.string path, .int .i64 mode, .string data] 93))
            generalize wr.alloc (.cells #[.string path, .int .i64 mode, .string data] 93) = W3 at *
            generalize wr.heap.size = g at *
            have x1 : W3.cell? ⟨g, 1, none⟩ = some (.int .i64 mode) := F3.out.cell 1
            have x2 : W3.cell? ⟨g, 2, none⟩ = some (.string data) := F3.out.cell 2
            obtain ⟨q, hq⟩ : ∃ q, modeB mode = q := ⟨_, rfl⟩
            rw [hq] at hg' hmo
            clear hq
            cases q
            · have HG : Hid (11 = mF (l.map toS) l.length 0) := hg'
              clear hg'
              go_wp2_with (go_at_call 118; (with_reducible refine (hmo _).mono ?_); rintro e w4 ⟨rfl, rfl⟩)
              go_ret
              exact ⟨congrArg (fun q => Ending.returned (.int .i64 q)) (HG.out.trans HF.out), bel3.out⟩
            · rw [if_pos rfl] at hg'
              by_cases d0 : (data.size : Int) > 65536
              · rw [if_pos d0] at hg'
                have HG : Hid (4 = mF (l.map toS) l.length 0) := hg'
                clear hg'
                go_wp2_with (go_at_call 118; (with_reducible refine (hmo _).mono ?_); rintro e w4 ⟨rfl, rfl⟩)
                go_ret
                exact ⟨congrArg (fun q => Ending.returned (.int .i64 q)) (HG.out.trans HF.out), bel3.out⟩
              · rw [if_neg d0] at hg'
                have HG : Hid (mF (l.map toS) (l.length - (j + 1)) (j + 1) = mF (l.map toS) l.length 0) := hg'
                clear hg'
                go_wp2_with (go_at_call 118; (with_reducible refine (hmo _).mono ?_); rintro e w4 ⟨rfl, rfl⟩)
                go_roundw
                case rel => exact ⟨j + 1, by omega, by go_num, HG, bel3⟩
                case measure => simp [intOf]; omega
          · obtain rfl : j = l.length := by omega
            have hg' := hg.out
            rw [Nat.sub_self] at hg'
            have HG : Hid (0 = mF (l.map toS) l.length 0) := hg'
            clear hg hg'
            go_wp2
            go_ret
            exact ⟨congrArg (fun q => Ending.returned (.int .i64 q)) (HG.out.trans HF.out), bel.out⟩
      · have HF : Hid (pathsE (nm l) = checkE (l.map toS)) := by show _ = _; rw [HCE.out, if_neg p0]
        generalize pathsE (nm l) = r at *
        have p1 : (r != 0) = true := by simpa using p0
        clear HCE p0
        go_wp2_with (go_at_call 117; (with_reducible refine hp.mono ?_); rintro e w2 ⟨rfl, h2⟩
                     have B2 : Hid (Below w.heap.size w w2) := bel.out.trans (h2.out.mono bel.out.size))
        go_ret
        exact ⟨congrArg (fun q => Ending.returned (.int .i64 q)) HF.out, B2.out⟩
end Go.Proofs.YtcbecbalhnomcaaGreatDoor.Tree
namespace Go.Proofs.YtcbecbalhnomcaaGreatDoor.Tree
open Go.RowKit Go.Proofs.YtcbecbalhnomcaaGreatDoorW.PrintWords Go.Proofs.YtcbecbalhnomcaaGreatDoor.PCoordServes

/-- a number's bytes -/
def digs : Nat → Nat → List Int
  | 0, _ => []
  | f + 1, n => if n ≥ 128 then ((n % 128 + 128 : Nat) : Int) :: digs f (n / 128) else [(n : Int)]
def numS (n : Nat) : ByteArray := strOfNums (digs 10 n)
theorem digs_length (f n : Nat) : (digs f n).length ≤ f := by
  induction f generalizing n with
  | zero => simp [digs]
  | succ f ih =>
    unfold digs
    split
    · have := ih (n / 128); simp; omega
    · simp
theorem numS_size (n : Nat) : (numS n).size ≤ 10 := by
  unfold numS
  rw [strOfNums_size]
  exact digs_length _ _
theorem ref_num_l0 : ∀ (f n : Nat) (x : List Int), n < 128 ^ f → f ≤ 10 → n ≤ 4611686018427387903 → x.length + f ≤ 1000 → barqueref01_Num.l0 f (n : Int) x = some (strOfNums (x ++ digs f n), 0) ∨ f = 0 := by
  intro f
  induction f with
  | zero => intro n x h; exact fun _ _ _ => .inr rfl
  | succ f ih =>
    intro n x h hf hn hx
    left
    rw [barqueref01_Num.l0]
    unfold digs
    by_cases c : n ≥ 128
    · have f0 : f ≠ 0 := by
        rintro rfl
        have : n < 128 := by simpa using h
        omega
      rw [if_pos (by omega), if_pos (by omega), if_pos c]
      have e1 : wrap64 (Int.tdiv (n : Int) 128) = ((n / 128 : Nat) : Int) := by
        rw [Int.tdiv_eq_ediv_of_nonneg (by omega), Co.w64 (by omega) (by omega)]
        omega
      have e2 : (wrap64 (Int.tmod (n : Int) 128 + 128)) % 256 = ((n % 128 + 128 : Nat) : Int) := by
        rw [Int.tmod_eq_emod_of_nonneg (by omega), Co.w64 (by omega) (by omega)]
        omega
      rw [e1, e2]
      rcases ih (n / 128) (x ++ [((n % 128 + 128 : Nat) : Int)]) (by rw [Nat.pow_succ] at h; exact Nat.div_lt_of_lt_mul (by rw [Nat.mul_comm]; exact h)) (by omega) (by omega) (by simp; omega) with h1 | h1
      · rw [h1]
        simp
      · exact absurd h1 f0
    · rw [if_neg (by omega), if_pos (by omega), if_neg c]
      rw [show ((n : Int)) % 256 = (n : Int) from by omega]
theorem ref_bytes (n : Nat) (h : n ≤ 4611686018427387903) (k : Nat) (hk : 20 ≤ k) : barqueref01_Bytes.f k (n : Int) = some (numS n) := by
  have key : barqueref01_Num.f 11 (n : Int) = some (numS n, 0) := by
    unfold barqueref01_Num.f
    rw [if_neg (by omega), decide_eq_false (by omega), barqueref01_Num.j0, if_neg (by decide)]
    rcases ref_num_l0 10 n [] (Nat.lt_of_le_of_lt h (by decide)) (by omega) h (by simp) with h1 | h1
    · rw [h1, List.nil_append]; rfl
    · omega
  unfold barqueref01_Bytes.f
  rw [at_rounds (g := fun k => barqueref01_Num.f k (n : Int)) (fun k => barqueref01_Num.mono (n : Int) k) (by omega : 11 ≤ k) key]
  rfl
theorem ref_text (s : ByteArray) (h : s.size ≤ 1000000) (k : Nat) (hk : 20 ≤ k) : barqueref01_Text.f k s = some (numS s.size ++ s, 0) := by
  have := numS_size s.size
  unfold barqueref01_Text.f
  rw [if_neg (by omega), ref_bytes _ (by omega) _ hk, Option.bind_some, if_pos (by omega)]

/-- a file's head -/
def fileS (x : S93) : ByteArray := (numS x.f0.size ++ x.f0) ++ numS x.f1.toNat ++ numS x.f2.size
def hdF (l : List S93) : Nat → Nat → ByteArray → ByteArray
  | 0, _, x => x
  | n + 1, j, x => hdF l n (j + 1) (((x ++ (numS (l.getD j z93).f0.size ++ (l.getD j z93).f0)) ++ numS (l.getD j z93).f1.toNat) ++ numS (l.getD j z93).f2.size)
def bdF (l : List S93) : Nat → Nat → ByteArray → ByteArray
  | 0, _, x => x
  | n + 1, j, x => bdF l n (j + 1) (x ++ (l.getD j z93).f2)
/-- a tree's image -/
def imageS (l : List S93) : ByteArray := bdF l l.length 0 (hdF l l.length 0 (numS l.length))
/-- a tree of few small files -/
def Small (l : List S93) : Prop := l.length ≤ 8 ∧ ∀ j, j < l.length → (l.getD j z93).f0.size ≤ 200 ∧ 0 ≤ (l.getD j z93).f1 ∧ (l.getD j z93).f1 ≤ 511 ∧ (l.getD j z93).f2.size ≤ 2000
theorem hdF_size (l : List S93) (hs : Small l) : ∀ (n j : Nat) (x : ByteArray), j + n = l.length → (hdF l n j x).size ≤ x.size + n * 230 := by
  intro n
  induction n with
  | zero => intro j x _; unfold hdF; omega
  | succ n ih =>
    intro j x hj
    unfold hdF
    have := ih (j + 1) (((x ++ (numS (l.getD j z93).f0.size ++ (l.getD j z93).f0)) ++ numS (l.getD j z93).f1.toNat) ++ numS (l.getD j z93).f2.size) (by omega)
    have h1 := numS_size (l.getD j z93).f0.size
    have h2 := numS_size (l.getD j z93).f1.toNat
    have h3 := numS_size (l.getD j z93).f2.size
    have h4 := (hs.2 j (by omega)).1
    simp only [ByteArray.size_append] at this ⊢
    omega
theorem bdF_size (l : List S93) (hs : Small l) : ∀ (n j : Nat) (x : ByteArray), j + n = l.length → (bdF l n j x).size ≤ x.size + n * 2000 := by
  intro n
  induction n with
  | zero => intro j x _; unfold bdF; omega
  | succ n ih =>
    intro j x hj
    unfold bdF
    have := ih (j + 1) (x ++ (l.getD j z93).f2) (by omega)
    have h4 := (hs.2 j (by omega)).2.2.2
    simp only [ByteArray.size_append] at this ⊢
    omega
theorem imageS_size (l : List S93) (hs : Small l) : (imageS l).size ≤ 17850 := by
  have h1 := bdF_size l hs l.length 0 (hdF l l.length 0 (numS l.length)) (by omega)
  have h2 := hdF_size l hs l.length 0 (numS l.length) (by omega)
  have h3 := numS_size l.length
  have := hs.1
  unfold imageS
  omega
theorem ref_of_l1 (l : List S93) (hs : Small l) : ∀ (n j : Nat) (x : ByteArray), j + n = l.length → x.size + n * 2000 ≤ 100000 → barqueref10_Of.l1 (n + 1) l x (j : Int) = some (bdF l n j x, 0) := by
  intro n
  induction n with
  | zero =>
    intro j x hj _
    rw [barqueref10_Of.l1, if_neg (by omega)]
    rfl
  | succ n ih =>
    intro j x hj hx
    have h4 := (hs.2 j (by omega)).2.2.2
    have hl := hs.1
    rw [barqueref10_Of.l1, if_pos (by omega), if_pos (by omega), rd_93, if_pos (by omega), if_neg (by rw [ByteArray.size_append]; omega), Co.w64 (by omega) (by omega)]
    exact ih (j + 1) _ (by omega) (by rw [ByteArray.size_append]; omega)
theorem ref_of_l0 (l : List S93) (hs : Small l) : ∀ (n j : Nat) (x : ByteArray), j + n = l.length → x.size + n * 230 ≤ 10000 → barqueref10_Of.l0 (n + 101) l x (j : Int) = some (bdF l l.length 0 (hdF l n j x), 0) := by
  intro n
  induction n with
  | zero =>
    intro j x hj hx
    have hl := hs.1
    rw [barqueref10_Of.l0, if_neg (by omega)]
    exact at_rounds (g := fun k => barqueref10_Of.l1 k l x 0) (fun k => (barqueref10_Of.mono_l k).2 l x 0) (by omega : l.length + 1 ≤ 0 + 100) (ref_of_l1 l hs l.length 0 x (by omega) (by omega))
  | succ n ih =>
    intro j x hj hx
    obtain ⟨h1, h2, h3, h4⟩ := hs.2 j (by omega)
    have hl := hs.1
    have s1 := numS_size (l.getD j z93).f0.size
    have s2 := numS_size (l.getD j z93).f1.toNat
    have s3 := numS_size (l.getD j z93).f2.size
    have e1 : (l.getD j z93).f1 = (((l.getD j z93).f1.toNat : Nat) : Int) := by omega
    have hb : barqueref01_Bytes.f (n + 101) (l.getD j z93).f1 = some (numS (l.getD j z93).f1.toNat) := by
      rw [e1, Int.toNat_natCast]
      exact ref_bytes _ (by omega) _ (by omega)
    rw [show n + 1 + 101 = (n + 101) + 1 from by omega, barqueref10_Of.l0, if_pos (by omega), if_pos (by omega), rd_93, ref_text _ (by omega) _ (by omega), Option.bind_some, if_pos (by simp only [ByteArray.size_append]; omega),
      hb, Option.bind_some, if_pos (by simp only [ByteArray.size_append]; omega), ref_bytes _ (by omega) _ (by omega), Option.bind_some, if_pos (by simp only [ByteArray.size_append]; omega), Co.w64 (by omega) (by omega)]
    exact ih (j + 1) _ (by omega) (by simp only [ByteArray.size_append]; omega)
theorem pF_ok (L : List ByteArray) : ∀ (n j : Nat), j + n = L.length → pF L n j = 0 → ∀ i, j ≤ i → i < L.length → pathE (at_ L i) = 0 := by
  intro n
  induction n with
  | zero => intro j hj _ i h1 h2; omega
  | succ n ih =>
    intro j hj h i h1 h2
    unfold pF at h
    by_cases c : pathE (at_ L j) = 0
    · rw [if_pos c] at h
      by_cases e : i = j
      · subst e; exact c
      · refine ih (j + 1) (by omega) ?_ i (by omega) h2
        split at h
        · split at h
          · omega
          · split at h
            · omega
            · split at h
              · omega
              · exact h
        · exact h
    · rw [if_neg c] at h
      exact absurd h c
theorem mF_ok (l : List S93) : ∀ (n j : Nat), j + n = l.length → mF l n j = 0 → ∀ i, j ≤ i → i < l.length → 0 ≤ (l.getD i z93).f1 ∧ (l.getD i z93).f1 ≤ 511 := by
  intro n
  induction n with
  | zero => intro j hj _ i h1 h2; omega
  | succ n ih =>
    intro j hj h i h1 h2
    unfold mF at h
    split at h
    · omega
    · split at h
      · omega
      · split at h
        · omega
        · by_cases e : i = j
          · subst e; omega
          · exact ih (j + 1) (by omega) h i (by omega) h2
theorem small_of (l : List S93) (hl : l.length ≤ 8) (hd : ∀ j, j < l.length → (l.getD j z93).f2.size ≤ 2000) (h : checkE l = 0) : Small l := by
  refine ⟨hl, fun j hj => ?_⟩
  unfold checkE at h
  by_cases c : pathsE (l.map fun x => x.f0) = 0
  · rw [if_pos c] at h
    unfold pathsE at c
    rw [if_neg (by rw [List.length_map]; omega)] at c
    have h1 := pathE_size _ (pF_ok _ _ 0 (by omega) c j (by omega) (by rw [List.length_map]; exact hj))
    have e : at_ (l.map fun x => x.f0) j = (l.getD j z93).f0 := by
      unfold at_
      simp [List.getD_eq_getElem?_getD, List.getElem?_eq_getElem hj]
    rw [e] at h1
    have h2 := mF_ok l _ 0 (by omega) h j (by omega) hj
    exact ⟨h1, h2.1, h2.2, hd j hj⟩
  · rw [if_neg c] at h
    exact absurd h c
/-- the document's image, or what is wrong -/
def ofS (l : List S93) : ByteArray := if checkE l = 0 then imageS l else ⟨#[]⟩
theorem ref_of (l : List S93) (hl : l.length ≤ 8) (hd : ∀ j, j < l.length → (l.getD j z93).f2.size ≤ 2000) (k : Nat) (hk : 6000 ≤ k) : barqueref10_Of.f k l = some (ofS l, checkE l) := by
  unfold barqueref10_Of.f ofS
  rw [ref_check l (by omega) k (by omega), Option.bind_some]
  by_cases c : checkE l = 0
  · have hs := small_of l hl hd c
    have := numS_size l.length
    rw [if_pos c, if_pos c, ref_bytes _ (by omega) _ (by omega), Option.bind_some, c]
    exact at_rounds (g := fun k => barqueref10_Of.l0 k l (numS l.length) 0) (fun k => (barqueref10_Of.mono_l k).1 l (numS l.length) 0) (by omega : l.length + 101 ≤ k) (ref_of_l0 l hs l.length 0 _ (by omega) (by omega))
  · rw [if_neg c, if_neg c]
end Go.Proofs.YtcbecbalhnomcaaGreatDoor.Tree
namespace Go.Proofs.YtcbecbalhnomcaaGreatDoor.Co
open Go.RowKit Go.Proofs.YtcbecbalhnomcaaGreatDoorW.PrintWords Go.Proofs.YtcbecbalhnomcaaGreatDoor.Build Go.Proofs.YtcbecbalhnomcaaGreatDoor.Tree Go.Proofs.YtcbecbalhnomcaaGreatDoor.PCoordServes

theorem getD_toS (l : List Fi) (j : Nat) (h : j < l.length) : (l.map toS).getD j z93 = toS l[j] := by simp [List.getD_eq_getElem?_getD, List.getElem?_eq_getElem h]
theorem few_size (l : List Fi) : ∀ x ∈ fewL l, x.2.2.size ≤ 2000 := by
  intro x hx
  obtain ⟨y, _, rfl⟩ := List.mem_map.1 hx
  unfold cutF
  simp only
  split
  · have := ByteArray.size_extract (a := y.2.2) (b := 0) (e := 2000); omega
  · omega
theorem few_len (l : List Fi) : (fewL l).length ≤ 8 := by rw [fewL_length]; omega
theorem few_data (l : List Fi) : ∀ j, j < ((fewL l).map toS).length → (((fewL l).map toS).getD j z93).f2.size ≤ 2000 := by
  intro j hj
  rw [List.length_map] at hj
  rw [getD_toS _ _ hj]
  exact few_size l _ (List.getElem_mem hj)
/-- what is wrong with few files -/
def errF (l : List Fi) : Int := checkE ((fewL l).map toS)
theorem few_fit (l : List Fi) (h : errF l = 0) : Fit (fewL l) := by
  have hs := small_of _ (by rw [List.length_map]; exact few_len l) (few_data l) h
  refine ⟨few_len l, fun f hf => ?_⟩
  obtain ⟨j, hj, rfl⟩ := List.mem_iff_getElem.1 hf
  have := hs.2 j (by rw [List.length_map]; exact hj)
  rw [getD_toS _ _ hj] at this
  exact this
theorem image_few (A : Option Addr) (c : Nat) (l : List Fi) (m : Int) (w : World) (hC : Kd.C kFi w A (fewL l).length (fewL l)) (hm : w.cell? ⟨0, 0, none⟩ = some (.int .i64 m)) :
    Calls Tryz.prog 65 #[.slice A (fewL l).length c] w fun e' w' => ∃ s, e' = .returned (.tuple #[.string s, .int .i64 (errF l)]) ∧ Hid (Below w.heap.size w w') := by
  have hc := check_calls A c (fewL l) m w hC (by have := few_len l; omega) hm
  by_cases h : errF l = 0
  · rw [h]
    refine image_ok A c (fewL l) w hC (few_fit l h) ?_
    rw [show checkE ((fewL l).map toS) = 0 from h] at hc
    exact hc
  · exact image_bad (errF l) h _ w hc
theorem ask_few (b : Nat) (s : CS) (k g m : Int) (A : Option Addr) (c base : Nat) (l : List Fi) (w : World) (h : Cd w b s) (hn : s.n ≠ 0) (hph : s.phase ≠ 0) (hc : s.call = none) (ha : s.answer = none) (hj : s.job = none)
    (hR : Kd.R kFi 93 w base (fun _ => True) (.slice A (fewL l).length c) (fewL l)) (hm : w.cell? ⟨0, 0, none⟩ = some (.int .i64 m)) (hb0 : 0 < b) :
    Calls Tryz.prog 14 #[.pointer (some ⟨b, 0, none⟩), .agg (kcells k g (.slice A (fewL l).length c))] w fun e' w' => e' = .returned (.int .i64 0) ∧ Hid (∃ kb, Mod (· = b) w w' ∧
      (rightE k g (errF l) = 0 → Cd w' b (s.asks kb) ∧ ∃ A' c', Blk w' kb (kcells k g (.slice A' (fewL l).length c')) 30) ∧
      (rightE k g (errF l) ≠ 0 → ∃ ab, Cd w' b ((s.asks kb).done ab) ∧ Blk w' ab (acells (rightE k g (errF l)) 0 0 (.slice none 0 0) (.slice none 0 0)) 47)) := by
  refine ask_at b s k g (errF l) A c (fewL l) w h hn hph hc ha hj (Kd.R_reads' hR).2.2 (by have := few_len l; omega) (fun _ w' hM => ?_)
  have hR' := files_mod hR h hM
  refine image_few A c l m w' (Kd.R_reads' hR').2.2 ?_
  have h0 : (0 : Nat) < w.heap.size := World.block_lt_of_cell? w _ hm
  have e : w'.cell? ⟨0, 0, none⟩ = w.cell? ⟨0, 0, none⟩ := by
    unfold World.cell?
    rw [hM.block 0 h0 (by show ¬ 0 = b; omega)]
  rw [e]
  exact hm
theorem files_93 {w : World} {A : Option Addr} {n : Nat} {l : List Fi} (h : Kd.C kFi w A n l) : Kd.C k93 w A n (l.map toS) := by
  obtain ⟨h1, h2, h3⟩ := h
  refine ⟨by rw [List.length_map]; exact h1, h2, fun hn => ?_⟩
  obtain ⟨ad, e, hc⟩ := h3 hn
  refine ⟨ad, e, fun j p hj => ?_⟩
  rw [List.getElem?_map] at hj
  cases hx : l[j]? with
  | none => rw [hx] at hj; cases hj
  | some x =>
    rw [hx] at hj
    injection hj with hj
    subst hj
    obtain ⟨cs, q1, q2, q3⟩ := hc j x hx
    exact ⟨cs, q1, q2, q3⟩
theorem ref_few (A : Option Addr) (c : Nat) (l : List Fi) (w : World) (hC : Kd.C kFi w A (fewL l).length (fewL l)) (hc : (fewL l).length ≤ c) :
    Calls Tryz.prog 26 #[.slice A (fewL l).length c] w fun e' w' => e' = .returned (.tuple #[.string (ofS ((fewL l).map toS)), .int .i64 (errF l)]) ∧ Hid (Below w.heap.size w w') := by
  have h := barqueref10_Of.calls 6000 A c ((fewL l).map toS) (ofS ((fewL l).map toS)) (errF l) w (by rw [List.length_map]; exact files_93 hC) (by rw [List.length_map]; exact hc) (ref_of _ (by rw [List.length_map]; exact few_len l) (few_data l) 6000 (Nat.le_refl _))
  rw [List.length_map] at h
  exact h.mono fun e w' ⟨h1, h2⟩ => ⟨h1, h2⟩
end Go.Proofs.YtcbecbalhnomcaaGreatDoor.Co
