/- Whether a name in a path may be. A text split at a byte: the plain law. How two paths stand: the code's order and the document's. How two paths stand: the walk of the code's order. Whether a path lies in another one. The document's name is the same. The document's names of a path are its pieces at slashes; whether a path may be. The document's word for a path that lies in another one is the same. What is wrong with paths, in this order: the plain law. -/
import Derived.Test.YtcbecbalhnomcaaGreatDoorCoA
import Derived.Laws.RangeAny
import Derived.Lib.Split
import Derived.Lib.SplitLaws
import Derived.Lib.IndexBytes
import Derived.Test.YtcbecbalhnomcaaGreatDoorPCoordServesx17
import Derived.Test.YtcbecbalhnomcaaGreatDoorRefNames
import Derived.Laws.Strings
namespace Go.Proofs.YtcbecbalhnomcaaGreatDoor.Tree
open Go.RowKit Go.Proofs.YtcbecbalhnomcaaGreatDoorW.PrintWords

/-- the bytes from j on, n of them, may stand in a name -/
def goodF (s : ByteArray) : Nat → Nat → Bool
  | 0, _ => true
  | n + 1, j => if bt s j < 33 then false else if bt s j > 126 then false else goodF s n (j + 1)
def nameB (s : ByteArray) : Bool := if s.toList = [] then false else if s.toList = [46] then false else if s.toList = [46, 46] then false else if (s.size : Int) > 32 then false else goodF s s.size 0
theorem bt_nat (s : ByteArray) (j : Nat) (h : j < s.size) : bt s (j : Int) = ((s[j]'h).toNat : Int) := (bt_at s (j : Int) (by simpa using h)).symm
theorem goodF_step (s : ByteArray) (j : Nat) (h : j < s.size) : goodF s (s.size - j) j = if bt s j < 33 then false else if bt s j > 126 then false else goodF s (s.size - (j + 1)) (j + 1) := by
  obtain ⟨n, hn⟩ : ∃ n, s.size - j = n + 1 := ⟨s.size - j - 1, by omega⟩
  rw [hn, show s.size - (j + 1) = n from by omega]
  rfl
set_option maxRecDepth 100000 in
theorem name_bad (s : ByteArray) (w : World) (h : s.toList = [] ∨ s.toList = [46] ∨ s.toList = [46, 46] ∨ (s.size : Int) > 32) : Calls Tryz.prog 149 #[.string s] w fun e w' => e = .returned (.bool false) ∧ w = w' := by
  by_cases h1 : s.toList = []
  · have a1 : s.toList.isEmpty = true := by rw [h1]; rfl
    go_enter Tryz.func149, Tryz.ntmps149
    go_wp2
    go_ret
    exact ⟨rfl, rfl⟩
  have a1 : s.toList.isEmpty = false := by cases hs : s.toList <;> simp_all
  have b1 : (s.toList == ([] : List UInt8)) = false := beq_eq_false_iff_ne.mpr h1
  by_cases h2 : s.toList = [46]
  · have b2 : (s.toList == ([46] : List UInt8)) = true := beq_iff_eq.mpr h2
    clear h1 h
    go_enter Tryz.func149, Tryz.ntmps149
    go_wp2
    go_ret
    exact ⟨rfl, rfl⟩
  have b2 : (s.toList == ([46] : List UInt8)) = false := beq_eq_false_iff_ne.mpr h2
  by_cases h3 : s.toList = [46, 46]
  · have b3 : (s.toList == ([46, 46] : List UInt8)) = true := beq_iff_eq.mpr h3
    clear h1 h2 h
    go_enter Tryz.func149, Tryz.ntmps149
    go_wp2
    go_ret
    exact ⟨rfl, rfl⟩
  have b3 : (s.toList == ([46, 46] : List UInt8)) = false := beq_eq_false_iff_ne.mpr h3
  have h4 : (s.size : Int) > 32 := by
    rcases h with h | h | h | h
    · exact absurd h h1
    · exact absurd h h2
    · exact absurd h h3
    · exact h
  clear h1 h2 h3 h
  go_enter Tryz.func149, Tryz.ntmps149
  go_wp2
  go_ret
  exact ⟨rfl, rfl⟩
set_option maxRecDepth 100000 in
theorem name_good (s : ByteArray) (w : World) (h1 : ¬ s.toList = []) (h2 : ¬ s.toList = [46]) (h3 : ¬ s.toList = [46, 46]) (h4 : ¬ (s.size : Int) > 32) : Calls Tryz.prog 149 #[.string s] w fun e w' => e = .returned (.bool (goodF s s.size 0)) ∧ Below w.heap.size w w' := by
  have a1 : s.toList.isEmpty = false := by cases hs : s.toList <;> simp_all
  have b1 : (s.toList == ([] : List UInt8)) = false := beq_eq_false_iff_ne.mpr h1
  have b2 : (s.toList == ([46] : List UInt8)) = false := beq_eq_false_iff_ne.mpr h2
  have b3 : (s.toList == ([46, 46] : List UInt8)) = false := beq_eq_false_iff_ne.mpr h3
  clear h1 h2 h3
  have hbel : ∀ j, Hid (Below w.heap.size w (w.iter s j)) := fun j => (Below.refl _ w).alloc (Nat.le_refl _) _
  go_enter Tryz.func149, Tryz.ntmps149
  go_upto_region 4 with (fail)
  go_loopw [] (fun w' => ∃ j : Nat, j ≤ s.size ∧ w' = w.iter s j ∧ Hid (goodF s (s.size - j) j = goodF s s.size 0)) (fun w' => s.size - w'.iterPos w.heap.size)
  case atStart => exact ⟨0, by omega, rfl, rfl⟩
  case round =>
    obtain ⟨j, hj, rfl, hg⟩ := hrel
    by_cases hp : j < s.size
    · have hnx : ∀ ty, (Instr.next (.pointer (some ⟨w.heap.size, 0, none⟩)) true ty).run Tryz.prog (w.iter s j) = _ := fun ty => run_next_any w s j ty hp
      have hst := goodF_step s j hp
      have hbt := bt_nat s j hp
      by_cases ha : (s[j]'hp).toNat < 128
      · rw [decode_ascii s j hp ha] at hnx
        simp only at hnx
        rw [← hbt] at hnx
        by_cases c1 : bt s j < 33
        · rw [if_pos c1] at hst
          have hg' := hg.out
          rw [hst] at hg'
          clear hst hg
          have HG' : Hid (false = goodF s s.size 0) := hg'
          clear hg' hbt
          go_wp2
          go_ret
          exact ⟨congrArg (fun q => Ending.returned (.bool q)) HG'.out, (hbel _).out⟩
        rw [if_neg c1] at hst
        by_cases c2 : bt s j > 126
        · rw [if_pos c2] at hst
          have hg' := hg.out
          rw [hst] at hg'
          clear hst hg
          have HG' : Hid (false = goodF s s.size 0) := hg'
          clear hg' hbt
          go_wp2
          go_ret
          exact ⟨congrArg (fun q => Ending.returned (.bool q)) HG'.out, (hbel _).out⟩
        rw [if_neg c2] at hst
        have HN : Hid (goodF s (s.size - (j + 1)) (j + 1) = goodF s s.size 0) := hst ▸ hg.out
        clear hst hg hbt
        go_wp2
        go_roundw
        case rel => exact ⟨j + 1, by omega, rfl, HN⟩
        case measure => simp; omega
      · obtain ⟨hd, _⟩ := decode_high s j hp (by omega)
        have c1 : ¬ bt s j < 33 := by omega
        have c2 : bt s j > 126 := by omega
        rw [if_neg c1, if_pos c2] at hst
        have hg' := hg.out
        rw [hst] at hg'
        have HG' : Hid (false = goodF s s.size 0) := hg'
        clear hst hg hg' hbt c1 c2
        generalize Utf8.decode s j = r at *
        have d1 : ¬ r.1 < 33 := by omega
        have d2 : r.1 > 126 := by omega
        go_wp2
        go_ret
        exact ⟨congrArg (fun q => Ending.returned (.bool q)) HG'.out, (hbel _).out⟩
    · have hnx : ∀ ty, (Instr.next (.pointer (some ⟨w.heap.size, 0, none⟩)) true ty).run Tryz.prog (w.iter s j) = _ := fun ty => run_next_end w s j ty hp
      obtain rfl : j = s.size := by omega
      have hg' := hg.out
      rw [Nat.sub_self] at hg'
      have HG' : Hid (true = goodF s s.size 0) := hg'
      clear hg hg'
      go_wp2
      go_ret
      exact ⟨congrArg (fun q => Ending.returned (.bool q)) HG'.out, (hbel _).out⟩
theorem name_calls (s : ByteArray) (w : World) : Calls Tryz.prog 149 #[.string s] w fun e w' => e = .returned (.bool (nameB s)) ∧ Below w.heap.size w w' := by
  unfold nameB
  by_cases h1 : s.toList = []
  · rw [if_pos h1]
    exact (name_bad s w (.inl h1)).mono fun e w' ⟨h, h'⟩ => ⟨h, h' ▸ Below.refl _ _⟩
  rw [if_neg h1]
  by_cases h2 : s.toList = [46]
  · rw [if_pos h2]
    exact (name_bad s w (.inr (.inl h2))).mono fun e w' ⟨h, h'⟩ => ⟨h, h' ▸ Below.refl _ _⟩
  rw [if_neg h2]
  by_cases h3 : s.toList = [46, 46]
  · rw [if_pos h3]
    exact (name_bad s w (.inr (.inr (.inl h3)))).mono fun e w' ⟨h, h'⟩ => ⟨h, h' ▸ Below.refl _ _⟩
  rw [if_neg h3]
  by_cases h4 : (s.size : Int) > 32
  · rw [if_pos h4]
    exact (name_bad s w (.inr (.inr (.inr h4)))).mono fun e w' ⟨h, h'⟩ => ⟨h, h' ▸ Below.refl _ _⟩
  rw [if_neg h4]
  exact name_good s w h1 h2 h3 h4
end Go.Proofs.YtcbecbalhnomcaaGreatDoor.Tree
namespace Go.Proofs.YtcbecbalhnomcaaGreatDoor.Tree
open Go

/-- a text split at a byte, with what has been read of a piece -/
def sp (c : UInt8) : List UInt8 → List UInt8 → List (List UInt8)
  | cur, [] => [cur]
  | cur, b :: l => if b = c then cur :: sp c [] l else sp c (cur ++ [b]) l
theorem indexByte_no (c : UInt8) : ∀ l : List UInt8, (∀ x ∈ l, x ≠ c) → Lib.indexByte l c = -1 := by
  intro l
  induction l with
  | nil => intro _; rfl
  | cons b l ih =>
    intro h
    have hb : (b == c) = false := by simpa using h b (by simp)
    rw [Lib.indexByte, hb, ih (fun x hx => h x (by simp [hx]))]
    rfl
theorem indexByte_hit (c : UInt8) (r : List UInt8) : ∀ l : List UInt8, (∀ x ∈ l, x ≠ c) → Lib.indexByte (l ++ c :: r) c = (l.length : Int) := by
  intro l
  induction l with
  | nil => intro _; simp [Lib.indexByte]
  | cons b l ih =>
    intro h
    have hb : (b == c) = false := by simpa using h b (by simp)
    have := ih (fun x hx => h x (by simp [hx]))
    rw [List.cons_append, Lib.indexByte, hb, this]
    have h1 : ((l.length : Int) == -1) = false := by simp
    rw [h1]
    simp
theorem split_sp (c : UInt8) : ∀ (l cur : List UInt8), (∀ x ∈ cur, x ≠ c) → Lib.split (cur ++ l) [c] = sp c cur l := by
  intro l
  induction l with
  | nil =>
    intro cur h
    rw [List.append_nil]
    unfold Lib.split
    rw [Lib.count_miss (by rw [Lib.index_one]; exact indexByte_no c cur h)]
    rfl
  | cons b l ih =>
    intro cur h
    unfold sp
    by_cases hb : b = c
    · subst hb
      rw [if_pos rfl]
      have hi : Lib.index (cur ++ b :: l) [b] = (cur.length : Int) := by rw [Lib.index_one]; exact indexByte_hit b l cur h
      have hd : (cur ++ b :: l).drop (cur.length + 1) = l := by simp
      unfold Lib.split
      rw [Lib.count_hit (by simp) hi, Nat.add_comm 1]
      unfold Lib.splitK
      have h1 : ((cur.length : Int) == -1) = false := by simp
      rw [hi, h1]
      simp only [Int.toNat_natCast, List.length_singleton, Nat.add_zero, hd, Bool.false_eq_true, if_false]
      rw [List.take_left]
      congr 1
      have := ih [] (by simp)
      rw [List.nil_append] at this
      exact this
    · rw [if_neg hb]
      have := ih (cur ++ [b]) (by
        intro x hx
        rcases List.mem_append.1 hx with hx | hx
        · exact h x hx
        · rw [List.mem_singleton.1 hx]; exact hb)
      rw [List.append_assoc] at this
      exact this
end Go.Proofs.YtcbecbalhnomcaaGreatDoor.Tree
namespace Go.Proofs.YtcbecbalhnomcaaGreatDoor.Tree
open Go.RowKit Go.Proofs.YtcbecbalhnomcaaGreatDoorW.PrintWords Go.Proofs.YtcbecbalhnomcaaGreatDoor.PCoordServes

/-- what a byte counts in the order: nothing behind the end, a slash ahead of all else -/
def key (s : ByteArray) (j : Nat) : Int := if j < s.size then (if bt s j = 47 then 0 else bt s j + 1) else -1
def ordF (a b : ByteArray) : Nat → Nat → Int
  | 0, _ => 0
  | n + 1, j => if key a j < key b j then -1 else if key a j > key b j then 1 else ordF a b n (j + 1)
def ord (a b : ByteArray) : Int := ordF a b (max a.size b.size) 0
theorem ordF_turn (a b : ByteArray) : ∀ n j, ordF b a n j = - ordF a b n j := by
  intro n
  induction n with
  | zero => intro j; rfl
  | succ n ih =>
    intro j
    unfold ordF
    rw [ih]
    repeat' split
    all_goals omega
theorem ref_order_l0 (a b : ByteArray) (ha : a.size ≤ 1000) (hb : b.size ≤ 1000) : ∀ (n j : Nat), j + n = max a.size b.size → barqueref09_Order.l0 (4 * n + 2) a b (j : Int) = some (ordF a b n j) := by
  intro n
  induction n with
  | zero =>
    intro j hj
    rw [barqueref09_Order.l0, if_neg (by omega), decide_eq_false (by omega), barqueref09_Order.j1, if_neg (by decide)]
    rfl
  | succ n ih =>
    intro j hj
    have hrest : ∀ x y : Int, barqueref09_Order.j3 (4 * n + 2 + 1) a b (j : Int) x y = some (if x < y then -1 else if x > y then 1 else ordF a b n (j + 1)) := by
      intro x y
      rw [barqueref09_Order.j3]
      by_cases c1 : x < y
      · rw [if_pos c1, if_pos c1]
      rw [if_neg c1, if_neg c1]
      by_cases c2 : x > y
      · rw [if_pos c2, if_pos c2]
      rw [if_neg c2, if_neg c2, Co.w64 (by omega) (by omega)]
      exact ih (j + 1) (by omega)
    have hb1 := bt_range a (j : Int)
    have hb2 := bt_range b (j : Int)
    have h2 : ∀ x : Int, barqueref09_Order.j2 (4 * n + 2 + 2) a b (j : Int) x (-1) = some (if x < key b j then -1 else if x > key b j then 1 else ordF a b n (j + 1)) := by
      intro x
      rw [barqueref09_Order.j2]
      unfold key
      by_cases c1 : j < b.size
      · rw [if_pos (by omega), if_pos (by omega), if_pos c1]
        by_cases c2 : bt b (j : Int) = 47
        · rw [if_pos c2, if_pos c2]; exact hrest _ _
        · rw [if_neg c2, if_neg c2, Co.w64 (x := bt b (j : Int)) (by omega) (by omega), Co.w64 (by omega) (by omega)]; exact hrest _ _
      · rw [if_neg (by omega), if_neg c1]; exact hrest _ _
    have h1 : barqueref09_Order.j1 (4 * n + 2 + 3) a b (j : Int) true = some (ordF a b (n + 1) j) := by
      rw [barqueref09_Order.j1, if_pos rfl]
      unfold ordF
      rw [show key a j = if j < a.size then (if bt a j = 47 then 0 else bt a j + 1) else -1 from rfl]
      by_cases c1 : j < a.size
      · rw [if_pos (by omega), if_pos (by omega), if_pos c1]
        by_cases c2 : bt a (j : Int) = 47
        · rw [if_pos c2, if_pos c2]; exact h2 _
        · rw [if_neg c2, if_neg c2, Co.w64 (x := bt a (j : Int)) (by omega) (by omega), Co.w64 (by omega) (by omega)]; exact h2 _
      · rw [if_neg (by omega), if_neg c1]; exact h2 _
    rw [show 4 * (n + 1) + 2 = (4 * n + 2 + 3) + 1 from by omega, barqueref09_Order.l0]
    by_cases c : (j : Int) < (a.size : Int)
    · rw [if_pos c]; exact h1
    · rw [if_neg c, decide_eq_true (by omega)]; exact h1
theorem ref_order (a b : ByteArray) (ha : a.size ≤ 200) (hb : b.size ≤ 200) (k : Nat) (hk : 1000 ≤ k) : barqueref09_Order.f k a b = some (ord a b) :=
  at_rounds (g := fun k => barqueref09_Order.l0 k a b 0) (fun k => (barqueref09_Order.mono_l k).1 a b 0) (by omega : 4 * (max a.size b.size) + 2 ≤ k) (ref_order_l0 a b (by omega) (by omega) (max a.size b.size) 0 (by omega))
end Go.Proofs.YtcbecbalhnomcaaGreatDoor.Tree
namespace Go.Proofs.YtcbecbalhnomcaaGreatDoor.Tree
open Go.RowKit Go.Proofs.YtcbecbalhnomcaaGreatDoorW.PrintWords

/-- an answer with the sign of o -/
def Sg (r o : Int) : Prop := (r > 0 ↔ o = 1) ∧ (r = 0 ↔ o = 0)
theorem ordF_step (a b : ByteArray) (j : Nat) (h : j < max a.size b.size) : ordF a b (max a.size b.size - j) j = if key a j < key b j then -1 else if key a j > key b j then 1 else ordF a b (max a.size b.size - (j + 1)) (j + 1) := by
  obtain ⟨n, hn⟩ : ∃ n, max a.size b.size - j = n + 1 := ⟨max a.size b.size - j - 1, by omega⟩
  rw [hn, show max a.size b.size - (j + 1) = n from by omega]
  rfl
set_option maxRecDepth 100000 in
theorem order_calls (a b : ByteArray) (ha : a.size ≤ 200) (hb : b.size ≤ 200) (w : World) : Calls Tryz.prog 132 #[.string a, .string b] w fun e w' => ∃ r, e = .returned (.int .i64 r) ∧ Hid (Sg r (ord a b) ∧ Below w.heap.size w w') := by
  have HD : Hid (Drawn0 w w) := Drawn0.refl _
  go_enter Tryz.func132, Tryz.ntmps132
  go_upto_region 2 with (fail)
  all_goals
    go_loopw [13] (fun i wr => ∃ j : Nat, j ≤ a.size ∧ j ≤ b.size ∧ i = .int .i64 j ∧ Hid (ordF a b (max a.size b.size - j) j = ord a b) ∧ Hid (Drawn0 w wr)) (fun i _ => a.size - (intOf i).toNat)
    case atStart => exact ⟨0, by omega, by omega, rfl, rfl, HD⟩
    case round =>
      obtain ⟨j, hj1, hj2, rfl, hg, hd⟩ := hrel
      clear HD
      by_cases hlt : j < a.size ∧ j < b.size
      · obtain ⟨l1, l2⟩ := hlt
        have hst := ordF_step a b j (by omega)
        have ba := bt_nat a j l1
        have bb := bt_nat b j l2
        have ra := bt_range a (j : Int)
        have rb := bt_range b (j : Int)
        have ka : key a j = if bt a j = 47 then 0 else bt a j + 1 := if_pos l1
        have kb : key b j = if bt b j = 47 then 0 else bt b j + 1 := if_pos l2
        rw [ka, kb] at hst
        clear ka kb
        go_upto_region 4 with (fail)
        go_quiet (fail)
        rw [← ba, ← bb]
        clear ba bb
        have hg' := hg.out
        rw [hst] at hg'
        clear hg hst
        generalize bt a (j : Int) = x at *
        generalize bt b (j : Int) = y at *
        by_cases c0 : x = y
        · subst c0
          rw [if_neg (by omega), if_neg (by omega)] at hg'
          have HG : Hid (ordF a b (max a.size b.size - (j + 1)) (j + 1) = ord a b) := hg'
          clear hg'
          go_wp2
          go_roundw
          case rel => exact ⟨j + 1, by omega, by omega, by go_num, HG, hd.out.step _⟩
          case measure => simp [intOf]; omega
        have b0 : (x == y) = false := by simpa using c0
        by_cases c1 : x = 47
        · have hy : ¬ y = 47 := fun e => c0 (c1.trans e.symm)
          rw [show (if x = 47 then (0 : Int) else x + 1) = 0 from if_pos c1, show (if y = 47 then (0 : Int) else y + 1) = y + 1 from if_neg hy, if_pos (by omega)] at hg'
          clear hy
          subst c1
          have HG : Hid (-1 = ord a b) := hg'
          clear hg' c0
          go_wp2
          go_ret
          exact ⟨_, rfl, by rw [← HG.out]; exact ⟨by decide, by decide⟩, Drawn0.below (hd.out.step _)⟩
        have b1 : (x == 47) = false := by simpa using c1
        rw [if_neg c1] at hg'
        by_cases c2 : y = 47
        · subst c2
          rw [if_pos rfl, if_neg (by omega), if_pos (by omega)] at hg'
          have HG : Hid (1 = ord a b) := hg'
          clear hg' c0 c1
          go_wp2
          go_ret
          exact ⟨_, rfl, by rw [← HG.out]; exact ⟨by decide, by decide⟩, Drawn0.below (hd.out.step _)⟩
        have b2 : (y == 47) = false := by simpa using c2
        rw [if_neg c2] at hg'
        have i1 : wrap64 (x - y) = x - y := Co.w64 (by omega) (by omega)
        have HG : Hid (Sg (x - y) (ord a b)) := by
          show Sg _ _
          rw [← hg']
          unfold Sg
          split
          · omega
          · split <;> omega
        clear hg' c0 c1 c2
        go_wp2
        go_ret
        exact ⟨_, rfl, HG.out, Drawn0.below (hd.out.step _)⟩
      · have HG : Hid (Sg ((a.size : Int) - (b.size : Int)) (ord a b)) := by
          show Sg _ _
          rw [← hg.out]
          by_cases e : a.size = b.size
          · rw [show max a.size b.size - j = 0 from by omega]
            unfold ordF Sg
            omega
          · rw [ordF_step a b j (by omega)]
            have ra := bt_range a (j : Int)
            have rb := bt_range b (j : Int)
            unfold Sg
            by_cases l1 : j < a.size
            · rw [show key a j = if bt a j = 47 then 0 else bt a j + 1 from if_pos l1, show key b j = -1 from if_neg (by omega)]
              by_cases c : bt a (j : Int) = 47
              · rw [if_pos c, if_neg (by omega), if_pos (by omega)]; omega
              · rw [if_neg c, if_neg (by omega), if_pos (by omega)]; omega
            · rw [show key b j = if bt b j = 47 then 0 else bt b j + 1 from if_pos (by omega), show key a j = -1 from if_neg l1]
              by_cases c : bt b (j : Int) = 47
              · rw [if_pos c, if_pos (by omega)]; omega
              · rw [if_neg c, if_pos (by omega)]; omega
        have i1 : wrap64 ((a.size : Int) - (b.size : Int)) = (a.size : Int) - (b.size : Int) := Co.w64 (by omega) (by omega)
        have i2 : ¬ ((j : Int) < (a.size : Int)) ∨ ¬ ((j : Int) < (b.size : Int)) := by omega
        clear hg
        first
          | (have i3 : ¬ ((j : Int) < (a.size : Int)) := by omega
             go_wp2
             go_ret
             exact ⟨_, rfl, HG.out, Drawn0.below hd.out⟩)
          | (have i3 : ¬ ((j : Int) < (b.size : Int)) := by omega
             go_wp2
             go_ret
             exact ⟨_, rfl, HG.out, Drawn0.below hd.out⟩)
end Go.Proofs.YtcbecbalhnomcaaGreatDoor.Tree
namespace Go.Proofs.YtcbecbalhnomcaaGreatDoor.Tree
open Go.RowKit Go.Proofs.YtcbecbalhnomcaaGreatDoorW.PrintWords Go.Proofs.YtcbecbalhnomcaaGreatDoor.PCoordServes

def withinB (s t : ByteArray) : Bool := decide ((s.size : Int) > t.size) && (((s.extract 0 t.size).toList == t.toList) && (bt s t.size == 47))
set_option maxRecDepth 100000 in
theorem within_calls (s t : ByteArray) (w : World) : Calls Tryz.prog 133 #[.string s, .string t] w fun e w' => e = .returned (.bool (withinB s t)) ∧ Hid (Below w.heap.size w w') := by
  by_cases h : (s.size : Int) > t.size
  · have h1 : t.size ≤ s.size := by omega
    have h2 : t.size < s.size := by omega
    have hb := bt_nat s t.size h2
    unfold withinB
    rw [decide_eq_true h, Bool.true_and]
    cases hq : ((s.extract 0 t.size).toList == t.toList)
    · go_enter Tryz.func133, Tryz.ntmps133
      go_wp2
      go_ret
      exact ⟨rfl, Below.refl _ _⟩
    · rw [Bool.true_and]
      have hx : Hid ((bt s (t.size : Int) == 47) = ((((s[t.size]'h2).toNat : Nat) : Int) == 47)) := by show _ = _; rw [hb]
      rw [hx.out]
      clear hb
      go_enter Tryz.func133, Tryz.ntmps133
      go_wp2
      go_ret
      exact ⟨rfl, Below.refl _ _⟩
  · unfold withinB
    rw [decide_eq_false h, Bool.false_and]
    go_enter Tryz.func133, Tryz.ntmps133
    go_wp2
    go_ret
    exact ⟨rfl, Below.refl _ _⟩
end Go.Proofs.YtcbecbalhnomcaaGreatDoor.Tree
namespace Go.Proofs.YtcbecbalhnomcaaGreatDoor.Tree
open Go.RowKit Go.Proofs.YtcbecbalhnomcaaGreatDoorW.PrintWords Go.Proofs.YtcbecbalhnomcaaGreatDoor.PCoordServes

theorem ref_name_l0 (s : ByteArray) (hs : s.size ≤ 1000) : ∀ (n j : Nat), j + n = s.size → barqueref09_name.l0 (n + 1) s (j : Int) = some (goodF s n j) := by
  intro n
  induction n with
  | zero =>
    intro j hj
    rw [barqueref09_name.l0, if_neg (by omega)]
    rfl
  | succ n ih =>
    intro j hj
    rw [barqueref09_name.l0, if_pos (by omega), if_pos (by omega)]
    unfold goodF
    by_cases c1 : bt s (j : Int) < 33
    · rw [if_pos c1, if_pos c1]
    rw [if_neg c1, if_neg c1]
    by_cases c2 : bt s (j : Int) > 126
    · rw [if_pos c2, if_pos c2]
    rw [if_neg c2, if_neg c2, Co.w64 (by omega) (by omega)]
    exact ih (j + 1) (by omega)
theorem ref_name (s : ByteArray) (k : Nat) (hk : 100 ≤ k) : barqueref09_name.f k s = some (nameB s) := by
  have key : barqueref09_name.f 100 s = some (nameB s) := by
    unfold barqueref09_name.f nameB
    by_cases h1 : s.toList = []
    · rw [if_pos h1, if_pos h1]; rfl
    rw [if_neg h1, if_neg h1]
    by_cases h2 : s.toList = [46]
    · rw [if_pos h2, if_pos h2]; rfl
    rw [if_neg h2, if_neg h2]
    by_cases h3 : s.toList = [46, 46]
    · rw [if_pos h3, if_pos h3]; rfl
    rw [if_neg h3, if_neg h3]
    by_cases h4 : (s.size : Int) > 32
    · rw [if_pos h4, decide_eq_true h4]; rfl
    rw [if_neg h4, decide_eq_false h4, barqueref09_name.j0, if_neg (by decide)]
    have h := ref_name_l0 s (by omega) s.size 0 (by omega)
    exact at_rounds (g := fun k => barqueref09_name.l0 k s 0) (fun k => (barqueref09_name.mono_l k).2 s 0) (by omega : s.size + 1 ≤ 99) h
  exact at_rounds (g := fun k => barqueref09_name.f k s) (fun k => barqueref09_name.mono s k) hk key
end Go.Proofs.YtcbecbalhnomcaaGreatDoor.Tree
namespace Go.Proofs.YtcbecbalhnomcaaGreatDoor.Tree
open Go.RowKit Go.Proofs.YtcbecbalhnomcaaGreatDoorW.PrintWords Go.Proofs.YtcbecbalhnomcaaGreatDoor.PCoordServes

theorem ext_data (s : ByteArray) (a b : Nat) : (s.extract a b).data.toList = (s.data.toList.drop a).take (b - a) := by
  rw [ByteArray.data_extract, Array.toList_extract]
theorem drop_at (s : ByteArray) (i : Nat) (h : i < s.size) : s.data.toList.drop i = s[i] :: s.data.toList.drop (i + 1) := by
  have h' : i < s.data.toList.length := by rw [Array.length_toList]; exact h
  rw [List.drop_eq_getElem_cons h']
  congr 1
theorem bt_47 (s : ByteArray) (i : Nat) (h : i < s.size) : bt s (i : Int) = 47 ↔ s[i] = 47 := by
  rw [bt_nat s i h]
  constructor
  · intro e
    apply UInt8.toNat_inj.1
    have : (s[i]).toNat = 47 := by omega
    rw [this]
    rfl
  · intro e
    rw [e]
    rfl
theorem ref_names_l0 (s : ByteArray) (hs : s.size ≤ 1000) : ∀ (n i : Nat), i + n = s.size → ∀ (fr : Nat) (acc : List ByteArray), fr ≤ i → acc.length ≤ i →
    ∃ L : List ByteArray, barqueref09_Names.l0 (n + 2) s acc (fr : Int) (i : Int) = some (acc ++ L) ∧ L.map (fun x => x.data.toList) = sp 47 (s.extract fr i).data.toList (s.data.toList.drop i) := by
  intro n
  induction n with
  | zero =>
    intro i hi fr acc hf ha
    obtain rfl : i = s.size := by omega
    refine ⟨[s.extract fr s.size], ?_, ?_⟩
    · rw [barqueref09_Names.l0, if_pos (by omega), if_pos rfl, if_pos (by omega), if_pos (by omega), if_pos (by omega), Co.w64 (by omega) (by omega), barqueref09_Names.l0, if_neg (by omega)]
      simp
    · rw [List.drop_eq_nil_of_le (by rw [Array.length_toList]; exact Nat.le_refl _)]
      simp [sp]
  | succ n ih =>
    intro i hi fr acc hf ha
    have hlt : i < s.size := by omega
    by_cases hb : bt s (i : Int) = 47
    · obtain ⟨L, h1, h2⟩ := ih (i + 1) (by omega) (i + 1) (acc ++ [s.extract fr i]) (by omega) (by simp; omega)
      refine ⟨s.extract fr i :: L, ?_, ?_⟩
      · rw [barqueref09_Names.l0, if_pos (by omega), if_neg (by omega), if_pos (by omega), if_pos (by omega), if_pos hb, if_pos (by omega), if_pos (by omega), if_pos (by omega), Co.w64 (by omega) (by omega)]
        simp only [Int.toNat_natCast]
        rw [show ((i : Int) + 1) = ((i + 1 : Nat) : Int) from by simp, h1]
        simp
      · rw [drop_at s i hlt]
        unfold sp
        rw [if_pos ((bt_47 s i hlt).1 hb), List.map_cons, h2, ext_data s (i + 1) (i + 1)]
        simp
    · obtain ⟨L, h1, h2⟩ := ih (i + 1) (by omega) fr acc (by omega) (by omega)
      refine ⟨L, ?_, ?_⟩
      · rw [barqueref09_Names.l0, if_pos (by omega), if_neg (by omega), if_pos (by omega), if_pos (by omega), if_neg hb, Co.w64 (by omega) (by omega)]
        rw [show ((i : Int) + 1) = ((i + 1 : Nat) : Int) from by simp, h1]
      · rw [drop_at s i hlt]
        unfold sp
        rw [if_neg (fun e => hb ((bt_47 s i hlt).2 e)), h2]
        congr 1
        rw [ext_data, ext_data, show i + 1 - fr = (i - fr) + 1 from by omega, List.take_add_one, List.getElem?_drop, show fr + (i - fr) = i from by omega]
        congr 1
        have h' : i < s.data.toList.length := by rw [Array.length_toList]; exact hlt
        rw [List.getElem?_eq_getElem h']
        rfl
/-- a path's names -/
def names (s : ByteArray) : List ByteArray := Lib.splitB ⟨#[47]⟩ 0 (Lib.countB s ⟨#[47]⟩) s
theorem names_data (s : ByteArray) : (names s).map (fun x => x.data.toList) = sp 47 [] s.data.toList := by
  have h := Lib.splitB_data ⟨#[47]⟩ 0 (Lib.countB s ⟨#[47]⟩) s
  have h2 := split_sp 47 s.data.toList [] (by simp)
  rw [List.nil_append] at h2
  rw [← h2]
  exact h
theorem map_data_inj : ∀ (L L' : List ByteArray), L.map (fun x => x.data.toList) = L'.map (fun x => x.data.toList) → L = L'
  | [], [], _ => rfl
  | [], _ :: _, h => by simp at h
  | _ :: _, [], h => by simp at h
  | a :: L, b :: L', h => by
    simp only [List.map_cons, List.cons.injEq] at h
    rw [map_data_inj L L' h.2]
    congr 1
    cases a; cases b
    congr 1
    exact Array.toList_inj.1 h.1
theorem ref_names (s : ByteArray) (hs : s.size ≤ 200) (k : Nat) (hk : 300 ≤ k) : barqueref09_Names.f k s = some (names s) := by
  obtain ⟨L, h1, h2⟩ := ref_names_l0 s (by omega) s.size 0 (by omega) 0 [] (by omega) (by simp)
  have e : L = names s := map_data_inj _ _ (by rw [names_data, h2, ext_data]; simp)
  rw [List.nil_append, e] at h1
  exact at_rounds (g := fun k => barqueref09_Names.l0 k s [] 0 0) (fun k => barqueref09_Names.mono_l k s [] 0 0) (by omega : s.size + 2 ≤ k) h1
theorem names_le (s : ByteArray) (hs : s.size ≤ 200) : (names s).length ≤ 202 := by
  have h := Lib.splitB_length_le ⟨#[47]⟩ 0 (Lib.countB s ⟨#[47]⟩) s
  have h2 : Lib.countB s ⟨#[47]⟩ ≤ s.data.toList.length + 1 := Lib.count_le _ _
  rw [Array.length_toList] at h2
  have h3 : s.data.size = s.size := rfl
  unfold names
  omega
/-- what is wrong with a path -/
def pathE (s : ByteArray) : Int := if (s.size : Int) > 200 then 4 else if (names s).all nameB then 0 else 10
def allF (L : List ByteArray) : Nat → Nat → Int
  | 0, _ => 0
  | n + 1, j => if nameB (L.getD j ByteArray.empty) then allF L n (j + 1) else 10
theorem allF_all (L : List ByteArray) : ∀ n j, j + n = L.length → allF L n j = if (L.drop j).all nameB then 0 else 10 := by
  intro n
  induction n with
  | zero =>
    intro j hj
    rw [List.drop_eq_nil_of_le (by omega)]
    rfl
  | succ n ih =>
    intro j hj
    rw [List.drop_eq_getElem_cons (by omega : j < L.length)]
    unfold allF
    rw [List.getD_eq_getElem?_getD, List.getElem?_eq_getElem (by omega : j < L.length), Option.getD_some, ih (j + 1) (by omega)]
    rw [List.all_cons]
    cases nameB L[j]
    · rfl
    · rfl
theorem ref_path_l0 (L : List ByteArray) (hL : L.length ≤ 1000) : ∀ (n j : Nat), j + n = L.length → barqueref09_Path.l0 (n + 101) L (j : Int) = some (allF L n j) := by
  intro n
  induction n with
  | zero =>
    intro j hj
    rw [barqueref09_Path.l0, if_neg (by omega)]
    rfl
  | succ n ih =>
    intro j hj
    rw [show n + 1 + 101 = (n + 101) + 1 from by omega, barqueref09_Path.l0, if_pos (by omega), if_pos (by omega), ref_name _ _ (by omega), Option.bind_some, Co.w64 (by omega) (by omega)]
    unfold allF
    have e : rdOf ByteArray.empty L (j : Int) = L.getD j ByteArray.empty := by simp [rdOf]
    rw [e]
    cases nameB (L.getD j ByteArray.empty)
    · rfl
    · exact ih (j + 1) (by omega)
theorem ref_path (s : ByteArray) (k : Nat) (hk : 400 ≤ k) : barqueref09_Path.f k s = some (pathE s) := by
  unfold barqueref09_Path.f pathE
  by_cases h : (s.size : Int) > 200
  · rw [if_pos h, if_pos h]
  · rw [if_neg h, if_neg h, ref_names s (by omega) k (by omega), Option.bind_some]
    have hl := names_le s (by omega)
    have := ref_path_l0 (names s) (by omega) (names s).length 0 (by omega)
    rw [allF_all _ _ _ (by omega), List.drop_zero] at this
    exact at_rounds (g := fun k => barqueref09_Path.l0 k (names s) 0) (fun k => barqueref09_Path.mono_l k (names s) 0) (by omega : (names s).length + 101 ≤ k) this
end Go.Proofs.YtcbecbalhnomcaaGreatDoor.Tree
namespace Go.Proofs.YtcbecbalhnomcaaGreatDoor.Tree
open Go.RowKit Go.Proofs.YtcbecbalhnomcaaGreatDoorW.PrintWords Go.Proofs.YtcbecbalhnomcaaGreatDoor.PCoordServes

theorem ref_within (s t : ByteArray) (ht : t.size ≤ 200) : barqueref09_Within.f s t = some (withinB s t) := by
  unfold barqueref09_Within.f withinB
  by_cases h : (s.size : Int) > t.size
  · have h2 : t.size < s.size := by omega
    rw [if_pos h, decide_eq_true h, Bool.true_and, Co.w64 (by omega) (by omega), if_pos (by omega), if_pos (by omega), if_pos (by omega)]
    congr 1
    rw [show ((t.size : Int) + 1).toNat = t.size + 1 from by omega]
    rw [ByteArray.toList_eq, ByteArray.toList_eq, ByteArray.toList_eq, ByteArray.toList_eq, ext_data, ext_data, bt_nat s t.size h2]
    have e1 : (s.data.toList.drop 0).take (t.size + 1 - 0) = (s.data.toList.drop 0).take (t.size - 0) ++ [s[t.size]] := by
      have h' : t.size < s.data.toList.length := by rw [Array.length_toList]; exact h2
      rw [Nat.sub_zero, Nat.sub_zero, List.drop_zero, List.take_add_one, List.getElem?_eq_getElem h']
      rfl
    have e2 : (t ++ (⟨#[47]⟩ : ByteArray)).data.toList = t.data.toList ++ [47] := by simp [ByteArray.data_append]
    rw [e1, e2]
    rw [Bool.eq_iff_iff]
    simp only [beq_iff_eq, Bool.and_eq_true]
    have hl : ((s.data.toList.drop 0).take (t.size - 0)).length = t.data.toList.length := by
      rw [List.length_take, List.drop_zero, Array.length_toList, Array.length_toList]
      show min (t.size - 0) s.size = t.size
      omega
    constructor
    · intro e
      obtain ⟨a1, a2⟩ := List.append_inj e hl
      refine ⟨a1, ?_⟩
      rw [List.singleton_inj.1 a2]
      rfl
    · rintro ⟨a1, a2⟩
      rw [a1]
      congr 1
      congr 1
      apply UInt8.toNat_inj.1
      have : (s[t.size]).toNat = 47 := by omega
      rw [this]
      rfl
  · rw [if_neg h, decide_eq_false h, Bool.false_and]
end Go.Proofs.YtcbecbalhnomcaaGreatDoor.Tree
namespace Go.Proofs.YtcbecbalhnomcaaGreatDoor.Tree
open Go.RowKit Go.Proofs.YtcbecbalhnomcaaGreatDoorW.PrintWords Go.Proofs.YtcbecbalhnomcaaGreatDoor.PCoordServes

theorem key_inj (a b : ByteArray) (j : Nat) (h : key a j = key b j) (hj : j < a.size ∨ j < b.size) : j < a.size ∧ j < b.size ∧ bt a j = bt b j := by
  unfold key at h
  have ra := bt_range a (j : Int)
  have rb := bt_range b (j : Int)
  by_cases h1 : j < a.size <;> by_cases h2 : j < b.size
  · rw [if_pos h1, if_pos h2] at h
    refine ⟨h1, h2, ?_⟩
    by_cases c1 : bt a (j : Int) = 47 <;> by_cases c2 : bt b (j : Int) = 47
    · omega
    · rw [if_pos c1, if_neg c2] at h; omega
    · rw [if_neg c1, if_pos c2] at h; omega
    · rw [if_neg c1, if_neg c2] at h; omega
  · rw [if_pos h1, if_neg h2] at h
    by_cases c1 : bt a (j : Int) = 47
    · rw [if_pos c1] at h; omega
    · rw [if_neg c1] at h; omega
  · rw [if_neg h1, if_pos h2] at h
    by_cases c2 : bt b (j : Int) = 47
    · rw [if_pos c2] at h; omega
    · rw [if_neg c2] at h; omega
  · omega
theorem ordF_zero (a b : ByteArray) : ∀ n j, j + n = max a.size b.size → ordF a b n j = 0 → ∀ i, j ≤ i → i < max a.size b.size → key a i = key b i := by
  intro n
  induction n with
  | zero => intro j hj _ i h1 h2; omega
  | succ n ih =>
    intro j hj h i h1 h2
    unfold ordF at h
    by_cases c1 : key a j < key b j
    · rw [if_pos c1] at h; omega
    rw [if_neg c1] at h
    by_cases c2 : key a j > key b j
    · rw [if_pos c2] at h; omega
    rw [if_neg c2] at h
    by_cases e : i = j
    · subst e; omega
    · exact ih (j + 1) (by omega) h i (by omega) h2
theorem ordF_vals (a b : ByteArray) : ∀ n j, ordF a b n j = 1 ∨ ordF a b n j = 0 ∨ ordF a b n j = -1 := by
  intro n
  induction n with
  | zero => intro j; exact .inr (.inl rfl)
  | succ n ih =>
    intro j
    unfold ordF
    split
    · exact .inr (.inr rfl)
    · split
      · exact .inl rfl
      · exact ih _
theorem ord_vals (a b : ByteArray) : ord a b = 1 ∨ ord a b = 0 ∨ ord a b = -1 := ordF_vals a b _ _
theorem ord_zero (a b : ByteArray) : ord a b = 0 ↔ a = b := by
  constructor
  · intro h
    have hk := ordF_zero a b (max a.size b.size) 0 (by omega) h
    have hs : a.size = b.size := by
      rcases Nat.lt_trichotomy a.size b.size with h1 | h1 | h1
      · have := key_inj a b a.size (hk a.size (by omega) (by omega)) (.inr h1); omega
      · exact h1
      · have := key_inj a b b.size (hk b.size (by omega) (by omega)) (.inl h1); omega
    apply ByteArray.ext
    apply Array.ext (by exact hs)
    intro i h1 h2
    have h1' : i < a.size := h1
    have h2' : i < b.size := h2
    obtain ⟨_, _, e⟩ := key_inj a b i (hk i (by omega) (by omega)) (.inl h1')
    rw [bt_nat a i h1', bt_nat b i h2'] at e
    apply UInt8.toNat_inj.1
    exact Int.ofNat.inj e
  · rintro rfl
    have : ∀ n j, ordF a a n j = 0 := by
      intro n
      induction n with
      | zero => intro j; rfl
      | succ n ih =>
        intro j
        unfold ordF
        rw [if_neg (by omega), if_neg (by omega)]
        exact ih _
    exact this _ _
/-- the path at a place -/
def at_ (L : List ByteArray) (j : Nat) : ByteArray := L.getD j ByteArray.empty
def pF (L : List ByteArray) : Nat → Nat → Int
  | 0, _ => 0
  | n + 1, j => if pathE (at_ L j) = 0 then (if 0 < j then (if ord (at_ L j) (at_ L (j - 1)) < 0 then 12 else if at_ L j = at_ L (j - 1) then 9 else if withinB (at_ L j) (at_ L (j - 1)) then 9 else pF L n (j + 1)) else pF L n (j + 1)) else pathE (at_ L j)
/-- what is wrong with paths -/
def pathsE (L : List ByteArray) : Int := if (L.length : Int) > 256 then 7 else pF L L.length 0
theorem pathE_size (s : ByteArray) (h : pathE s = 0) : s.size ≤ 200 := by
  unfold pathE at h
  by_cases c : (s.size : Int) > 200
  · rw [if_pos c] at h; omega
  · omega
end Go.Proofs.YtcbecbalhnomcaaGreatDoor.Tree
