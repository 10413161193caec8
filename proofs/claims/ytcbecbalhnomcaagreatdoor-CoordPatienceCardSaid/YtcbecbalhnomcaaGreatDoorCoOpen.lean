/- Calls and messages that came in, opened. -/
import Derived.Test.YtcbecbalhnomcaaGreatDoorCoGet
import Derived.Test.YtcbecbalhnomcaaGreatDoorOpens
namespace Go.Proofs.YtcbecbalhnomcaaGreatDoor.Co
open Go.RowKit Go.ChangeShapes Go.WideShapes Go.Proofs.YtcbecbalhnomcaaGreatDoorW.PrintWords Go.Proofs.YtcbecbalhnomcaaGreatDoor.Opens

abbrev En : Type := Int × (Int × ByteArray)
def kEn : Kd En := Kd.pair (Kd.int .i64) (Kd.pair (Kd.int .i64) Kd.string)
abbrev Fi : Type := ByteArray × (Int × ByteArray)
abbrev Pa : Type := Int × (Int × ByteArray)
def kPa : Kd Pa := Kd.pair (Kd.int .i64) (Kd.pair (Kd.int .i64) Kd.string)
def kFi : Kd Fi := Kd.pair Kd.string (Kd.pair (Kd.int .i64) Kd.string)
/-- a list of files that is read -/
def Fs (w : World) (v : Value) (l : List Fi) : Prop := ∃ A c, v = .slice A l.length c ∧ l.length ≤ c ∧ Kd.C kFi w A l.length l
def Es (w : World) (v : Value) (l : List En) : Prop := ∃ A c, v = .slice A l.length c ∧ l.length ≤ c ∧ Kd.C kEn w A l.length l
section
variable {H : Type} {enc : TypeId × Value → H} {w : World} {base : Nat} {spare : Nat → Bool} {held : Bool}
theorem entry_opens : Opens enc Tryz.prog w base spare held 116 kEn (fun x => x.2.2.size ≤ maxLen) := by
  intro fuel cs x hx
  obtain ⟨a, k, _, _, q⟩ := opens_struct (d := kEn) Tryz.underlying116 (by kernel_rfl) (fopens_cons rfl (by kernel_rfl) (opens_int .i64 Tryz.underlying3) (fopens_cons rfl (by kernel_rfl) (opens_int .i64 Tryz.underlying3) (fopens_last rfl (by kernel_rfl) (opens_string Tryz.underlying9)))) fuel cs x hx
  exact ⟨a, k, q⟩
theorem file_opens : Opens enc Tryz.prog w base spare held 93 kFi (fun x => x.1.size ≤ maxLen ∧ (Lit.int .i64 x.2.1).wf = true ∧ x.2.2.size ≤ maxLen) := by
  intro fuel cs x hx
  exact opens_struct (d := kFi) Tryz.underlying93 (by kernel_rfl) (fopens_cons rfl (by kernel_rfl) (opens_string Tryz.underlying9) (fopens_cons rfl (by kernel_rfl) (opens_int .i64 Tryz.underlying3) (fopens_last rfl (by kernel_rfl) (opens_string Tryz.underlying9)))) fuel cs x hx
theorem entries_open {fuel : Nat} {cs : List Value} {x : DataW H × List MemPlace} (hx : DataW.trod enc Tryz.prog w base spare held fuel 25 cs = some x) :
    ∃ v l, cs = [v] ∧ Es w v l := by
  obtain ⟨A, c, l, e, h1, h2, _⟩ := row_C Tryz.underlying25 (by kernel_rfl) entry_opens hx
  exact ⟨_, l, e, A, c, rfl, h1, h2⟩
theorem files_open {fuel : Nat} {cs : List Value} {x : DataW H × List MemPlace} (hx : DataW.trod enc Tryz.prog w base spare held fuel 28 cs = some x) :
    ∃ v l, cs = [v] ∧ Fs w v l ∧ ∀ f ∈ l, f.1.size ≤ maxLen ∧ (Lit.int .i64 f.2.1).wf = true ∧ f.2.2.size ≤ maxLen := by
  obtain ⟨A, c, l, e, h1, h2, h3⟩ := row_C Tryz.underlying28 (by kernel_rfl) file_opens hx
  exact ⟨_, l, e, ⟨A, c, rfl, h1, h2⟩, h3⟩

theorem part_opens : Opens enc Tryz.prog w base spare held 24 kPa (fun x => (Lit.int .i64 x.1).wf = true ∧ (Lit.int .i64 x.2.1).wf = true ∧ x.2.2.size ≤ maxLen) := by
  intro fuel cs x hx
  exact opens_struct (d := kPa) Tryz.underlying24 (by kernel_rfl) (fopens_cons rfl (by kernel_rfl) (opens_int .i64 Tryz.underlying3) (fopens_cons rfl (by kernel_rfl) (opens_int .i64 Tryz.underlying3) (fopens_last rfl (by kernel_rfl) (opens_string Tryz.underlying9)))) fuel cs x hx
end
/-- a call that came in -/
structure KC (w : World) (k g : Int) (fs : Value) (l : List Fi) : Prop where
  kind : (Lit.int .i64 k).wf = true
  gen : (Lit.int .i64 g).wf = true
  files : Fs w fs l
  good : ∀ f ∈ l, f.1.size ≤ maxLen ∧ (Lit.int .i64 f.2.1).wf = true ∧ f.2.2.size ≤ maxLen
/-- a message that came in -/
structure MC (w : World) (m : Mg) (l : List En) : Prop where
  i_kind : (Lit.int .i64 m.kind).wf = true
  i_frm : (Lit.int .i64 m.frm).wf = true
  i_to_ : (Lit.int .i64 m.to_).wf = true
  i_ballot : (Lit.int .i64 m.ballot).wf = true
  i_gen : (Lit.int .i64 m.gen).wf = true
  i_basis : (Lit.int .i64 m.basis).wf = true
  i_floor : (Lit.int .i64 m.floor).wf = true
  i_top : (Lit.int .i64 m.top).wf = true
  i_read : (Lit.int .i64 m.read).wf = true
  i_at : (Lit.int .i64 m.at_).wf = true
  i_of : (Lit.int .i64 m.of_).wf = true
  mark : m.mark.size ≤ maxLen
  text : m.text.size ≤ maxLen
  list : Es w m.list l
theorem Fs.below {w w1 : World} {v : Value} {l : List Fi} (h : Fs w v l) (hb : Below w.heap.size w w1) : Fs w1 v l := by
  obtain ⟨A, c, e, h1, h2⟩ := h
  exact ⟨A, c, e, h1, Kd.C_below h2 hb⟩
theorem Es.below {w w1 : World} {v : Value} {l : List En} (h : Es w v l) (hb : Below w.heap.size w w1) : Es w1 v l := by
  obtain ⟨A, c, e, h1, h2⟩ := h
  exact ⟨A, c, e, h1, Kd.C_below h2 hb⟩
def kCa : Kd (Int × (Int × List Fi)) := Kd.pair (Kd.int .i64) (Kd.pair (Kd.int .i64) (Kd.slice 93 kFi))
abbrev TMg : Type := Int × (Int × (Int × (Int × (Int × (Int × (Int × (Int × (Int × (ByteArray × ((Int × (Int × ByteArray)) × List En))))))))))
def kMg : Kd TMg := Kd.pair (Kd.int .i64) ( Kd.pair (Kd.int .i64) ( Kd.pair (Kd.int .i64) ( Kd.pair (Kd.int .i64) ( Kd.pair (Kd.int .i64) ( Kd.pair (Kd.int .i64) ( Kd.pair (Kd.int .i64) ( Kd.pair (Kd.int .i64) ( Kd.pair (Kd.int .i64) (Kd.pair Kd.string (Kd.pair kPa (Kd.slice 116 kEn)))))))))))
section
variable {H : Type} {enc : TypeId × Value → H} {w : World} {base : Nat} {spare : Nat → Bool} {held : Bool}
theorem call_K {x : Int × (Int × List Fi)} {cs : List Value} (h : kCa.K w x cs) : ∃ fs, cs = (kcells x.1 x.2.1 fs).toList ∧ Fs w fs x.2.2 := by
  obtain ⟨c0, c1, rfl, h0, d0, d1, rfl, h1, A, c, rfl, h2, h3⟩ := h
  have h0' : c0 = [Value.int .i64 x.1] := h0
  have h1' : d0 = [Value.int .i64 x.2.1] := h1
  subst h0' h1'
  exact ⟨_, rfl, A, c, rfl, h2, h3⟩
theorem call_opens : Opens enc Tryz.prog w base spare held 30 kCa (fun x => (Lit.int .i64 x.1).wf = true ∧ (Lit.int .i64 x.2.1).wf = true ∧ ∀ f ∈ x.2.2, f.1.size ≤ maxLen ∧ (Lit.int .i64 f.2.1).wf = true ∧ f.2.2.size ≤ maxLen) := by
  intro fuel cs x hx
  exact opens_struct (d := kCa) Tryz.underlying30 (by kernel_rfl) (fopens_cons rfl (by kernel_rfl) (opens_int .i64 Tryz.underlying3) (fopens_cons rfl (by kernel_rfl) (opens_int .i64 Tryz.underlying3) (fopens_last rfl (by kernel_rfl) (opens_slice Tryz.underlying28 (by kernel_rfl) file_opens)))) fuel cs x hx
theorem call_open {fuel : Nat} {cs : List Value} {x : DataW H × List MemPlace} (hx : DataW.trod enc Tryz.prog w base spare held fuel 30 cs = some x) :
    ∃ z : Int × Int × Value × List Fi, cs = (kcells z.1 z.2.1 z.2.2.1).toList ∧ KC w z.1 z.2.1 z.2.2.1 z.2.2.2 := by
  obtain ⟨a, k, q0, q1, q2⟩ := call_opens fuel cs x hx
  obtain ⟨fs, e, h⟩ := call_K k
  exact ⟨(a.1, a.2.1, fs, a.2.2), e, q0, q1, h, q2⟩
def mgOf (x : TMg) (v : Value) : Mg := ⟨x.1, x.2.1, x.2.2.1, x.2.2.2.1, x.2.2.2.2.1, x.2.2.2.2.2.1, x.2.2.2.2.2.2.1, x.2.2.2.2.2.2.2.1, x.2.2.2.2.2.2.2.2.1, x.2.2.2.2.2.2.2.2.2.1, x.2.2.2.2.2.2.2.2.2.2.1.1, x.2.2.2.2.2.2.2.2.2.2.1.2.1, x.2.2.2.2.2.2.2.2.2.2.1.2.2, v⟩
theorem msg_K {x : TMg} {cs : List Value} (h : kMg.K w x cs) : ∃ v, cs = (mcells (mgOf x v)).toList ∧ Es w v x.2.2.2.2.2.2.2.2.2.2.2 := by
  obtain ⟨a0, b0, rfl, h0, a1, b1, rfl, h1, a2, b2, rfl, h2, a3, b3, rfl, h3, a4, b4, rfl, h4, a5, b5, rfl, h5, a6, b6, rfl, h6, a7, b7, rfl, h7, a8, b8, rfl, h8, a9, b9, rfl, h9, a10, b10, rfl, ⟨u0, u1, rfl, g0, u2, u3, rfl, g1, g2⟩, A, c, rfl, hl, hc⟩ := h
  have h0' : a0 = [Value.int .i64 x.1] := h0
  have h1' : a1 = [Value.int .i64 x.2.1] := h1
  have h2' : a2 = [Value.int .i64 x.2.2.1] := h2
  have h3' : a3 = [Value.int .i64 x.2.2.2.1] := h3
  have h4' : a4 = [Value.int .i64 x.2.2.2.2.1] := h4
  have h5' : a5 = [Value.int .i64 x.2.2.2.2.2.1] := h5
  have h6' : a6 = [Value.int .i64 x.2.2.2.2.2.2.1] := h6
  have h7' : a7 = [Value.int .i64 x.2.2.2.2.2.2.2.1] := h7
  have h8' : a8 = [Value.int .i64 x.2.2.2.2.2.2.2.2.1] := h8
  have h9' : a9 = [Value.string x.2.2.2.2.2.2.2.2.2.1] := h9
  have g0' : u0 = [Value.int .i64 x.2.2.2.2.2.2.2.2.2.2.1.1] := g0
  have g1' : u2 = [Value.int .i64 x.2.2.2.2.2.2.2.2.2.2.1.2.1] := g1
  have g2' : u3 = [Value.string x.2.2.2.2.2.2.2.2.2.2.1.2.2] := g2
  subst h0' h1' h2' h3' h4' h5' h6' h7' h8' h9' g0' g1' g2'
  exact ⟨_, rfl, A, c, rfl, hl, hc⟩
theorem msg_opens : Opens enc Tryz.prog w base spare held 27 kMg (fun x => (Lit.int .i64 x.1).wf = true ∧ (Lit.int .i64 x.2.1).wf = true ∧ (Lit.int .i64 x.2.2.1).wf = true ∧ (Lit.int .i64 x.2.2.2.1).wf = true ∧ (Lit.int .i64 x.2.2.2.2.1).wf = true ∧ (Lit.int .i64 x.2.2.2.2.2.1).wf = true ∧ (Lit.int .i64 x.2.2.2.2.2.2.1).wf = true ∧ (Lit.int .i64 x.2.2.2.2.2.2.2.1).wf = true ∧ (Lit.int .i64 x.2.2.2.2.2.2.2.2.1).wf = true ∧ x.2.2.2.2.2.2.2.2.2.1.size ≤ maxLen ∧ ((Lit.int .i64 x.2.2.2.2.2.2.2.2.2.2.1.1).wf = true ∧ (Lit.int .i64 x.2.2.2.2.2.2.2.2.2.2.1.2.1).wf = true ∧ x.2.2.2.2.2.2.2.2.2.2.1.2.2.size ≤ maxLen) ∧ ∀ f ∈ x.2.2.2.2.2.2.2.2.2.2.2, f.2.2.size ≤ maxLen) := by
  intro fuel cs x hx
  exact opens_struct (d := kMg) Tryz.underlying27 (by kernel_rfl) (fopens_cons rfl (by kernel_rfl) (opens_int .i64 Tryz.underlying3) (fopens_cons rfl (by kernel_rfl) (opens_int .i64 Tryz.underlying3) (fopens_cons rfl (by kernel_rfl) (opens_int .i64 Tryz.underlying3) (fopens_cons rfl (by kernel_rfl) (opens_int .i64 Tryz.underlying3) (fopens_cons rfl (by kernel_rfl) (opens_int .i64 Tryz.underlying3) (fopens_cons rfl (by kernel_rfl) (opens_int .i64 Tryz.underlying3) (fopens_cons rfl (by kernel_rfl) (opens_int .i64 Tryz.underlying3) (fopens_cons rfl (by kernel_rfl) (opens_int .i64 Tryz.underlying3) (fopens_cons rfl (by kernel_rfl) (opens_int .i64 Tryz.underlying3) (fopens_cons rfl (by kernel_rfl) (opens_string Tryz.underlying9) (fopens_cons rfl (by kernel_rfl) part_opens (fopens_last rfl (by kernel_rfl) (opens_slice Tryz.underlying25 (by kernel_rfl) entry_opens))))))))))))) fuel cs x hx
theorem MC.of {x : TMg} {v : Value} (q : (Lit.int .i64 x.1).wf = true ∧ (Lit.int .i64 x.2.1).wf = true ∧ (Lit.int .i64 x.2.2.1).wf = true ∧ (Lit.int .i64 x.2.2.2.1).wf = true ∧ (Lit.int .i64 x.2.2.2.2.1).wf = true ∧ (Lit.int .i64 x.2.2.2.2.2.1).wf = true ∧ (Lit.int .i64 x.2.2.2.2.2.2.1).wf = true ∧ (Lit.int .i64 x.2.2.2.2.2.2.2.1).wf = true ∧ (Lit.int .i64 x.2.2.2.2.2.2.2.2.1).wf = true ∧ x.2.2.2.2.2.2.2.2.2.1.size ≤ maxLen ∧ ((Lit.int .i64 x.2.2.2.2.2.2.2.2.2.2.1.1).wf = true ∧ (Lit.int .i64 x.2.2.2.2.2.2.2.2.2.2.1.2.1).wf = true ∧ x.2.2.2.2.2.2.2.2.2.2.1.2.2.size ≤ maxLen) ∧ ∀ f ∈ x.2.2.2.2.2.2.2.2.2.2.2, f.2.2.size ≤ maxLen) (h : Es w v x.2.2.2.2.2.2.2.2.2.2.2) : MC w (mgOf x v) x.2.2.2.2.2.2.2.2.2.2.2 := by
  obtain ⟨q0, q1, q2, q3, q4, q5, q6, q7, q8, q9, ⟨q10, q11, q12⟩, _⟩ := q
  exact ⟨q0, q1, q2, q3, q4, q5, q6, q7, q8, q10, q11, q9, q12, h⟩
theorem msg_open {fuel : Nat} {cs : List Value} {x : DataW H × List MemPlace} (hx : DataW.trod enc Tryz.prog w base spare held fuel 27 cs = some x) :
    ∃ z : Mg × List En, cs = (mcells z.1).toList ∧ MC w z.1 z.2 := by
  obtain ⟨a, k, q⟩ := msg_opens fuel cs x hx
  obtain ⟨v, e, h⟩ := msg_K k
  exact ⟨(mgOf a v, a.2.2.2.2.2.2.2.2.2.2.2), e, MC.of q h⟩
end
end Go.Proofs.YtcbecbalhnomcaaGreatDoor.Co
