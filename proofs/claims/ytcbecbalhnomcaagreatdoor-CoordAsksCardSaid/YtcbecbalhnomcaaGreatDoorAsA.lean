/- A region that draws its order, whose last operation may write what the others read: what is read may be taken first. A call is asked, ends, and its answer is taken. A call is asked; ticks go on with one; its answer is taken. A list of files is copied; a call is asked. A client's call is asked. A call with a tree of few files: the law's own cut; a call that is asked while another one is under way. -/
import Derived.Deep.RegionHeld3
import Derived.StillTail
import Derived.Test.YtcbecbalhnomcaaGreatDoorImA
import Derived.Test.YtcbecbalhnomcaaGreatDoorCoA
namespace Go.Proofs.YtcbecbalhnomcaaGreatDoor.Held
open Go

section
variable {P : Program} {ops : Array Oper} {Q : Exit → Act → World → Prop} {md : Region.Mode} {S : World → Prop} {k : Nat}

/-- Whatever order is picked from here on, and 'S' holds behind every operation but number k. -/
def wpAnyK (P : Program) (md : Region.Mode) (ops : Array Oper) (Q : Exit → Act → World → Prop) (S : World → Prop) (k : Nat) : Nat → Array Bool → Act → World → Prop
  | 0, listed, a, w => Region.ready md ops listed = [] ∧ Q .normal a w
  | fuel + 1, listed, a, w =>
    (Region.ready md ops listed = [] → Q .normal a w) ∧
    ∀ i ∈ Region.ready md ops listed, wpOp P ops Q i (fun a' w' => (i ≠ k → S w') ∧ wpAnyK P md ops Q S k fuel (listed.setIfInBounds i true) a' w') a w
theorem wpAny_of_K : ∀ (fuel : Nat) (listed : Array Bool) (a : Act) (w : World), wpAnyK P md ops Q S k fuel listed a w → wpAny P md ops Q fuel listed a w
  | 0, _, _, _, h => h
  | fuel + 1, _, _, _, h => ⟨h.1, fun i hi => wpOp_mono (fun a' w' h' => wpAny_of_K fuel _ a' w' h'.2) (h.2 i hi)⟩

theorem not_ready_of_waits {i : Nat} {listed : Array Bool} (hw : Region.waitsFor md ops k i = true) (hun : listed.getD i true = false) : k ∉ Region.ready md ops listed := by
  intro hr
  obtain ⟨_, ok, hok, hall⟩ := mem_ready.1 hr
  obtain ⟨o', ho', e, he, hb, hon⟩ := Region.waitsFor_spec hw
  have : o' = ok := Option.some.inj (ho'.symm.trans hok)
  subst this
  have h2 := hall e he hb
  rw [hon, getD_both hun] at h2
  cases h2

theorem wpAnyK_first {i : Nat} {oi : Oper} {v : Value} (hi : ops[i]? = some oi) (hsel : ∀ (j : Nat) (o : Oper) cs b, ops[j]? = some o → o.op ≠ .select cs b) (hik : i ≠ k) (hw : Region.waitsFor md ops k i = true)
    (hQ : ∀ c a w, Q (.panic c) (a.put oi.dst v) w → Q (.panic c) a w) :
    ∀ (fuel : Nat) (listed : Array Bool) (a : Act) (w : World),
      (∀ j oj, ops[j]? = some oj → j ≠ i → listed.getD j true = false → (∀ e ∈ oj.after, Region.binds md e = true → e.on ≠ i) → oi.apart ops oj = true) →
      i ∈ Region.ready md ops listed → YieldsIf P ops S oi v a → S w →
      wpAnyK P md ops Q S k fuel (listed.setIfInBounds i true) (a.put oi.dst v) w → wpAnyK P md ops Q S k (fuel + 1) listed a w := by
  intro fuel
  induction fuel with
  | zero =>
    intro listed a w _ hr hy hS H
    refine ⟨fun h => (by rw [h] at hr; cases hr), fun j hj => ?_⟩
    by_cases hji : j = i
    · subst hji; exact hy.wpOp hi hS ⟨fun _ => hS, H⟩
    · have := ready_mono hj hji
      rw [H.1] at this
      cases this
  | succ fuel ih =>
    intro listed a w hfree hr hy hS H
    have hun := (mem_ready.1 hr).1
    refine ⟨fun h => (by rw [h] at hr; cases hr), fun j hj => ?_⟩
    by_cases hji : j = i
    · subst hji; exact hy.wpOp hi hS ⟨fun _ => hS, H⟩
    · have hjk : j ≠ k := fun e => not_ready_of_waits hw hun (e ▸ hj)
      have h1 := H.2 j (ready_mono hj hji)
      obtain ⟨hjun, oj, hoj, hall⟩ := mem_ready.1 hj
      have hnot : ∀ e ∈ oj.after, Region.binds md e = true → e.on ≠ i := fun e he hb heq => by
        have h1 := hall e he hb
        rw [heq, getD_both hun] at h1
        cases h1
      have h2 := wpOp_putIf hoj (hfree j oj hoj hji hjun hnot) (fun cs b => hsel i oi cs b hi) (fun cs b => hsel j oj cs b hoj) hQ hy h1
      have hfree' : ∀ q ok, ops[q]? = some ok → q ≠ i → (listed.setIfInBounds j true).getD q true = false →
          (∀ e ∈ ok.after, Region.binds md e = true → e.on ≠ i) → oi.apart ops ok = true := fun q ok hq hqi hun' hno => by
        refine hfree q ok hq hqi ?_ hno
        by_cases hjq : j = q
        · subst hjq; exact hjun
        · rw [getD_set_ne true hjq] at hun'; exact hun'
      refine wpOp_mono (fun a' w' h3 => ⟨fun _ => h3.2.1 hjk, ih (listed.setIfInBounds j true) a' w' hfree' (ready_mono hr (Ne.symm hji)) h3.1 (h3.2.1 hjk) ?_⟩) h2
      rw [Array.setIfInBounds_comm _ _ hji]
      exact h3.2.2
/-- Take number i first. -/
theorem take {i : Nat} {oi : Oper} {v : Value} {fuel : Nat} {listed : Array Bool} {a : Act} {w : World} (hi : ops[i]? = some oi)
    (hs : Region.noSelect ops = true) (hf : Region.free md ops listed i = true) (hr : (Region.ready md ops listed).contains i = true) (hik : i ≠ k) (hw : Region.waitsFor md ops k i = true)
    (hQ : ∀ c a w, Q (.panic c) (a.put oi.dst v) w → Q (.panic c) a w) (hS : S w) (hy : ∀ w, S w → (execOp a.eval oi).run P w = .ok (.value v) w) (hwant : Region.wanted oi (yielded ops a.tmps) = true)
    (h : wpAnyK P md ops Q S k fuel (listed.setIfInBounds i true) (a.put oi.dst v) w) : wpAnyK P md ops Q S k (fuel + 1) listed a w :=
  wpAnyK_first hi (Region.noSelect_spec hs) hik hw hQ fuel listed a w (Region.free_spec hi hf) (by simpa using hr) (.inl ⟨hwant, hy⟩) hS h
/-- One operation alone may come up. -/
theorem one {i : Nat} {o : Oper} {fuel : Nat} {listed : Array Bool} {a : Act} {w : World} (hr : Region.ready md ops listed = [i]) (ho : ops[i]? = some o)
    (h : ∀ K' : Act → World → Prop, Shut (∀ a w, (i ≠ k → S w) → ((i ≠ k → S w) → wpAnyK P md ops Q S k fuel (listed.setIfInBounds i true) a w) → K' a w) → if Region.wanted o (yielded ops a.tmps) = true then Oper.wp P o a w K' Q else K' (a.put o.dst undef) w) :
    wpAnyK P md ops Q S k (fuel + 1) listed a w := by
  refine ⟨fun h0 => (by rw [hr] at h0; cases h0), fun j hj => ?_⟩
  rw [hr] at hj
  have hji : j = i := by simpa using hj
  subst hji
  exact wpOp_step ho (fun K' hK => h K' (fun a w hS hW => hK a w ⟨hS, hW hS⟩))
/-- Two operations may come up. -/
theorem two {i j : Nat} {oi oj : Oper} {fuel : Nat} {listed : Array Bool} {a : Act} {w : World} (hr : Region.ready md ops listed = [i, j]) (hoi : ops[i]? = some oi) (hoj : ops[j]? = some oj)
    (h1 : ∀ K' : Act → World → Prop, Shut (∀ a w, (i ≠ k → S w) → ((i ≠ k → S w) → wpAnyK P md ops Q S k fuel (listed.setIfInBounds i true) a w) → K' a w) → if Region.wanted oi (yielded ops a.tmps) = true then Oper.wp P oi a w K' Q else K' (a.put oi.dst undef) w)
    (h2 : ∀ K' : Act → World → Prop, Shut (∀ a w, (j ≠ k → S w) → ((j ≠ k → S w) → wpAnyK P md ops Q S k fuel (listed.setIfInBounds j true) a w) → K' a w) → if Region.wanted oj (yielded ops a.tmps) = true then Oper.wp P oj a w K' Q else K' (a.put oj.dst undef) w) :
    wpAnyK P md ops Q S k (fuel + 1) listed a w := by
  refine ⟨fun h0 => (by rw [hr] at h0; cases h0), fun q hq => ?_⟩
  rw [hr] at hq
  have hqq : q = i ∨ q = j := by simpa using hq
  rcases hqq with rfl | rfl
  · exact wpOp_step hoi (fun K' hK => h1 K' (fun a w hS hW => hK a w ⟨hS, hW hS⟩))
  · exact wpOp_step hoj (fun K' hK => h2 K' (fun a w hS hW => hK a w ⟨hS, hW hS⟩))
theorem done {listed : Array Bool} {a : Act} {w : World} (hr : Region.ready md ops listed = []) (h : Q .normal a w) : ∀ fuel, wpAnyK P md ops Q S k fuel listed a w
  | 0 => ⟨hr, h⟩
  | _ + 1 => ⟨fun _ => h, by rw [hr]; simp⟩
theorem start {id : Nat} {a : Act} {w : World} (k : Nat) (S : World → Prop) (hm : P.follows .mixedOrders = true) (hS : S w.drew)
    (h : S w.drew → wpAnyK P .any ops (NoPanic Q) S k ops.size (Array.replicate ops.size false) a w.drew) : (Code.region id ops true).wp P Q a w :=
  wp_region_noPanic (wp_region_any hm (wpAny_of_K _ _ _ _ (h hS)))
end
end Go.Proofs.YtcbecbalhnomcaaGreatDoor.Held
namespace Go.Proofs.YtcbecbalhnomcaaGreatDoor.Co
open Go.RowKit Go.Proofs.YtcbecbalhnomcaaGreatDoorW.PrintWords

/-- what is wrong with a call, where e is what is wrong with its tree -/
def rightE (k g e : Int) : Int := if k = 1 then e else if k = 3 ∨ k = 5 then (if g < 0 then 2 else 0) else if k = 2 ∨ k = 4 ∨ k = 6 then 0 else 1
set_option maxHeartbeats 1000000 in
theorem right_calls (k g e : Int) (A : Option Addr) (n c : Nat) (w : World)
    (hi : k = 1 → ∀ w', Below w.heap.size w w' → Calls Tryz.prog 65 #[.slice A n c] w' fun e' w'' => ∃ s, e' = .returned (.tuple #[.string s, .int .i64 e]) ∧ Hid (Below w'.heap.size w' w'')) :
    Calls Tryz.prog 35 #[.agg (kcells k g (.slice A n c))] w fun e' w' => e' = .returned (.int .i64 (rightE k g e)) ∧ Hid (Below w.heap.size w w') := by
  have B0 : Hid (Below w.heap.size w (w.alloc (.cells (kcells k g (.slice A n c)) 30))) := (Below.refl _ w).alloc (Nat.le_refl _) _
  have KB : Hid (Blk (w.alloc (.cells (kcells k g (.slice A n c)) 30)) w.heap.size (kcells k g (.slice A n c)) 30) := Blk.new w _ _
  have HI : Hid (k = 1 → Calls Tryz.prog 65 #[.slice A n c] (w.alloc (.cells (kcells k g (.slice A n c)) 30)) fun e' w'' => ∃ s, e' = .returned (.tuple #[.string s, .int .i64 e]) ∧ Hid (Below (w.alloc (.cells (kcells k g (.slice A n c)) 30)).heap.size (w.alloc (.cells (kcells k g (.slice A n c)) 30)) w'')) := fun h => hi h _ B0.out
  clear hi
  go_enter Tryz.func35, Tryz.ntmps35
  go_upto_region 1 with (fail)
  change Code.wp _ _ _ _ (w.alloc (.cells (kcells k g (.slice A n c)) 30))
  generalize w.alloc (.cells (kcells k g (.slice A n c)) 30) = W0 at *
  generalize hgg : w.heap.size = gg at *
  have HG : Hid (w.heap.size = gg) := hgg
  clear hgg
  have k0 : W0.cell? ⟨gg, 0, none⟩ = some (.int .i64 k) := KB.out.cell 0
  have k1 : W0.cell? ⟨gg, 1, none⟩ = some (.int .i64 g) := KB.out.cell 1
  have k2 : W0.cell? ⟨gg, 2, none⟩ = some (.slice A n c) := KB.out.cell 2
  have BW : Hid (Below w.heap.size w W0) := by show Below _ _ _; rw [HG.out]; exact B0.out
  clear B0
  by_cases h1 : k = 1
  · have hi := HI.out h1
    subst h1
    go_wp2_with (go_at_call 65; (with_reducible refine hi.mono ?_); rintro e' w1 ⟨s, rfl, h2⟩)
    go_ret
    exact ⟨by simp [rightE], BW.out.trans (h2.out.mono (by rw [HG.out]; exact Nat.le_of_lt KB.out.lt))⟩
  clear HI
  by_cases h3 : k = 3
  · subst h3
    by_cases hg : g < 0
    · go_wp2
      go_ret
      exact ⟨by simp [rightE, hg], BW.out⟩
    · go_wp2
      go_ret
      exact ⟨by simp [rightE, hg], BW.out⟩
  by_cases h5 : k = 5
  · subst h5
    by_cases hg : g < 0
    · go_wp2
      go_ret
      exact ⟨by simp [rightE, hg], BW.out⟩
    · go_wp2
      go_ret
      exact ⟨by simp [rightE, hg], BW.out⟩
  by_cases h2 : k = 2
  · subst h2
    go_wp2
    go_ret
    exact ⟨by simp [rightE], BW.out⟩
  by_cases h4 : k = 4
  · subst h4
    go_wp2
    go_ret
    exact ⟨by simp [rightE], BW.out⟩
  by_cases h6 : k = 6
  · subst h6
    go_wp2
    go_ret
    exact ⟨by simp [rightE], BW.out⟩
  have b1 : (k == 1) = false := by simpa using h1
  have b2 : (k == 2) = false := by simpa using h2
  have b3 : (k == 3) = false := by simpa using h3
  have b4 : (k == 4) = false := by simpa using h4
  have b5 : (k == 5) = false := by simpa using h5
  have b6 : (k == 6) = false := by simpa using h6
  go_wp2
  go_ret
  exact ⟨by simp [rightE, h1, h2, h3, h4, h5, h6], BW.out⟩

/-- a call's end -/
def CS.done (s : CS) (ab : Nat) : CS := { s with call := none, yes := none, pruned := none, answer := some ab }
set_option maxHeartbeats 1000000 in
theorem end_at (b kb : Nat) (s : CS) (e g f : Int) (A1 A2 : Option Addr) (n1 c1 n2 c2 : Nat) (w : World) (h : Cd w b s) (hc : s.call = some kb) (hj : s.job = none) :
    Calls Tryz.prog 36 #[.pointer (some ⟨b, 0, none⟩), .agg (acells e g f (.slice A1 n1 c1) (.slice A2 n2 c2))] w fun e' w' => e' = .returned (.tuple #[]) ∧
      Hid (Cd w' b (s.done w.heap.size) ∧ Blk w' w.heap.size (acells e g f (.slice A1 n1 c1) (.slice A2 n2 c2)) 47 ∧ Mod (· = b) w w') := by
  have hb := h.lt
  have C0 : Hid (Cd (w.alloc (.cells (acells e g f (.slice A1 n1 c1) (.slice A2 n2 c2)) 47)) b s) := h.same (Below.heap_alloc _ _ _ h.lt)
  have A0 : Hid (Blk (w.alloc (.cells (acells e g f (.slice A1 n1 c1) (.slice A2 n2 c2)) 47)) w.heap.size (acells e g f (.slice A1 n1 c1) (.slice A2 n2 c2)) 47) := Blk.new w _ _
  have M0 : Hid (Mod (· = b) w (w.alloc (.cells (acells e g f (.slice A1 n1 c1) (.slice A2 n2 c2)) 47))) := (Mod.refl _ w).alloc _
  have NE : Hid (w.heap.size ≠ b) := fun e => by omega
  clear h hb
  go_enter Tryz.func36, Tryz.ntmps36
  go_upto_region 1 with (fail)
  change Code.wp _ _ _ _ (w.alloc (.cells (acells e g f (.slice A1 n1 c1) (.slice A2 n2 c2)) 47))
  generalize w.alloc (.cells (acells e g f (.slice A1 n1 c1) (.slice A2 n2 c2)) 47) = W0 at *
  generalize hgg : w.heap.size = gg at *
  have HG : Hid (w.heap.size = gg) := hgg
  clear hgg
  have c86 := C0.out.c_call
  rw [hc, ptr_some] at c86
  have c89 := C0.out.c_yes
  have c90 := C0.out.c_pruned
  have c91 := C0.out.c_answer
  have c84 := C0.out.c_job
  rw [hj, ptr_none] at c84
  have f86 := C0.out.free 86
  have f89 := C0.out.free 89
  have f90 := C0.out.free 90
  have f91 := C0.out.free 91
  clear hc hj
  go_wp2
  go_end0
  have hk : ∀ (w' : World) i v, (w'.setCell ⟨b, i, none⟩ v).heap[gg]? = w'.heap[gg]? := fun _ _ _ => Below.heap_setCell _ _ _ _ NE.out
  refine ⟨rfl, ?_, ?_, (((M0.out.put _).put _).put _).put _⟩
  · rw [HG.out]
    exact (((C0.out.s_call none).s_yes none).s_pruned none).s_answer (some gg)
  · rw [HG.out]
    exact A0.out.same ((hk _ _ _).trans ((hk _ _ _).trans ((hk _ _ _).trans (hk _ _ _))))
end Go.Proofs.YtcbecbalhnomcaaGreatDoor.Co
namespace Go.Proofs.YtcbecbalhnomcaaGreatDoor.Co
open Go.RowKit Go.Proofs.YtcbecbalhnomcaaGreatDoorW.PrintWords

set_option maxHeartbeats 1000000 in
theorem take_yes (b ab : Nat) (s : CS) (e g f : Int) (A1 A2 : Option Addr) (n1 c1 n2 c2 : Nat) (w : World) (h : Cd w b s) (hn : s.n ≠ 0) (ha : s.answer = some ab) (hA : Blk w ab (acells e g f (.slice A1 n1 c1) (.slice A2 n2 c2)) 47) :
    Calls Tryz.prog 16 #[.pointer (some ⟨b, 0, none⟩)] w fun e' w' => e' = .returned (.tuple #[.agg (acells e g f (.slice A1 n1 c1) (.slice A2 n2 c2)), .bool true]) ∧ Hid (Cd w' b { s with answer := none } ∧ Mod (· = b) w w') := by
  have hz : ∀ W, Hid (Below W.heap.size W (W.alloc (.cells (acells 0 0 0 (.slice none 0 0) (.slice none 0 0)) 47))) := fun W => (Below.refl _ W).alloc (Nat.le_refl _) _
  have C0 : Hid (Cd (w.alloc (.cells (acells 0 0 0 (.slice none 0 0) (.slice none 0 0)) 47)) b s) := h.same (Below.heap_alloc _ _ _ h.lt)
  have A0 : Hid (Blk (w.alloc (.cells (acells 0 0 0 (.slice none 0 0) (.slice none 0 0)) 47)) ab (acells e g f (.slice A1 n1 c1) (.slice A2 n2 c2)) 47) := hA.same (Below.heap_alloc _ _ _ hA.lt)
  have R0 : Hid (Blk (w.alloc (.cells (acells 0 0 0 (.slice none 0 0) (.slice none 0 0)) 47)) w.heap.size (acells 0 0 0 (.slice none 0 0) (.slice none 0 0)) 47) := Blk.new w _ _
  have M0 : Hid (Mod (· = b) w (w.alloc (.cells (acells 0 0 0 (.slice none 0 0) (.slice none 0 0)) 47))) := (Mod.refl _ w).alloc _
  have NE : Hid (w.heap.size ≠ b) := fun e => by have := h.lt; omega
  have hnn := fun W (hC : Cd W b s) => none_at b s W hC hn
  have HA : Hid (s.answer = some ab) := ha
  clear h hA ha hn
  go_enter Tryz.func16, Tryz.ntmps16
  go_upto_region 1 with (fail)
  change Code.wp _ _ _ _ (w.alloc (.cells (acells 0 0 0 (.slice none 0 0) (.slice none 0 0)) 47))
  generalize w.alloc (.cells (acells 0 0 0 (.slice none 0 0) (.slice none 0 0)) 47) = W0 at *
  generalize hgg : w.heap.size = r0 at *
  have HG : Hid (w.heap.size ≤ r0) := by show _ ≤ _; omega
  clear hgg
  have c91 := C0.out.c_answer
  rw [HA.out, ptr_some] at c91
  have a0 : W0.cell? ⟨ab, 0, none⟩ = some (.int .i64 e) := A0.out.cell 0
  have a1 : W0.cell? ⟨ab, 1, none⟩ = some (.int .i64 g) := A0.out.cell 1
  have a2 : W0.cell? ⟨ab, 2, none⟩ = some (.int .i64 f) := A0.out.cell 2
  have a3 : W0.cell? ⟨ab, 3, none⟩ = some (.slice A1 n1 c1) := A0.out.cell 3
  have a4 : W0.cell? ⟨ab, 4, none⟩ = some (.slice A2 n2 c2) := A0.out.cell 4
  have hnn := hnn W0 C0.out
  go_upto_region 4 with (go_at_call 33; (with_reducible refine hnn.mono ?_); rintro e' w' ⟨rfl, rfl⟩)
  have B1 : Hid (Below W0.heap.size W0 (W0.alloc (.cells (acells e g f (.slice A1 n1 c1) (.slice A2 n2 c2)) 47))) := (Below.refl _ W0).alloc (Nat.le_refl _) _
  have L1 : Hid (Blk (W0.alloc (.cells (acells e g f (.slice A1 n1 c1) (.slice A2 n2 c2)) 47)) W0.heap.size (acells e g f (.slice A1 n1 c1) (.slice A2 n2 c2)) 47) := Blk.new W0 _ _
  have C1 : Hid (Cd (W0.alloc (.cells (acells e g f (.slice A1 n1 c1) (.slice A2 n2 c2)) 47)) b s) := C0.out.same (B1.out.block b C0.out.lt)
  have R1 : Hid (Blk (W0.alloc (.cells (acells e g f (.slice A1 n1 c1) (.slice A2 n2 c2)) 47)) r0 (acells 0 0 0 (.slice none 0 0) (.slice none 0 0)) 47) := R0.out.same (B1.out.block r0 R0.out.lt)
  have M1 : Hid (Mod (· = b) w (W0.alloc (.cells (acells e g f (.slice A1 n1 c1) (.slice A2 n2 c2)) 47))) := M0.out.alloc _
  have N1 : Hid (W0.heap.size ≠ b ∧ W0.heap.size ≠ r0) := ⟨fun x => by have := C0.out.lt; omega, fun x => by have := R0.out.lt; omega⟩
  clear c91 a0 a1 a2 a3 a4 hnn B1 hz
  change Code.wp _ _ _ _ (W0.alloc (.cells (acells e g f (.slice A1 n1 c1) (.slice A2 n2 c2)) 47))
  generalize W0.alloc (.cells (acells e g f (.slice A1 n1 c1) (.slice A2 n2 c2)) 47) = W1 at *
  generalize W0.heap.size = l0 at *
  have c91 := C1.out.c_answer
  rw [HA.out, ptr_some] at c91
  have f91 := C1.out.free 91
  go_upto_region 5 with (fail)
  have hk : ∀ k, k ≠ b → (W1.setCell ⟨b, 91, none⟩ (.pointer none)).heap[k]? = W1.heap[k]? := fun _ h => Below.heap_setCell _ _ _ _ h
  have C2 : Hid (Cd (W1.setCell ⟨b, 91, none⟩ (.pointer none)) b { s with answer := none }) := C1.out.s_answer none
  have L2 : Hid (Blk (W1.setCell ⟨b, 91, none⟩ (.pointer none)) l0 (acells e g f (.slice A1 n1 c1) (.slice A2 n2 c2)) 47) := L1.out.same (hk _ N1.out.1)
  have R2 : Hid (Blk (W1.setCell ⟨b, 91, none⟩ (.pointer none)) r0 (acells 0 0 0 (.slice none 0 0) (.slice none 0 0)) 47) := R1.out.same (hk _ NE.out)
  have M2 : Hid (Mod (· = b) w (W1.setCell ⟨b, 91, none⟩ (.pointer none))) := M1.out.put _
  clear c91 f91 hk
  generalize W1.setCell ⟨b, 91, none⟩ (.pointer none) = W2 at *
  have a0 : W2.cell? ⟨l0, 0, none⟩ = some (.int .i64 e) := L2.out.cell 0
  have a1 : W2.cell? ⟨l0, 1, none⟩ = some (.int .i64 g) := L2.out.cell 1
  have a2 : W2.cell? ⟨l0, 2, none⟩ = some (.int .i64 f) := L2.out.cell 2
  have a3 : W2.cell? ⟨l0, 3, none⟩ = some (.slice A1 n1 c1) := L2.out.cell 3
  have a4 : W2.cell? ⟨l0, 4, none⟩ = some (.slice A2 n2 c2) := L2.out.cell 4
  have r0' : W2.cell? ⟨r0, 0, none⟩ = some (.int .i64 0) := R2.out.cell 0
  have r1' : W2.cell? ⟨r0, 1, none⟩ = some (.int .i64 0) := R2.out.cell 1
  have r2' : W2.cell? ⟨r0, 2, none⟩ = some (.int .i64 0) := R2.out.cell 2
  have r3' : W2.cell? ⟨r0, 3, none⟩ = some (.slice none 0 0) := R2.out.cell 3
  have r4' : W2.cell? ⟨r0, 4, none⟩ = some (.slice none 0 0) := R2.out.cell 4
  have g0 := R2.out.free 0
  have g1 := R2.out.free 1
  have g2 := R2.out.free 2
  have g3 := R2.out.free 3
  have g4 := R2.out.free 4
  go_wp2
  have R3 : Hid (Blk (((((W2.setCell ⟨r0, 0, none⟩ (.int .i64 e)).setCell ⟨r0, 1, none⟩ (.int .i64 g)).setCell ⟨r0, 2, none⟩ (.int .i64 f)).setCell ⟨r0, 3, none⟩ (.slice A1 n1 c1)).setCell ⟨r0, 4, none⟩ (.slice A2 n2 c2)) r0 (acells e g f (.slice A1 n1 c1) (.slice A2 n2 c2)) 47) := ((((R2.out.set 0 _).set 1 _).set 2 _).set 3 _).set 4 _
  have hk : ∀ (w' : World) i v, (w'.setCell ⟨r0, i, none⟩ v).heap[b]? = w'.heap[b]? := fun _ _ _ => Below.heap_setCell _ _ _ _ (fun x => NE.out x.symm)
  have C3 : Hid (Cd (((((W2.setCell ⟨r0, 0, none⟩ (.int .i64 e)).setCell ⟨r0, 1, none⟩ (.int .i64 g)).setCell ⟨r0, 2, none⟩ (.int .i64 f)).setCell ⟨r0, 3, none⟩ (.slice A1 n1 c1)).setCell ⟨r0, 4, none⟩ (.slice A2 n2 c2)) b { s with answer := none }) := C2.out.same ((hk _ _ _).trans ((hk _ _ _).trans ((hk _ _ _).trans ((hk _ _ _).trans (hk _ _ _)))))
  have M3 : Hid (Mod (· = b) w (((((W2.setCell ⟨r0, 0, none⟩ (.int .i64 e)).setCell ⟨r0, 1, none⟩ (.int .i64 g)).setCell ⟨r0, 2, none⟩ (.int .i64 f)).setCell ⟨r0, 3, none⟩ (.slice A1 n1 c1)).setCell ⟨r0, 4, none⟩ (.slice A2 n2 c2))) := ((((M2.out.setNew (p := ⟨r0, 0, none⟩) HG.out _).setNew (p := ⟨r0, 1, none⟩) HG.out _).setNew (p := ⟨r0, 2, none⟩) HG.out _).setNew (p := ⟨r0, 3, none⟩) HG.out _).setNew (p := ⟨r0, 4, none⟩) HG.out _
  change bodyPost _ _ _ _ _ (((((W2.setCell ⟨r0, 0, none⟩ (.int .i64 e)).setCell ⟨r0, 1, none⟩ (.int .i64 g)).setCell ⟨r0, 2, none⟩ (.int .i64 f)).setCell ⟨r0, 3, none⟩ (.slice A1 n1 c1)).setCell ⟨r0, 4, none⟩ (.slice A2 n2 c2))
  generalize (((((W2.setCell ⟨r0, 0, none⟩ (.int .i64 e)).setCell ⟨r0, 1, none⟩ (.int .i64 g)).setCell ⟨r0, 2, none⟩ (.int .i64 f)).setCell ⟨r0, 3, none⟩ (.slice A1 n1 c1)).setCell ⟨r0, 4, none⟩ (.slice A2 n2 c2)) = W3 at *
  clear hk r0' r1' r2' r3' r4' a0 a1 a2 a3 a4 g0 g1 g2 g3 g4
  have q0 : W3.cell? ⟨r0, 0, none⟩ = some (.int .i64 e) := R3.out.cell 0
  have q1 : W3.cell? ⟨r0, 1, none⟩ = some (.int .i64 g) := R3.out.cell 1
  have q2 : W3.cell? ⟨r0, 2, none⟩ = some (.int .i64 f) := R3.out.cell 2
  have q3 : W3.cell? ⟨r0, 3, none⟩ = some (.slice A1 n1 c1) := R3.out.cell 3
  have q4 : W3.cell? ⟨r0, 4, none⟩ = some (.slice A2 n2 c2) := R3.out.cell 4
  exact bodyPost_ret (v := .tuple #[.agg (acells e g f (.slice A1 n1 c1) (.slice A2 n2 c2)), .bool true]) (by simp [results, Tryz.results16, go_sem, acells, q0, q1, q2, q3, q4]) rfl ⟨rfl, C3.out, M3.out⟩

def CS.tick (s : CS) : CS := { s with left := s.left - 1 }
set_option maxHeartbeats 1000000 in
theorem tick_wait (b t n kb : Nat) (S : Nat → Bool) (s : CS) (w : World) (h : Cd w b s) (hp : s.promised = some t) (tal : Tal w t n S) (hn : s.n = n) (h0 : n ≠ 0) (hph : s.phase = 1) (hcall : s.call = some kb) (hl : 1 < s.left) (hl2 : s.left ≤ 1000) :
    Calls Tryz.prog 21 #[.pointer (some ⟨b, 0, none⟩)] w fun e w' => ∃ v, e = .returned v ∧ Hid (Cd w' b s.tick ∧ Mod (· = b) w w') := by
  have hno := none_at b s w h (by omega)
  have C1 : Hid (Cd (w.setCell ⟨b, 87, none⟩ (.int .i64 (s.left - 1))) b s.tick) := h.s_left _
  have M1 : Hid (Mod (· = b) w (w.setCell ⟨b, 87, none⟩ (.int .i64 (s.left - 1)))) := (Mod.refl _ w).put _
  have T1 : Tal (w.setCell ⟨b, 87, none⟩ (.int .i64 (s.left - 1))) t n S := tal.same (Below.heap_setCell _ _ _ _ (Blk.ne tal.blk h (by decide)))
  have hprep := prepare_at b t n S s.tick _ C1.out hp T1 hn
  have h1 := h.c_phase
  rw [hph] at h1
  have h2 := h.c_call
  rw [hcall, ptr_some] at h2
  have h3 := h.c_left
  have f3 := h.free 87
  have i1 : wrap64 (s.left - 1) = s.left - 1 := w64 (by omega) (by omega)
  have i2 : ¬ s.left - 1 ≤ 0 := by omega
  clear h hn tal hph hcall hp
  go_enter Tryz.func21, Tryz.ntmps21
  go_wp2_with (first
    | (go_at_call 33; (with_reducible refine hno.mono ?_); rintro e w' ⟨rfl, rfl⟩)
    | (go_at_call 47; (with_reducible refine hprep.mono ?_); rintro e w2 ⟨v, rfl, hh⟩))
  go_ret
  exact ⟨_, rfl, C1.out.same (hh.out.2.block b C1.out.lt), M1.out.trans (Mod.ofBelow hh.out.2)⟩
set_option maxHeartbeats 1000000 in
theorem tick_last (b t n kb : Nat) (S : Nat → Bool) (s : CS) (w : World) (h : Cd w b s) (hp : s.promised = some t) (tal : Tal w t n S) (hn : s.n = n) (h0 : n ≠ 0) (hph : s.phase = 1) (hcall : s.call = some kb) (hj : s.job = none) (hl : s.left = 1) :
    Calls Tryz.prog 21 #[.pointer (some ⟨b, 0, none⟩)] w fun e w' => ∃ v, e = .returned v ∧ Hid (∃ ab, Cd w' b (s.tick.done ab) ∧ Blk w' ab (acells 17 0 0 (.slice none 0 0) (.slice none 0 0)) 47 ∧ Mod (· = b) w w') := by
  have hno := none_at b s w h (by omega)
  have C1 : Hid (Cd (w.setCell ⟨b, 87, none⟩ (.int .i64 0)) b s.tick) := (by show Cd _ _ _; rw [show s.tick = { s with left := 0 } from by simp [CS.tick, hl]]; exact h.s_left 0)
  have M1 : Hid (Mod (· = b) w (w.setCell ⟨b, 87, none⟩ (.int .i64 0))) := (Mod.refl _ w).put _
  have T1 : Hid (Tal (w.setCell ⟨b, 87, none⟩ (.int .i64 0)) t n S) := tal.same (Below.heap_setCell _ _ _ _ (Blk.ne tal.blk h (by decide)))
  have hend := end_at b kb s.tick 17 0 0 none none 0 0 0 0 _ C1.out hcall hj
  have hprep : ∀ w2, Hid (Cd w2 b (s.tick.done (w.setCell ⟨b, 87, none⟩ (.int .i64 0)).heap.size) ∧ Blk w2 (w.setCell ⟨b, 87, none⟩ (.int .i64 0)).heap.size (acells 17 0 0 (.slice none 0 0) (.slice none 0 0)) 47 ∧ Mod (· = b) (w.setCell ⟨b, 87, none⟩ (.int .i64 0)) w2) →
      Calls Tryz.prog 47 #[.pointer (some ⟨b, 0, none⟩)] w2 fun e w' => ∃ v, e = .returned v ∧ Hid (Below w2.heap.size w2 w') := fun w2 hh =>
    (prepare_at b t n S _ w2 hh.out.1 hp (T1.out.same (hh.out.2.2.block t T1.out.blk.lt (Blk.ne T1.out.blk C1.out (by decide)))) hn).mono fun e w' ⟨v, h1, h2⟩ => ⟨v, h1, h2.out.2⟩
  have h1 := h.c_phase
  rw [hph] at h1
  have h1' : ∀ w2, Hid (Cd w2 b (s.tick.done (w.setCell ⟨b, 87, none⟩ (.int .i64 0)).heap.size) ∧ Blk w2 (w.setCell ⟨b, 87, none⟩ (.int .i64 0)).heap.size (acells 17 0 0 (.slice none 0 0) (.slice none 0 0)) 47 ∧ Mod (· = b) (w.setCell ⟨b, 87, none⟩ (.int .i64 0)) w2) → w2.cell? ⟨b, 4, none⟩ = some (.int .i64 1) := fun w2 hh => by rw [← hph]; exact hh.out.1.c_phase
  have h2 := h.c_call
  rw [hcall, ptr_some] at h2
  have h3 := h.c_left
  have f3 := h.free 87
  rw [hl] at h3
  unfold acells at hend hprep h1'
  clear h hn tal hph hcall hp hl
  go_enter Tryz.func21, Tryz.ntmps21
  go_wp2_with (first
    | (go_at_call 33; (with_reducible refine hno.mono ?_); rintro e w' ⟨rfl, rfl⟩)
    | (go_at_call 36; (with_reducible refine hend.mono ?_); rintro e w2 ⟨rfl, hh⟩; have h1'' := h1' _ hh)
    | (go_at_call 47; (with_reducible refine (hprep _ hh).mono ?_); rintro e w3 ⟨v, rfl, h5⟩))
  go_ret
  refine ⟨_, rfl, _, hh.out.1.same (h5.out.block b hh.out.1.lt), hh.out.2.1.same (h5.out.block _ hh.out.2.1.lt), (M1.out.trans hh.out.2.2).trans (Mod.ofBelow h5.out)⟩
end Go.Proofs.YtcbecbalhnomcaaGreatDoor.Co
namespace Go.Proofs.YtcbecbalhnomcaaGreatDoor.Co
open Go.RowKit Go.Proofs.YtcbecbalhnomcaaGreatDoorW.PrintWords

set_option maxRecDepth 100000 in
theorem clone_nil (n c : Nat) (w : World) : Calls Tryz.prog 34 #[.slice none n c] w fun e w' => e = .returned (.slice none 0 0) ∧ w = w' := by
  have q28 : ∀ (w : World) (a : Option Addr) (n c n' c' : Nat), (binOp .eql 28 (.slice a n c) (.slice none n' c')).run Tryz.prog w = .ok (.bool a.isNone) w := fun w a n c n' c' => Lib.run_eql_slice_nil w _ _ a n c n' c' Tryz.underlying28
  go_enter Tryz.func34, Tryz.ntmps34
  go_wp2
  go_ret
  exact ⟨rfl, rfl⟩
theorem file_KM (w W : World) (base : Nat) (ok : Nat → Prop) (x : Fi) (cs : List Value) (h : kFi.K w x cs) : kFi.M W base ok x cs := by
  obtain ⟨c0, c1, rfl, k0, d0, d1, rfl, k1, k2⟩ := h
  exact ⟨c0, _, rfl, k0, d0, d1, rfl, k1, k2⟩
theorem files_none (W : World) : Kd.R kFi 93 (W.alloc (.cells #[] 93)) W.heap.size (fun _ => True) (.slice (some ⟨W.heap.size, 0, none⟩) 0 0) ([] : List Fi) := by
  have h := World.ownsRow_lit (base := W.heap.size) (e := 93) (size := 3) W #[] 0 (Nat.le_refl _) (by simp [maxLen]) (by simp)
  exact ⟨fun _ _ => trivial, [], (by simpa using h : (W.alloc (.cells #[] 93)).ownsRow W.heap.size 93 3 (.slice (some ⟨W.heap.size, 0, none⟩) 0 0) 0 []), Reps.none _ _⟩
theorem info_file : (Tryz.prog.info? 93).map (fun i => (i.zero, i.size, i.bytes)) = some (some (.agg #[.string ⟨#[]⟩, .int .i64 0, .string ⟨#[]⟩]), 3, 40) := by kernel_rfl
set_option maxRecDepth 100000 in
theorem clone_files (ad : Addr) (c : Nat) (l : List Fi) (w : World) (hC : Kd.C kFi w (some ad) l.length l) (hl : l.length ≤ 1000000) :
    Calls Tryz.prog 34 #[.slice (some ad) l.length c] w fun e w' => ∃ A' c', e = .returned (.slice A' l.length c') ∧ Hid (Kd.C kFi w' A' l.length l ∧ l.length ≤ c' ∧ Below w.heap.size w w') := by
  have B0 : Hid (Below w.heap.size w (w.alloc (.cells #[] 93))) := (Below.refl _ w).alloc (Nat.le_refl _) _
  have HC : Hid (Kd.C kFi (w.alloc (.cells #[] 93)) (some ad) l.length l) := Kd.C_below hC B0.out
  have HO := files_none w
  have HB : Hid (w.heap.size ≤ (w.alloc (.cells #[] 93)).heap.size) := by show _ ≤ _; simp
  clear hC
  have q28 : ∀ (w : World) (a : Option Addr) (n c n' c' : Nat), (binOp .eql 28 (.slice a n c) (.slice none n' c')).run Tryz.prog w = .ok (.bool a.isNone) w := fun w a n c n' c' => Lib.run_eql_slice_nil w _ _ a n c n' c' Tryz.underlying28
  go_enter Tryz.func34, Tryz.ntmps34
  go_wp2_with (
    (with_reducible refine gate_builtin (b := .append) (xs := #[.tmp 5, .tmp 6]) rfl ?_); at_builtin
    refine Kd.R_append_rows kFi (Rr := kFi.K (w.alloc (.cells #[] 93))) (w0 := w) w.heap.size rfl (.tmp 5) (.tmp 6) 28 93 (.agg #[.string ⟨#[]⟩, .int .i64 0, .string ⟨#[]⟩]) 40 rfl Tryz.underlying28 info_file rfl (by decide) (by decide) (.slice (some ⟨w.heap.size, 0, none⟩) 0 0) [] l (some ad) l.length c (fun _ => True) (fun _ => False) rfl rfl HO HC.out (fun x cs h => file_KM _ _ _ _ x cs h) (fun k hk => hk.elim) (fun _ _ => trivial) B0.out HB.out (by simp; omega) ?_
    intro v1 w1 ho hb hg hat
    rw [List.nil_append] at ho
    obtain ⟨A', c', rfl, h1, h2⟩ := Kd.R_reads ho
    have R1 : Hid (Kd.C kFi w1 A' l.length l ∧ l.length ≤ c' ∧ Below w.heap.size w w1) := ⟨h2, h1, hb⟩
    clear ho hb hg hat h1 h2)
  go_ret
  exact ⟨_, _, rfl, R1⟩
theorem clone_any (A : Option Addr) (c : Nat) (l : List Fi) (w : World) (hC : Kd.C kFi w A l.length l) (hl : l.length ≤ 1000000) :
    Calls Tryz.prog 34 #[.slice A l.length c] w fun e w' => ∃ A' c', e = .returned (.slice A' l.length c') ∧ Hid (Kd.C kFi w' A' l.length l ∧ l.length ≤ c' ∧ Below w.heap.size w w') := by
  cases A with
  | some ad => exact clone_files ad c l w hC hl
  | none =>
    obtain rfl : l = [] := by
      rcases l with _ | ⟨x, l⟩
      · rfl
      · obtain ⟨ad, e, _⟩ := hC.2.2 (by simp)
        cases e
    refine (clone_nil 0 c w).mono ?_
    rintro e w' ⟨rfl, rfl⟩
    exact ⟨none, 0, rfl, hC, Nat.le_refl _, Below.refl _ _⟩
end Go.Proofs.YtcbecbalhnomcaaGreatDoor.Co
namespace Go.Proofs.YtcbecbalhnomcaaGreatDoor.Co
open Go.RowKit Go.Proofs.YtcbecbalhnomcaaGreatDoorW.PrintWords

/-- a coordinator that has taken a call -/
def CS.asks (s : CS) (kb : Nat) : CS := { s with call := some kb, left := 40 }
set_option linter.unusedSimpArgs false in
set_option maxRecDepth 100000 in
set_option maxHeartbeats 4000000 in
theorem ask_at (b : Nat) (s : CS) (k g e : Int) (A : Option Addr) (c : Nat) (l : List Fi) (w : World) (h : Cd w b s) (hn : s.n ≠ 0) (hph : s.phase ≠ 0) (hc : s.call = none) (ha : s.answer = none) (hj : s.job = none)
    (hC : Kd.C kFi w A l.length l) (hl : l.length ≤ 1000000)
    (hi : k = 1 → ∀ w', Mod (· = b) w w' → Calls Tryz.prog 65 #[.slice A l.length c] w' fun e' w'' => ∃ s, e' = .returned (.tuple #[.string s, .int .i64 e]) ∧ Hid (Below w'.heap.size w' w'')) :
    Calls Tryz.prog 14 #[.pointer (some ⟨b, 0, none⟩), .agg (kcells k g (.slice A l.length c))] w fun e' w' => e' = .returned (.int .i64 0) ∧ Hid (∃ kb, Mod (· = b) w w' ∧
      (rightE k g e = 0 → Cd w' b (s.asks kb) ∧ ∃ A' c', Blk w' kb (kcells k g (.slice A' l.length c')) 30) ∧
      (rightE k g e ≠ 0 → ∃ ab, Cd w' b ((s.asks kb).done ab) ∧ Blk w' ab (acells (rightE k g e) 0 0 (.slice none 0 0) (.slice none 0 0)) 47)) := by
  have hb := h.lt
  have B0 : Below w.heap.size w (w.alloc (.cells (kcells k g (.slice A l.length c)) 30)) := (Below.refl _ w).alloc (Nat.le_refl _) _
  have M0 : Hid (Mod (· = b) w (w.alloc (.cells (kcells k g (.slice A l.length c)) 30))) := Mod.ofBelow B0
  have C0 : Hid (Cd (w.alloc (.cells (kcells k g (.slice A l.length c)) 30)) b s) := h.same (B0.block b hb)
  have K0 : Hid (Blk (w.alloc (.cells (kcells k g (.slice A l.length c)) 30)) w.heap.size (kcells k g (.slice A l.length c)) 30) := Blk.new w _ _
  have F0 : Hid (Kd.C kFi (w.alloc (.cells (kcells k g (.slice A l.length c)) 30)) A l.length l) := Kd.C_below hC B0
  have NE : Hid (w.heap.size ≠ b) := fun e => by omega
  have HI : Hid (k = 1 → ∀ w', Mod (· = b) w w' → Calls Tryz.prog 65 #[.slice A l.length c] w' fun e' w'' => ∃ s, e' = .returned (.tuple #[.string s, .int .i64 e]) ∧ Hid (Below w'.heap.size w' w'')) := hi
  have HS : Hid (s.n ≠ 0 ∧ s.call = none ∧ s.answer = none ∧ s.job = none) := ⟨hn, hc, ha, hj⟩
  have p1 : (s.phase == 0) = false := by simpa using hph
  clear h hb B0 hC hi hn hc ha hj hph
  go_enter Tryz.func14, Tryz.ntmps14
  go_upto_region 1 with (fail)
  change Code.wp _ _ _ _ (w.alloc (.cells (kcells k g (.slice A l.length c)) 30))
  generalize w.alloc (.cells (kcells k g (.slice A l.length c)) 30) = W0 at *
  generalize w.heap.size = g0 at *
  have hnn := none_at b s W0 C0.out HS.out.1
  have c4 := C0.out.c_phase
  have c86 := C0.out.c_call
  rw [HS.out.2.1, ptr_none] at c86
  have c91 := C0.out.c_answer
  rw [HS.out.2.2.1, ptr_none] at c91
  go_upto_region 5 with (go_at_call 33; (with_reducible refine hnn.mono ?_); rintro e' w' ⟨rfl, rfl⟩)
  have k0 : W0.cell? ⟨g0, 0, none⟩ = some (.int .i64 k) := K0.out.cell 0
  have k1 : W0.cell? ⟨g0, 1, none⟩ = some (.int .i64 g) := K0.out.cell 1
  have k2 : W0.cell? ⟨g0, 2, none⟩ = some (.slice A l.length c) := K0.out.cell 2
  clear c4 c86 c91 hnn
  have hcl := clone_any A c l W0.drew (Kd.C_below F0.out (Below.refl _ _).drew) hl
  refine Held.start 16 (fun w' => w'.cell? ⟨g0, 0, none⟩ = some (.int .i64 k) ∧ w'.cell? ⟨g0, 1, none⟩ = some (.int .i64 g) ∧ w'.cell? ⟨g0, 2, none⟩ = some (.slice A l.length c)) (by kernel_rfl) ⟨k0, k1, k2⟩ (fun hHeld => ?_)
  refine Held.take (i := 0) (oi := _) (v := ?_) rfl (by kernel_rfl) (by kernel_rfl) (by kernel_rfl) (by decide) (by kernel_rfl) (fun _ _ _ h => h) hHeld ?_ (by rfl) ?_
  rotate_left
  · intro w hSw
    go_simp
    try with_reducible rfl
  try simp only [Act.put, List.setIfInBounds_toArray, List.set_cons_zero, List.set_cons_succ]
  refine Held.take (i := 1) (oi := _) (v := ?_) rfl (by kernel_rfl) (by kernel_rfl) (by kernel_rfl) (by decide) (by kernel_rfl) (fun _ _ _ h => h) hHeld ?_ (by rfl) ?_
  rotate_left
  · intro w hSw
    go_simp
    try with_reducible rfl
  try simp only [Act.put, List.setIfInBounds_toArray, List.set_cons_zero, List.set_cons_succ]
  refine Held.take (i := 2) (oi := _) (v := ?_) rfl (by kernel_rfl) (by kernel_rfl) (by kernel_rfl) (by decide) (by kernel_rfl) (fun _ _ _ h => h) hHeld ?_ (by rfl) ?_
  rotate_left
  · intro w hSw
    go_simp
    try with_reducible rfl
  try simp only [Act.put, List.setIfInBounds_toArray, List.set_cons_zero, List.set_cons_succ]
  refine Held.take (i := 3) (oi := _) (v := ?_) rfl (by kernel_rfl) (by kernel_rfl) (by kernel_rfl) (by decide) (by kernel_rfl) (fun _ _ _ h => h) hHeld ?_ (by rfl) ?_
  rotate_left
  · intro w hSw
    go_simp
    try with_reducible rfl
  try simp only [Act.put, List.setIfInBounds_toArray, List.set_cons_zero, List.set_cons_succ]
  refine Held.take (i := 4) (oi := _) (v := ?_) rfl (by kernel_rfl) (by kernel_rfl) (by kernel_rfl) (by decide) (by kernel_rfl) (fun _ _ _ h => h) hHeld ?_ (by rfl) ?_
  rotate_left
  · intro w hSw
    go_simp
    try with_reducible rfl
  try simp only [Act.put, List.setIfInBounds_toArray, List.set_cons_zero, List.set_cons_succ]
  refine Held.take (i := 5) (oi := _) (v := ?_) rfl (by kernel_rfl) (by kernel_rfl) (by kernel_rfl) (by decide) (by kernel_rfl) (fun _ _ _ h => h) hHeld ?_ (by rfl) ?_
  rotate_left
  · intro w hSw
    go_simp
    try with_reducible rfl
  try simp only [Act.put, List.setIfInBounds_toArray, List.set_cons_zero, List.set_cons_succ]
  refine Held.take (i := 6) (oi := _) (v := ?_) rfl (by kernel_rfl) (by kernel_rfl) (by kernel_rfl) (by decide) (by kernel_rfl) (fun _ _ _ h => h) hHeld ?_ (by rfl) ?_
  rotate_left
  · intro w hSw
    go_simp
    try with_reducible rfl
  try simp only [Act.put, List.setIfInBounds_toArray, List.set_cons_zero, List.set_cons_succ]
  refine Held.take (i := 7) (oi := _) (v := ?_) rfl (by kernel_rfl) (by kernel_rfl) (by kernel_rfl) (by decide) (by kernel_rfl) (fun _ _ _ h => h) hHeld ?_ (by rfl) ?_
  rotate_left
  · intro w hSw
    go_simp
    try with_reducible rfl
  try simp only [Act.put, List.setIfInBounds_toArray, List.set_cons_zero, List.set_cons_succ]
  refine Held.one (i := 8) (by kernel_rfl) rfl (fun K hK => ?_)
  go_simp
  (with_reducible refine hcl.mono ?_)
  rintro e' w3 ⟨A', c', rfl, h3⟩
  have b3 : Below W0.heap.size W0 w3 := (Below.refl _ W0).drew.trans h3.out.2.2
  have K3 : Hid (Blk w3 g0 (kcells k g (.slice A l.length c)) 30) := K0.out.same (b3.block g0 K0.out.lt)
  have C3 : Hid (Cd w3 b s) := C0.out.same (b3.block b C0.out.lt)
  have M3 : Hid (Mod (· = b) w w3) := M0.out.trans (Mod.ofBelow b3)
  clear b3
  have S3 : w3.cell? ⟨g0, 0, none⟩ = some (.int .i64 k) ∧ w3.cell? ⟨g0, 1, none⟩ = some (.int .i64 g) ∧ w3.cell? ⟨g0, 2, none⟩ = some (.slice A l.length c) := ⟨K3.out.cell 0, K3.out.cell 1, K3.out.cell 2⟩
  refine hK.out _ _ (fun _ => S3) (fun hHeld => ?_)
  have hHeld := hHeld (by decide)
  clear hK K
  try simp only [Act.put, List.setIfInBounds_toArray, List.set_cons_zero, List.set_cons_succ]
  refine Held.one (i := 9) (by kernel_rfl) rfl (fun K hK => ?_)
  go_simp
  refine hK.out _ _ (fun _ => S3) (fun hHeld => ?_)
  have hHeld := hHeld (by decide)
  clear hK K
  try simp only [Act.put, List.setIfInBounds_toArray, List.set_cons_zero, List.set_cons_succ]
  have K4 : Hid (Blk (w3.alloc (.cells (kcells k g (.slice A' l.length c')) 30)) g0 (kcells k g (.slice A l.length c)) 30) := K3.out.same (Below.heap_alloc _ _ _ K3.out.lt)
  have N4 : Hid (Blk (w3.alloc (.cells (kcells k g (.slice A' l.length c')) 30)) w3.heap.size (kcells k g (.slice A' l.length c')) 30) := Blk.new _ _ _
  have C4 : Hid (Cd (w3.alloc (.cells (kcells k g (.slice A' l.length c')) 30)) b s) := C3.out.same (Below.heap_alloc _ _ _ C3.out.lt)
  have M4 : Hid (Mod (· = b) w (w3.alloc (.cells (kcells k g (.slice A' l.length c')) 30))) := M3.out.alloc _
  have NE4 : Hid (w3.heap.size ≠ b) := fun x => by have := C3.out.lt; omega
  refine Held.one (i := 10) (by kernel_rfl) rfl (fun K hK => ?_)
  go_simp
  have S4 : (w3.alloc (.cells (kcells k g (.slice A' l.length c')) 30)).cell? ⟨g0, 0, none⟩ = some (.int .i64 k) ∧ (w3.alloc (.cells (kcells k g (.slice A' l.length c')) 30)).cell? ⟨g0, 1, none⟩ = some (.int .i64 g) ∧ (w3.alloc (.cells (kcells k g (.slice A' l.length c')) 30)).cell? ⟨g0, 2, none⟩ = some (.slice A l.length c) := ⟨K4.out.cell 0, K4.out.cell 1, K4.out.cell 2⟩
  refine hK.out _ (w3.alloc (.cells (kcells k g (.slice A' l.length c')) 30)) (fun _ => S4) (fun hHeld => ?_)
  have hHeld := hHeld (by decide)
  clear hK K
  try simp only [Act.put, List.setIfInBounds_toArray, List.set_cons_zero, List.set_cons_succ]
  generalize w3.alloc (.cells (kcells k g (.slice A' l.length c')) 30) = W4 at *
  generalize w3.heap.size = kb at *
  clear S3 hcl h3
  refine Held.one (i := 11) (by kernel_rfl) rfl (fun K hK => ?_)
  go_simp
  refine hK.out _ _ (fun _ => S4) (fun hHeld => ?_)
  have hHeld := hHeld (by decide)
  clear hK K
  try simp only [Act.put, List.setIfInBounds_toArray, List.set_cons_zero, List.set_cons_succ]
  refine Held.one (i := 12) (by kernel_rfl) rfl (fun K hK => ?_)
  go_simp
  refine hK.out _ _ (fun _ => S4) (fun hHeld => ?_)
  have hHeld := hHeld (by decide)
  clear hK K
  try simp only [Act.put, List.setIfInBounds_toArray, List.set_cons_zero, List.set_cons_succ]
  have c86 := C4.out.c_call
  have f86 := C4.out.free 86
  refine Held.one (i := 13) (by kernel_rfl) rfl (fun K hK => ?_)
  go_simp
  have K5 : Hid (Blk (W4.setCell ⟨b, 86, none⟩ (.pointer (some ⟨kb, 0, none⟩))) g0 (kcells k g (.slice A l.length c)) 30) := K4.out.same (Below.heap_setCell _ _ _ _ NE.out)
  have N5 : Hid (Blk (W4.setCell ⟨b, 86, none⟩ (.pointer (some ⟨kb, 0, none⟩))) kb (kcells k g (.slice A' l.length c')) 30) := N4.out.same (Below.heap_setCell _ _ _ _ NE4.out)
  have C5 : Hid (Cd (W4.setCell ⟨b, 86, none⟩ (.pointer (some ⟨kb, 0, none⟩))) b { s with call := some kb }) := C4.out.s_call (some kb)
  have M5 : Hid (Mod (· = b) w (W4.setCell ⟨b, 86, none⟩ (.pointer (some ⟨kb, 0, none⟩)))) := M4.out.put _
  have S5 : (W4.setCell ⟨b, 86, none⟩ (.pointer (some ⟨kb, 0, none⟩))).cell? ⟨g0, 0, none⟩ = some (.int .i64 k) ∧ (W4.setCell ⟨b, 86, none⟩ (.pointer (some ⟨kb, 0, none⟩))).cell? ⟨g0, 1, none⟩ = some (.int .i64 g) ∧ (W4.setCell ⟨b, 86, none⟩ (.pointer (some ⟨kb, 0, none⟩))).cell? ⟨g0, 2, none⟩ = some (.slice A l.length c) := ⟨K5.out.cell 0, K5.out.cell 1, K5.out.cell 2⟩
  refine hK.out _ (W4.setCell ⟨b, 86, none⟩ (.pointer (some ⟨kb, 0, none⟩))) (fun _ => S5) (fun hHeld => ?_)
  have hHeld := hHeld (by decide)
  clear hK K
  try simp only [Act.put, List.setIfInBounds_toArray, List.set_cons_zero, List.set_cons_succ]
  clear c86 f86 S4
  generalize W4.setCell ⟨b, 86, none⟩ (.pointer (some ⟨kb, 0, none⟩)) = W5 at *
  refine Held.one (i := 14) (by kernel_rfl) rfl (fun K hK => ?_)
  go_simp
  refine hK.out _ _ (fun _ => S5) (fun hHeld => ?_)
  have hHeld := hHeld (by decide)
  clear hK K
  try simp only [Act.put, List.setIfInBounds_toArray, List.set_cons_zero, List.set_cons_succ]
  refine Held.one (i := 15) (by kernel_rfl) rfl (fun K hK => ?_)
  go_simp
  refine hK.out _ _ (fun _ => S5) (fun hHeld => ?_)
  have hHeld := hHeld (by decide)
  clear hK K
  try simp only [Act.put, List.setIfInBounds_toArray, List.set_cons_zero, List.set_cons_succ]
  have c87 := C5.out.c_left
  have f87 := C5.out.free 87
  refine Held.one (i := 16) (by kernel_rfl) rfl (fun K hK => ?_)
  go_simp
  refine hK.out _ _ (fun h => absurd rfl h) (fun _ => ?_)
  clear hK K
  try simp only [Act.put, List.setIfInBounds_toArray, List.set_cons_zero, List.set_cons_succ]
  refine Held.done (by kernel_rfl) ?_ _
  refine NoPanic.normal ?_
  have K6 : Hid (Blk (W5.setCell ⟨b, 87, none⟩ (.int .i64 40)) g0 (kcells k g (.slice A l.length c)) 30) := K5.out.same (Below.heap_setCell _ _ _ _ NE.out)
  have N6 : Hid (Blk (W5.setCell ⟨b, 87, none⟩ (.int .i64 40)) kb (kcells k g (.slice A' l.length c')) 30) := N5.out.same (Below.heap_setCell _ _ _ _ NE4.out)
  have C6 : Hid (Cd (W5.setCell ⟨b, 87, none⟩ (.int .i64 40)) b (s.asks kb)) := C5.out.s_left 40
  have M6 : Hid (Mod (· = b) w (W5.setCell ⟨b, 87, none⟩ (.int .i64 40))) := M5.out.put _
  clear c87 f87 S5
  generalize W5.setCell ⟨b, 87, none⟩ (.int .i64 40) = W6 at *
  have k0 : W6.cell? ⟨g0, 0, none⟩ = some (.int .i64 k) := K6.out.cell 0
  have k1 : W6.cell? ⟨g0, 1, none⟩ = some (.int .i64 g) := K6.out.cell 1
  have k2 : W6.cell? ⟨g0, 2, none⟩ = some (.slice A l.length c) := K6.out.cell 2
  have hr := right_calls k g e A l.length c W6 (fun hk w' hB => HI.out hk w' (M6.out.trans (Mod.ofBelow hB)))
  unfold kcells at hr
  generalize hre : rightE k g e = r at *
  have HRE : Hid (rightE k g e = r) := hre
  clear hre
  by_cases hr0 : r = 0
  · have HR : Hid (r = 0) := hr0
    subst hr0
    go_wp2_with (go_at_call 35; (with_reducible refine hr.mono ?_); rintro e' w7 ⟨rfl, h7⟩)
    go_ret
    exact ⟨rfl, kb, M6.out.trans (Mod.ofBelow h7.out), fun _ => ⟨C6.out.same (h7.out.block b C6.out.lt), A', c', N6.out.same (h7.out.block kb N6.out.lt)⟩, fun h => absurd HRE.out h⟩
  · have HR : Hid (r ≠ 0) := hr0
    have r1 : (r == 0) = false := by simpa using hr0
    clear hr0
    have hend := fun w7 (hB : Below W6.heap.size W6 w7) => end_at b kb (s.asks kb) r 0 0 none none 0 0 0 0 w7 (C6.out.same (hB.block b C6.out.lt)) rfl HS.out.2.2.2
    unfold acells at hend
    go_wp2_with (first
      | (go_at_call 35; (with_reducible refine hr.mono ?_); rintro e' w7 ⟨rfl, h7⟩)
      | (go_at_call 36; (with_reducible refine (hend _ h7.out).mono ?_); rintro e' w8 ⟨rfl, h8⟩))
    go_ret
    exact ⟨rfl, kb, (M6.out.trans (Mod.ofBelow h7.out)).trans h8.out.2.2, fun h => absurd (HRE.out.symm.trans h) HR.out, fun _ => ⟨_, h8.out.1, by rw [HRE.out]; exact h8.out.2.1⟩⟩
end Go.Proofs.YtcbecbalhnomcaaGreatDoor.Co
namespace Go.Proofs.YtcbecbalhnomcaaGreatDoor.Co
open Go.RowKit Go.Proofs.YtcbecbalhnomcaaGreatDoorW.PrintWords Go.Proofs.YtcbecbalhnomcaaGreatDoor.Build

theorem ask_busy (b : Nat) (s : CS) (k g : Int) (A : Option Addr) (n c : Nat) (w : World) (h : Cd w b s) (hn : s.n ≠ 0) (hph : s.phase ≠ 0) (hb : s.call ≠ none ∨ s.answer ≠ none) :
    Calls Tryz.prog 14 #[.pointer (some ⟨b, 0, none⟩), .agg (kcells k g (.slice A n c))] w fun e' w' => e' = .returned (.int .i64 15) ∧ Hid (Below w.heap.size w w') := by
  have B0 : Hid (Below w.heap.size w (w.alloc (.cells (kcells k g (.slice A n c)) 30))) := (Below.refl _ w).alloc (Nat.le_refl _) _
  have C0 : Hid (Cd (w.alloc (.cells (kcells k g (.slice A n c)) 30)) b s) := h.same (B0.out.block b h.lt)
  have p1 : (s.phase == 0) = false := by simpa using hph
  have HN : Hid (s.n ≠ 0) := hn
  clear h hn hph
  go_enter Tryz.func14, Tryz.ntmps14
  go_upto_region 1 with (fail)
  change Code.wp _ _ _ _ (w.alloc (.cells (kcells k g (.slice A n c)) 30))
  generalize w.alloc (.cells (kcells k g (.slice A n c)) 30) = W0 at *
  have hnn := none_at b s W0 C0.out HN.out
  have c4 := C0.out.c_phase
  have c86 := C0.out.c_call
  have c91 := C0.out.c_answer
  obtain ⟨oc, hoc⟩ : ∃ oc, s.call = oc := ⟨_, rfl⟩
  obtain ⟨oa, hoa⟩ : ∃ oa, s.answer = oa := ⟨_, rfl⟩
  rw [hoc] at c86 hb
  rw [hoa] at c91 hb
  clear hoc hoa
  cases oc with
  | some kb =>
    rw [ptr_some] at c86
    clear hb c91
    go_wp2_with (go_at_call 33; (with_reducible refine hnn.mono ?_); rintro e' w' ⟨rfl, rfl⟩)
    go_ret
    exact ⟨rfl, B0.out⟩
  | none =>
    cases oa with
    | none => exact (hb.elim (fun h => absurd rfl h) (fun h => absurd rfl h))
    | some ab =>
      rw [ptr_none] at c86
      rw [ptr_some] at c91
      clear hb
      go_wp2_with (go_at_call 33; (with_reducible refine hnn.mono ?_); rintro e' w' ⟨rfl, rfl⟩)
      go_ret
      exact ⟨rfl, B0.out⟩
/-- a file whose bytes are few -/
def cutF (x : Fi) : Fi := (x.1, x.2.1, if (x.2.2.size : Int) > 2000 then x.2.2.extract 0 2000 else x.2.2)
/-- few files -/
def fewL (l : List Fi) : List Fi := (l.take 8).map cutF
theorem fewL_length (l : List Fi) : (fewL l).length = min 8 l.length := by simp [fewL]
theorem fewL_get (l : List Fi) (j : Nat) (h : j < (fewL l).length) (h' : j < l.length) : (fewL l)[j] = cutF l[j] := by simp [fewL]
theorem fewL_snoc (l : List Fi) (j : Nat) (h : j < (fewL l).length) (h' : j < l.length) : (fewL l).take (j + 1) = (fewL l).take j ++ [cutF l[j]] := by
  rw [List.take_add_one, List.getElem?_eq_getElem h, fewL_get l j h h']
  rfl
set_option maxRecDepth 100000 in
set_option maxHeartbeats 2000000 in
theorem few_calls (k g : Int) (A : Option Addr) (c : Nat) (l : List Fi) (w : World) (hC : Kd.C kFi w A l.length l) :
    Calls Tryz.prog 15 #[.agg (kcells k g (.slice A l.length c))] w fun e w' => ∃ A' c', e = .returned (.agg (kcells k g (.slice A' (fewL l).length c'))) ∧ Hid (Kd.R kFi 93 w' w.heap.size (fun _ => True) (.slice A' (fewL l).length c') (fewL l) ∧ Below w.heap.size w w') := by
  have hmax := Kd.C_max hC
  have B0 : Hid (Below w.heap.size w ((w.alloc (.cells (kcells k g (.slice A l.length c)) 30)).alloc (.cells (kcells 0 0 (.slice none 0 0)) 30))) := ((Below.refl _ w).alloc (Nat.le_refl _) _).alloc (by simp) _
  have K0 : Hid (Blk ((w.alloc (.cells (kcells k g (.slice A l.length c)) 30)).alloc (.cells (kcells 0 0 (.slice none 0 0)) 30)) w.heap.size (kcells k g (.slice A l.length c)) 30) := (Blk.new w _ _).same (Below.heap_alloc _ _ _ (by simp))
  have Z0 : Hid (Blk ((w.alloc (.cells (kcells k g (.slice A l.length c)) 30)).alloc (.cells (kcells 0 0 (.slice none 0 0)) 30)) (w.heap.size + 1) (kcells 0 0 (.slice none 0 0)) 30) := by
    have := Blk.new (w.alloc (.cells (kcells k g (.slice A l.length c)) 30)) (kcells 0 0 (.slice none 0 0)) 30
    rw [show (w.alloc (.cells (kcells k g (.slice A l.length c)) 30)).heap.size = w.heap.size + 1 from by simp] at this
    exact this
  have HC0 : Hid (Kd.C kFi ((w.alloc (.cells (kcells k g (.slice A l.length c)) 30)).alloc (.cells (kcells 0 0 (.slice none 0 0)) 30)) A l.length l) := Kd.C_below hC B0.out
  clear hC
  go_enter Tryz.func15, Tryz.ntmps15
  go_upto_region 3 with (fail)
  change Code.wp _ _ _ _ ((w.alloc (.cells (kcells k g (.slice A l.length c)) 30)).alloc (.cells (kcells 0 0 (.slice none 0 0)) 30))
  generalize (w.alloc (.cells (kcells k g (.slice A l.length c)) 30)).alloc (.cells (kcells 0 0 (.slice none 0 0)) 30) = W0 at *
  have BB0 : Hid (Below W0.heap.size W0 W0) := Below.refl _ _
  have R0 : Hid (Kd.R kFi 93 W0 W0.heap.size (fun _ => True) (.slice none 0 0) ((fewL l).take 0)) := by rw [List.take_zero]; exact Kd.R_nil _ _ _ _ _
  have HN := fewL_length l
  generalize hg1 : w.heap.size = g1 at *
  generalize hg2 : g1 + 1 = g2 at *
  have HG : Hid (w.heap.size = g1 ∧ g1 + 1 = g2) := ⟨hg1, hg2⟩
  clear hg1 hg2
  go_loopw [3, 4] (fun v i wr => ∃ (u : Value) (j : Nat), j ≤ (fewL l).length ∧ u = v ∧ i = .int .i64 j ∧ Hid (Kd.R kFi 93 wr W0.heap.size (fun _ => True) u ((fewL l).take j)) ∧ Hid (Below W0.heap.size W0 wr)) (fun _ i _ => (fewL l).length - (intOf i).toNat)
  case atStart => exact ⟨_, 0, by omega, rfl, rfl, R0, BB0⟩
  case round =>
    obtain ⟨u, j, hj, rfl, rfl, row, bel⟩ := hrel
    clear R0 BB0
    have KR : Hid (Blk wr g1 (kcells k g (.slice A l.length c)) 30) := K0.out.same (bel.out.block g1 K0.out.lt)
    have ZR : Hid (Blk wr g2 (kcells 0 0 (.slice none 0 0)) 30) := Z0.out.same (bel.out.block g2 Z0.out.lt)
    have k2 : wr.cell? ⟨g1, 2, none⟩ = some (.slice A l.length c) := KR.out.cell 2
    by_cases hlt : j < (fewL l).length
    · have h1 : j < l.length := by omega
      have h2 : (j : Int) < 8 := by omega
      obtain ⟨ad, path, mode, data, hA, hp, e0, e1, e2⟩ := file_cells (Kd.C_below HC0.out bel.out) j h1
      subst hA
      have HS : Hid ((fewL l).take (j + 1) = (fewL l).take j ++ [cutF (path, mode, data)]) := by have := fewL_snoc l j hlt h1; rw [hp] at this; exact this
      have HL : Hid ((((fewL l).take j).length + 1) * 40 ≤ 140737488355328) := by show _ ≤ _; rw [List.length_take]; omega
      clear hp
      go_upto_region 6 with (fail)
      have bel3 : Hid (Below W0.heap.size W0 (wr.alloc (.cells #[.string path, .int .i64 mode, .string data] 93))) := bel.out.alloc bel.out.size _
      have row3 : Hid (Kd.R kFi 93 (wr.alloc (.cells #[.string path, .int .i64 mode, .string data] 93)) W0.heap.size (fun k => True ∧ k ≠ wr.heap.size) u ((fewL l).take j)) := Kd.R_alloc (Kd.R_elderB row.out _ (Nat.le_refl _)) _
      have F3 : Hid (Blk (wr.alloc (.cells #[.string path, .int .i64 mode, .string data] 93)) wr.heap.size #[.string path, .int .i64 mode, .string data] 93) := Blk.new _ _ _
      have G3 : Hid (W0.heap.size ≤ wr.heap.size) := bel.out.size
      clear bel row e0 e1 e2 k2 KR ZR
      change Code.wp _ _ _ _ (wr.alloc (.cells #[.string path, .int .i64 mode, .string data] 93))
      generalize wr.alloc (.cells #[.string path, .int .i64 mode, .string data] 93) = W3 at *
      generalize wr.heap.size = g3 at *
      have x0 : W3.cell? ⟨g3, 0, none⟩ = some (.string path) := F3.out.cell 0
      have x1 : W3.cell? ⟨g3, 1, none⟩ = some (.int .i64 mode) := F3.out.cell 1
      have x2 : W3.cell? ⟨g3, 2, none⟩ = some (.string data) := F3.out.cell 2
      have f2 := F3.out.free 2
      by_cases hd : (data.size : Int) > 2000
      · rw [show cutF (path, mode, data) = (path, mode, data.extract 0 2000) from by simp [cutF, hd]] at HS
        go_upto_region 8 with (fail)
        have bel5 : Hid (Below W0.heap.size W0 (W3.setCell ⟨g3, 2, none⟩ (.string (data.extract 0 2000)))) := bel3.out.setCell G3.out _
        have row5 : Hid (Kd.R kFi 93 (W3.setCell ⟨g3, 2, none⟩ (.string (data.extract 0 2000))) W0.heap.size (fun k => True ∧ k ≠ g3) u ((fewL l).take j)) := Kd.R_far row3.out (fun _ hk => hk.2) _
        have F5 : Hid (Blk (W3.setCell ⟨g3, 2, none⟩ (.string (data.extract 0 2000))) g3 #[.string path, .int .i64 mode, .string (data.extract 0 2000)] 93) := F3.out.set 2 _
        clear x0 x1 x2 f2 row3 bel3 F3
        generalize W3.setCell ⟨g3, 2, none⟩ (.string (data.extract 0 2000)) = W5 at *
        clear hd
        generalize data.extract 0 2000 = cut at *
        have x0 : W5.cell? ⟨g3, 0, none⟩ = some (.string path) := F5.out.cell 0
        have x1 : W5.cell? ⟨g3, 1, none⟩ = some (.int .i64 mode) := F5.out.cell 1
        have x2 : W5.cell? ⟨g3, 2, none⟩ = some (.string cut) := F5.out.cell 2
        go_wp2_with (
          (with_reducible refine gate_builtin (b := .append) (xs := #[.tmp 30, .tmp 32]) rfl ?_); at_builtin
          refine Kd.R_append kFi (w0 := W0) W0.heap.size rfl (.tmp 30) (.tmp 32) 28 93 (.agg #[.string ⟨#[]⟩, .int .i64 0, .string ⟨#[]⟩]) 40 rfl Tryz.underlying28 info_file rfl (by decide) (by decide) u _ (path, mode, cut) [.string path, .int .i64 mode, .string cut] (fun _ => True) (fun _ => False) rfl rfl ?aP (fun _ hk => hk.elim) (fun _ _ => trivial) ?aO bel5.out bel5.out.size HL.out ?_
          (case aP => exact file_KM W5 W5 _ _ _ _ ⟨_, _, rfl, rfl, _, _, rfl, rfl, rfl⟩)
          (case aO => exact Kd.R_mono row5.out (fun _ _ => trivial))
          intro v4 w4 ho hb hg hat
          have row4 : Hid (Kd.R kFi 93 w4 W0.heap.size (fun _ => True) v4 ((fewL l).take (j + 1))) := by rw [HS.out]; exact ho
          have bel4 : Hid (Below W0.heap.size W0 w4) := hb
          clear ho hb hg hat)
        go_roundw
        case rel => exact ⟨v4, j + 1, by omega, rfl, by go_num, row4, bel4⟩
        case measure => simp [intOf]; omega
      · rw [show cutF (path, mode, data) = (path, mode, data) from by simp [cutF, hd]] at HS
        go_wp2_with (
          (with_reducible refine gate_builtin (b := .append) (xs := #[.tmp 30, .tmp 32]) rfl ?_); at_builtin
          refine Kd.R_append kFi (w0 := W0) W0.heap.size rfl (.tmp 30) (.tmp 32) 28 93 (.agg #[.string ⟨#[]⟩, .int .i64 0, .string ⟨#[]⟩]) 40 rfl Tryz.underlying28 info_file rfl (by decide) (by decide) u _ (path, mode, data) [.string path, .int .i64 mode, .string data] (fun _ => True) (fun _ => False) rfl rfl ?aP (fun _ hk => hk.elim) (fun _ _ => trivial) ?aO bel3.out bel3.out.size HL.out ?_
          (case aP => exact file_KM W3 W3 _ _ _ _ ⟨_, _, rfl, rfl, _, _, rfl, rfl, rfl⟩)
          (case aO => exact Kd.R_mono row3.out (fun _ _ => trivial))
          intro v4 w4 ho hb hg hat
          have row4 : Hid (Kd.R kFi 93 w4 W0.heap.size (fun _ => True) v4 ((fewL l).take (j + 1))) := by rw [HS.out]; exact ho
          have bel4 : Hid (Below W0.heap.size W0 w4) := hb
          clear ho hb hg hat)
        go_roundw
        case rel => exact ⟨v4, j + 1, by omega, rfl, by go_num, row4, bel4⟩
        case measure => simp [intOf]; omega
    · obtain rfl : j = (fewL l).length := by omega
      rw [List.take_length] at row
      have hi : ¬ ((fewL l).length : Int) < (l.length : Int) ∨ ((fewL l).length : Int) < (l.length : Int) ∧ ¬ ((fewL l).length : Int) < 8 := by omega
      have h8 : (fewL l).length ≤ 8 := by omega
      clear HN hlt hj
      have k0 : wr.cell? ⟨g1, 0, none⟩ = some (.int .i64 k) := KR.out.cell 0
      have k1 : wr.cell? ⟨g1, 1, none⟩ = some (.int .i64 g) := KR.out.cell 1
      have f2 := KR.out.free 2
      have z0 : wr.cell? ⟨g2, 0, none⟩ = some (.int .i64 0) := ZR.out.cell 0
      have z1 : wr.cell? ⟨g2, 1, none⟩ = some (.int .i64 0) := ZR.out.cell 1
      have z2 : wr.cell? ⟨g2, 2, none⟩ = some (.slice none 0 0) := ZR.out.cell 2
      have y0 := ZR.out.free 0
      have y1 := ZR.out.free 1
      have y2 := ZR.out.free 2
      have NE : g1 ≠ g2 := by have := HG.out.2; omega
      obtain ⟨A', c', hu, hcc, hrd⟩ := Kd.R_reads row.out
      subst hu
      have ROW : Hid (Kd.R kFi 93 wr W0.heap.size (fun _ => True) (.slice A' (fewL l).length c') (fewL l)) := row
      clear hrd hcc row
      generalize hNN : (fewL l).length = N at *
      have HNN : Hid ((fewL l).length = N) := hNN
      clear hNN
      rcases hi with hi | ⟨hi, hi2⟩
      all_goals
        go_upto_region 10 with (fail)
        have hT : ∀ q, q ∈ 93 :: kFi.E → q ≠ 30 := by decide
        have K6 : Hid (Blk (wr.setCell ⟨g1, 2, none⟩ (.slice A' N c')) g1 (kcells k g (.slice A' N c')) 30) := KR.out.set 2 _
        have Z6 : Hid (Blk (wr.setCell ⟨g1, 2, none⟩ (.slice A' N c')) g2 (kcells 0 0 (.slice none 0 0)) 30) := ZR.out.same (Below.heap_setCell _ _ _ _ (fun e => NE e.symm))
        have ROW6 : Hid (Kd.R kFi 93 (wr.setCell ⟨g1, 2, none⟩ (.slice A' N c')) W0.heap.size (fun _ => True) (.slice A' N c') (fewL l)) := Kd.R_set ROW.out KR.out hT 2 _
        have B6 : Hid (Below w.heap.size w (wr.setCell ⟨g1, 2, none⟩ (.slice A' N c'))) := by
          show Below _ _ _
          rw [HG.out.1]
          exact (B0.out.trans (bel.out.mono (by have := B0.out.size; have := HG.out.1; omega))).setCell (Nat.le_refl _) _
        clear k0 k1 k2 f2 z0 z1 z2 y0 y1 y2 ROW bel KR ZR
        generalize wr.setCell ⟨g1, 2, none⟩ (.slice A' N c') = W6 at *
        have k0 : W6.cell? ⟨g1, 0, none⟩ = some (.int .i64 k) := K6.out.cell 0
        have k1 : W6.cell? ⟨g1, 1, none⟩ = some (.int .i64 g) := K6.out.cell 1
        have k2 : W6.cell? ⟨g1, 2, none⟩ = some (.slice A' N c') := K6.out.cell 2
        have z0 : W6.cell? ⟨g2, 0, none⟩ = some (.int .i64 0) := Z6.out.cell 0
        have z1 : W6.cell? ⟨g2, 1, none⟩ = some (.int .i64 0) := Z6.out.cell 1
        have z2 : W6.cell? ⟨g2, 2, none⟩ = some (.slice none 0 0) := Z6.out.cell 2
        have y0 := Z6.out.free 0
        have y1 := Z6.out.free 1
        have y2 := Z6.out.free 2
        go_wp2
        have Z7 : Hid (Blk (((W6.setCell ⟨g2, 0, none⟩ (.int .i64 k)).setCell ⟨g2, 1, none⟩ (.int .i64 g)).setCell ⟨g2, 2, none⟩ (.slice A' N c')) g2 (kcells k g (.slice A' N c')) 30) := ((Z6.out.set 0 _).set 1 _).set 2 _
        have ROW7 : Hid (Kd.R kFi 93 (((W6.setCell ⟨g2, 0, none⟩ (.int .i64 k)).setCell ⟨g2, 1, none⟩ (.int .i64 g)).setCell ⟨g2, 2, none⟩ (.slice A' N c')) W0.heap.size (fun _ => True) (.slice A' N c') (fewL l)) := Kd.R_set (Kd.R_set (Kd.R_set ROW6.out Z6.out hT 0 _) (Z6.out.set 0 _) hT 1 _) ((Z6.out.set 0 _).set 1 _) hT 2 _
        have B7 : Hid (Below w.heap.size w (((W6.setCell ⟨g2, 0, none⟩ (.int .i64 k)).setCell ⟨g2, 1, none⟩ (.int .i64 g)).setCell ⟨g2, 2, none⟩ (.slice A' N c'))) := by
          have hh : w.heap.size ≤ g2 := by have := HG.out; omega
          exact ((B6.out.setCell hh _).setCell hh _).setCell hh _
        clear z0 z1 z2 y0 y1 y2
        change bodyPost _ _ _ _ _ (((W6.setCell ⟨g2, 0, none⟩ (.int .i64 k)).setCell ⟨g2, 1, none⟩ (.int .i64 g)).setCell ⟨g2, 2, none⟩ (.slice A' N c'))
        generalize ((W6.setCell ⟨g2, 0, none⟩ (.int .i64 k)).setCell ⟨g2, 1, none⟩ (.int .i64 g)).setCell ⟨g2, 2, none⟩ (.slice A' N c') = W7 at *
        have q0 : W7.cell? ⟨g2, 0, none⟩ = some (.int .i64 k) := Z7.out.cell 0
        have q1 : W7.cell? ⟨g2, 1, none⟩ = some (.int .i64 g) := Z7.out.cell 1
        have q2 : W7.cell? ⟨g2, 2, none⟩ = some (.slice A' N c') := Z7.out.cell 2
        have hfin : Kd.R kFi 93 W7 w.heap.size (fun _ => True) (.slice A' (fewL l).length c') (fewL l) ∧ Below w.heap.size w W7 := by
          rw [HNN.out]
          exact ⟨Kd.R_lower ROW7.out (by have := B0.out.size; have := HG.out; omega), B7.out⟩
        refine bodyPost_ret (v := .agg (kcells k g (.slice A' N c'))) (by simp [results, Tryz.results15, go_sem, kcells, q0, q1, q2]) rfl ⟨A', c', ?_, hfin⟩
        rw [HNN.out]
/-- a tree of the call's own is still there where no block of files was changed -/
theorem files_mod {w w' : World} {b base : Nat} {cs : Array Value} {v : Value} {l : List Fi} (h : Kd.R kFi 93 w base (fun _ => True) v l) (hb : Blk w b cs 90) (hm : Mod (· = b) w w') : Kd.R kFi 93 w' base (fun _ => True) v l :=
  Kd.R_mono (Kd.R_step (Kd.R_types h hb (by decide)) (fun k hk hlt => hm.block k hlt hk.2)) (fun _ _ => trivial)
end Go.Proofs.YtcbecbalhnomcaaGreatDoor.Co
