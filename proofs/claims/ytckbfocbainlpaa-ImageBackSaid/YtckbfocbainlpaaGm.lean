/- A region that draws its order, whose last operations (stores) write the very cells that it loads: the loads may be taken first as long as what they read is kept by all that is not late. No condition beyond what each theorem says. -/
import Derived.Test.YtckbfocbainlpaaGr
import Derived.OrdersHeld
import Derived.RegionTactic
import Derived.Deep.RegionHeld
namespace Go.Proofs.Ytckbfocbainlpaa
open Go.RowKit

section
variable {P : Program} {ops : Array Oper} {Q : Exit → Act → World → Prop} {md : Region.Mode} {S S2 : World → Prop} {late : List Nat}

/-- Whatever order is picked; S holds behind each operation till a late one comes up, S2 holds throughout. -/
def wpM (P : Program) (md : Region.Mode) (ops : Array Oper) (Q : Exit → Act → World → Prop) (S S2 : World → Prop) (late : List Nat) : Nat → Array Bool → Act → World → Prop
  | 0, listed, a, w => Region.ready md ops listed = [] ∧ Q .normal a w
  | n + 1, listed, a, w => (Region.ready md ops listed = [] → Q .normal a w) ∧ ∀ j ∈ Region.ready md ops listed,
      wpOp P ops Q j (fun a' w' => S2 w' ∧ if late.contains j then wpAnyH P md ops Q S2 n (listed.setIfInBounds j true) a' w' else S w' ∧ wpM P md ops Q S S2 late n (listed.setIfInBounds j true) a' w') a w
theorem any_of_M : ∀ (n : Nat) (listed : Array Bool) (a : Act) (w : World), wpM P md ops Q S S2 late n listed a w → wpAny P md ops Q n listed a w
  | 0, _, _, _, h => h
  | n + 1, listed, _, _, h => ⟨h.1, fun j hj => wpOp_mono (fun a' w' h' => by
      replace h' := h'.2
      cases hl : late.contains j
      · rw [hl] at h'; exact any_of_M n _ a' w' h'.2
      · rw [hl] at h'; exact wpAny_of_held _ _ _ _ h') (h.2 j hj)⟩

/-- No late operation comes up while one that it waits for has not. -/
theorem late_waits {i j : Nat} {listed : Array Bool} (hl : ∀ oj, ops[j]? = some oj → ∃ e ∈ oj.after, Region.binds md e = true ∧ e.on = i) (hi : i ∈ Region.ready md ops listed) : j ∉ Region.ready md ops listed := fun hj => by
  obtain ⟨_, oj, hoj, hall⟩ := mem_ready.1 hj
  obtain ⟨e, he, hb, heq⟩ := hl oj hoj
  have h1 := hall e he hb
  have h0 := (mem_ready.1 hi).1
  rw [heq] at h1
  rcases Nat.lt_or_ge i listed.size with h | h
  · simp [h] at h0 h1; rw [h0] at h1; cases h1
  · simp [Array.getElem?_eq_none h] at h1

theorem M_first {i : Nat} {oi : Oper} {v : Value} (hi : ops[i]? = some oi) (hsel : ∀ (j : Nat) (o : Oper) cs b, ops[j]? = some o → o.op ≠ .select cs b) (hQ : ∀ c a w, Q (.panic c) (a.put oi.dst v) w → Q (.panic c) a w)
    (hlate : ∀ j, late.contains j = true → ∀ oj, ops[j]? = some oj → ∃ e ∈ oj.after, Region.binds md e = true ∧ e.on = i) :
    ∀ (n : Nat) (listed : Array Bool) (a : Act) (w : World), (∀ j oj, ops[j]? = some oj → j ≠ i → listed.getD j true = false → (∀ e ∈ oj.after, Region.binds md e = true → e.on ≠ i) → oi.apart ops oj = true) →
      i ∈ Region.ready md ops listed → YieldsIf P ops S oi v a → S w → S2 w → late.contains i = false → wpM P md ops Q S S2 late n (listed.setIfInBounds i true) (a.put oi.dst v) w → wpM P md ops Q S S2 late (n + 1) listed a w
  | n, listed, a, w, hfree, hr, hy, hS, hS2, hil, H => by
    refine ⟨fun h => absurd hr (by rw [h]; exact List.not_mem_nil), fun j hj => ?_⟩
    by_cases hji : j = i
    · subst hji
      exact hy.wpOp hi hS ⟨hS2, by rw [hil]; exact ⟨hS, H⟩⟩
    have hjl : late.contains j = false := by
      cases hc : late.contains j
      · rfl
      · exact absurd hj (late_waits (hlate j hc) hr)
    cases n with
    | zero =>
      have := ready_mono hj hji
      rw [H.1] at this
      cases this
    | succ n =>
      have h1 := H.2 j (ready_mono hj hji)
      obtain ⟨hjun, oj, hoj, hall⟩ := mem_ready.1 hj
      have hnot : ∀ e ∈ oj.after, Region.binds md e = true → e.on ≠ i := fun e he hb heq => by
        have := late_waits (ops := ops) (md := md) (i := i) (j := j) (listed := listed) (fun oj' h' => by rw [hoj] at h'; cases h'; exact ⟨e, he, hb, heq⟩) hr
        exact this hj
      have h2 := wpOp_putIf hoj (hfree j oj hoj hji hjun hnot) (fun cs b => hsel i oi cs b hi) (fun cs b => hsel j oj cs b hoj) hQ hy h1
      refine wpOp_mono (fun a' w' h3 => ?_) h2
      obtain ⟨hy', h5, h4⟩ := h3
      rw [hjl] at h4 ⊢
      refine ⟨h5, h4.1, M_first hi hsel hQ hlate n _ a' w' (fun k ok hk hki hun hno => hfree k ok hk hki ?_ hno) (ready_mono hr (Ne.symm hji)) hy' h4.1 h5 hil ?_⟩
      · by_cases hjk : j = k
        · subst hjk; exact hjun
        · rw [getD_set_ne true hjk] at hun; exact hun
      · rw [Array.setIfInBounds_comm _ _ hji]; exact h4.2

/-- .. one that yields wherever S2 holds may be taken first, whether the late ones wait for it or not. -/
theorem M_first2 {i : Nat} {oi : Oper} {v : Value} (hi : ops[i]? = some oi) (hsel : ∀ (j : Nat) (o : Oper) cs b, ops[j]? = some o → o.op ≠ .select cs b) (hQ : ∀ c a w, Q (.panic c) (a.put oi.dst v) w → Q (.panic c) a w) :
    ∀ (n : Nat) (listed : Array Bool) (a : Act) (w : World), (∀ j oj, ops[j]? = some oj → j ≠ i → listed.getD j true = false → (∀ e ∈ oj.after, Region.binds md e = true → e.on ≠ i) → oi.apart ops oj = true) →
      i ∈ Region.ready md ops listed → YieldsIf P ops S2 oi v a → S w → S2 w → late.contains i = false → wpM P md ops Q S S2 late n (listed.setIfInBounds i true) (a.put oi.dst v) w → wpM P md ops Q S S2 late (n + 1) listed a w
  | n, listed, a, w, hfree, hr, hy, hS, hS2, hil, H => by
    refine ⟨fun h => absurd hr (by rw [h]; exact List.not_mem_nil), fun j hj => ?_⟩
    by_cases hji : j = i
    · subst hji
      exact hy.wpOp hi hS2 ⟨hS2, by rw [hil]; exact ⟨hS, H⟩⟩
    cases n with
    | zero =>
      have := ready_mono hj hji
      rw [H.1] at this
      cases this
    | succ n =>
      have h1 := H.2 j (ready_mono hj hji)
      obtain ⟨hjun, oj, hoj, hall⟩ := mem_ready.1 hj
      have hnot : ∀ e ∈ oj.after, Region.binds md e = true → e.on ≠ i := fun e he hb heq => by
        have := late_waits (ops := ops) (md := md) (i := i) (j := j) (listed := listed) (fun oj' h' => by rw [hoj] at h'; cases h'; exact ⟨e, he, hb, heq⟩) hr
        exact this hj
      have h2 := wpOp_putIf hoj (hfree j oj hoj hji hjun hnot) (fun cs b => hsel i oi cs b hi) (fun cs b => hsel j oj cs b hoj) hQ hy h1
      have hfree' : ∀ k ok, ops[k]? = some ok → k ≠ i → (listed.setIfInBounds j true).getD k true = false → (∀ e ∈ ok.after, Region.binds md e = true → e.on ≠ i) → oi.apart ops ok = true := fun k ok hk hki hun hno => by
        refine hfree k ok hk hki ?_ hno
        by_cases hjk : j = k
        · subst hjk; exact hjun
        · rw [getD_set_ne true hjk] at hun; exact hun
      refine wpOp_mono (fun a' w' h3 => ?_) h2
      obtain ⟨hy', h5, h4⟩ := h3
      refine ⟨h5, ?_⟩
      cases hc : late.contains j
      · rw [hc] at h4
        refine ⟨h4.1, M_first2 hi hsel hQ n _ a' w' hfree' (ready_mono hr (Ne.symm hji)) hy' h4.1 h5 hil ?_⟩
        rw [Array.setIfInBounds_comm _ _ hji]; exact h4.2
      · rw [hc] at h4
        refine wpAnyH_first hi hsel hQ n _ a' w' hfree' (ready_mono hr (Ne.symm hji)) hy' h5 ?_
        rw [Array.setIfInBounds_comm _ _ hji]; exact h4

/-- The late ones all wait for number i. -/
def lateB (md : Region.Mode) (ops : Array Oper) (late : List Nat) (i : Nat) : Bool := late.all fun j => match ops[j]? with
  | some oj => oj.after.any fun e => Region.binds md e && e.on == i
  | none => true
theorem lateB_spec {i : Nat} (h : lateB md ops late i = true) (j : Nat) (hj : late.contains j = true) (oj : Oper) (ho : ops[j]? = some oj) : ∃ e ∈ oj.after, Region.binds md e = true ∧ e.on = i := by
  have := List.all_eq_true.1 h j (by simpa using hj)
  rw [ho] at this
  obtain ⟨e, he, hb⟩ := Array.any_eq_true'.1 this
  simp only [Bool.and_eq_true, beq_iff_eq] at hb
  exact ⟨e, he, hb.1, hb.2⟩
theorem M_take {i : Nat} {oi : Oper} {v : Value} {n : Nat} {listed : Array Bool} {a : Act} {w : World} (hi : ops[i]? = some oi) (hs : Region.noSelect ops = true) (hf : Region.free md ops listed i = true) (hr : (Region.ready md ops listed).contains i = true)
    (hl : lateB md ops late i = true) (hil : late.contains i = false) (hQ : ∀ c a w, Q (.panic c) (a.put oi.dst v) w → Q (.panic c) a w) (hy : YieldsIf P ops S oi v a) (hS : S w) (hS2 : S2 w)
    (h : wpM P md ops Q S S2 late n (listed.setIfInBounds i true) (a.put oi.dst v) w) : wpM P md ops Q S S2 late (n + 1) listed a w :=
  M_first hi (Region.noSelect_spec hs) hQ (lateB_spec hl) n listed a w (Region.free_spec hi hf) (by simpa using hr) hy hS hS2 hil h
theorem M_take2 {i : Nat} {oi : Oper} {v : Value} {n : Nat} {listed : Array Bool} {a : Act} {w : World} (hi : ops[i]? = some oi) (hs : Region.noSelect ops = true) (hf : Region.free md ops listed i = true) (hr : (Region.ready md ops listed).contains i = true)
    (hil : late.contains i = false) (hQ : ∀ c a w, Q (.panic c) (a.put oi.dst v) w → Q (.panic c) a w) (hy : YieldsIf P ops S2 oi v a) (hS : S w) (hS2 : S2 w)
    (h : wpM P md ops Q S S2 late n (listed.setIfInBounds i true) (a.put oi.dst v) w) : wpM P md ops Q S S2 late (n + 1) listed a w :=
  M_first2 hi (Region.noSelect_spec hs) hQ n listed a w (Region.free_spec hi hf) (by simpa using hr) hy hS hS2 hil h
theorem wp_region_M {id : Nat} {a : Act} {w : World} (S S2 : World → Prop) (late : List Nat) (hm : P.follows .mixedOrders = true) (h : wpM P .any ops Q S S2 late ops.size (Array.replicate ops.size false) a w.drew) : (Code.region id ops true).wp P Q a w :=
  wp_region_any hm (any_of_M _ _ _ _ h)
/-- Each of those that may come up, one by one. -/
theorem M_all {n : Nat} {listed : Array Bool} {a : Act} {w : World} {rs : List Nat} (hr : Region.ready md ops listed = rs) (hne : rs ≠ [])
    (h : ∀ j ∈ rs, wpOp P ops Q j (fun a' w' => S2 w' ∧ if late.contains j then wpAnyH P md ops Q S2 n (listed.setIfInBounds j true) a' w' else S w' ∧ wpM P md ops Q S S2 late n (listed.setIfInBounds j true) a' w') a w) : wpM P md ops Q S S2 late (n + 1) listed a w :=
  ⟨fun h0 => absurd (hr ▸ h0) hne, hr ▸ h⟩
theorem M_step {n : Nat} {listed : Array Bool} {a : Act} {w : World} {j : Nat} {o : Oper} (ho : ops[j]? = some o) (hl : late.contains j = false)
    (h : ∀ K' : Act → World → Prop, Shut (∀ a w, S2 w → S w → wpM P md ops Q S S2 late n (listed.setIfInBounds j true) a w → K' a w) → if Region.wanted o (yielded ops a.tmps) = true then Oper.wp P o a w K' Q else K' (a.put o.dst undef) w) :
    wpOp P ops Q j (fun a' w' => S2 w' ∧ if late.contains j then wpAnyH P md ops Q S2 n (listed.setIfInBounds j true) a' w' else S w' ∧ wpM P md ops Q S S2 late n (listed.setIfInBounds j true) a' w') a w :=
  wpOp_step ho fun K' hK => h K' fun a' w' h2 h1 hm => hK a' w' ⟨h2, by rw [hl]; exact ⟨h1, hm⟩⟩
theorem M_late {n : Nat} {listed : Array Bool} {a : Act} {w : World} {j : Nat} {o : Oper} (ho : ops[j]? = some o) (hl : late.contains j = true)
    (h : ∀ K' : Act → World → Prop, Shut (∀ a w, S2 w → wpAnyH P md ops Q S2 n (listed.setIfInBounds j true) a w → K' a w) → if Region.wanted o (yielded ops a.tmps) = true then Oper.wp P o a w K' Q else K' (a.put o.dst undef) w) :
    wpOp P ops Q j (fun a' w' => S2 w' ∧ if late.contains j then wpAnyH P md ops Q S2 n (listed.setIfInBounds j true) a' w' else S w' ∧ wpM P md ops Q S S2 late n (listed.setIfInBounds j true) a' w') a w :=
  wpOp_step ho fun K' hK => h K' fun a' w' h2 hm => hK a' w' ⟨h2, by rw [hl]; exact hm⟩
end
end Go.Proofs.Ytckbfocbainlpaa
