/- A region that draws its order, where but one pair of operations may change places: what stands ahead of it leaves the world alone and is forced, what follows is forced. No condition beyond what each theorem says. -/
import Derived.Test.YtckbfocbainlpaaGr
import Derived.StillTailTactics
namespace Go.Proofs.Ytckbfocbainlpaa
open Go.RowKit

section
variable {P : Program} {ops : Array Oper} {md : Region.Mode}
/-- The next ones come up one by one. -/
def preB (md : Region.Mode) (ops : Array Oper) (fin : Array Bool) : Nat → Nat → Array Bool → Bool
  | 0, _, listed => listed == fin
  | g + 1, k, listed => decide (Region.ready md ops listed = [k]) && preB md ops fin g (k + 1) (listed.setIfInBounds k true)
theorem any_pre {w : World} {Q : Exit → Act → World → Prop} {g : Nat} {fin : Array Bool} : ∀ (l : List Oper) (k : Nat) (listed : Array Bool) (a : Act), (∀ j, j < l.length → l[j]? = ops[k + j]?) →
    preB md ops fin l.length k listed = true → wpStill P ops w (fun a' => wpAny P md ops Q g fin a' w) l a → wpAny P md ops Q (l.length + g) listed a w
  | [], _, listed, a, _, hB, h => by
    have : listed = fin := by simpa [preB] using hB
    subst this
    rw [List.length_nil, Nat.zero_add]
    exact h
  | o :: l, k, listed, a, hl, hB, h => by
    have h0 : ops[k]? = some o := by simpa using (hl 0 (by simp)).symm
    simp only [List.length_cons, preB, Bool.and_eq_true, decide_eq_true_eq] at hB
    rw [List.length_cons, show l.length + 1 + g = (l.length + g) + 1 by omega]
    refine ⟨fun h1 => (by rw [hB.1] at h1; cases h1), fun i hi => ?_⟩
    rw [hB.1] at hi
    have hik : i = k := by simpa using hi
    subst hik
    have hst : stOp P ops w i (wpStill P ops w (fun a' => wpAny P md ops Q g fin a' w) l) a := by unfold stOp; simp only [h0]; exact h
    exact wpOp_of_stOp (fun a' h' => any_pre l (i + 1) _ a' (fun j hj => by have := hl (j + 1) (by simp; omega); simpa [Nat.add_assoc, Nat.add_comm 1 j] using this) hB.2 h') hst

theorem wpStill_mono' {w : World} {K K' : Act → Prop} (h : ∀ a, K a → K' a) : ∀ (l : List Oper) (a : Act), wpStill P ops w K l a → wpStill P ops w K' l a
  | [], a, hh => h a hh
  | o :: l, a, hh => by
    unfold wpStill at hh ⊢
    by_cases hw : Region.wanted o (yielded ops a.tmps) = true
    · rw [if_pos hw] at hh ⊢; exact Oper.still_mono (fun a => wpStill_mono' h l a) hh
    · rw [if_neg hw] at hh ⊢; exact wpStill_mono' h l _ hh
def forkB (md : Region.Mode) (ops : Array Oper) (fin : Array Bool) (n : Nat) : Bool :=
  decide (n + 2 ≤ ops.size) && preB md ops fin n 0 (Array.replicate ops.size false) && decide (Region.ready md ops fin = [n, n + 1]) &&
    Region.seqB md ops (ops.size - (n + 1)) (n + 1) (fin.setIfInBounds n true) && decide (Region.ready md ops (fin.setIfInBounds (n + 1) true) = [n]) && Region.seqB md ops (ops.size - (n + 2)) (n + 2) ((fin.setIfInBounds (n + 1) true).setIfInBounds n true)
theorem wp_region_fork {id : Nat} {Q : Exit → Act → World → Prop} {a : Act} {w : World} {l : List Oper} (n : Nat) (fin : Array Bool) {o1 o2 : Oper} {rest : List Oper} (hm : P.follows .mixedOrders = true) (hB : forkB .any l.toArray fin n = true) (hd : l.drop n = o1 :: o2 :: rest)
    (h : wpStill P l.toArray w.drew (fun a' => wpList P l.toArray Q (o1 :: o2 :: rest) a' w.drew ∧ wpList P l.toArray Q (o2 :: o1 :: rest) a' w.drew) (l.take n) a) : (Code.region id l.toArray true).wp P Q a w := by
  simp only [forkB, Bool.and_eq_true, decide_eq_true_eq] at hB
  obtain ⟨⟨⟨⟨⟨hn, hpre⟩, hr⟩, hs1⟩, hr2⟩, hs2⟩ := hB
  have hn' : n + 2 ≤ l.length := by simpa using hn
  have hsz : l.toArray.size = l.length := by simp
  have hrl : rest.length = l.length - (n + 2) := by
    have := congrArg List.length hd
    simp only [List.length_drop, List.length_cons] at this
    omega
  have at_ : ∀ j, (o1 :: o2 :: rest)[j]? = l.toArray[n + j]? := fun j => by rw [← hd]; simp [List.getElem?_drop]
  have h1 : l.toArray[n]? = some o1 := by simpa using (at_ 0).symm
  have h2 : l.toArray[n + 1]? = some o2 := by simpa using (at_ 1).symm
  have htl : (l.take n).length = n := by simp; omega
  refine wp_region_any hm ?_
  have hsum : (l.take n).length + (l.length - (n + 1) + 1) = l.toArray.size := by rw [htl, hsz]; omega
  have key := any_pre (md := .any) (Q := Q) (g := l.length - (n + 1) + 1) (w := w.drew) (ops := l.toArray) (P := P) (fin := fin) (l.take n) 0 (Array.replicate l.toArray.size false) a (fun j hj => by rw [htl] at hj; simp [hj]) (by rw [htl]; exact hpre) (wpStill_mono' (fun a' h' => ?_) _ _ h)
  · rw [hsum] at key; exact key
  refine ⟨fun h0 => (by rw [hr] at h0; cases h0), fun i hi => ?_⟩
  rw [hr] at hi
  simp only [List.mem_cons, List.not_mem_nil, or_false] at hi
  rcases hi with rfl | rfl
  · have hw : wpOp P l.toArray Q i (wpList P l.toArray Q (o2 :: rest)) a' w.drew := by unfold wpOp; simp only [h1]; exact h'.1
    refine wpOp_mono (fun a2 w2 h3 => ?_) hw
    have := wpAny_of_seq (md := .any) (Q' := Q) (o2 :: rest) (i + 1) (fin.setIfInBounds i true) a2 w2 (fun j => by have := at_ (j + 1); simpa [Nat.add_assoc, Nat.add_comm 1 j] using this) (by rw [List.length_cons, hrl, show l.length - (i + 2) + 1 = l.toArray.size - (i + 1) by rw [hsz]; omega]; exact hs1) h3
    rwa [List.length_cons, hrl, show l.length - (i + 2) + 1 = l.length - (i + 1) by omega] at this
  · have hw : wpOp P l.toArray Q (n + 1) (wpList P l.toArray Q (o1 :: rest)) a' w.drew := by unfold wpOp; simp only [h2]; exact h'.2
    refine wpOp_mono (fun a2 w2 h3 => ?_) hw
    rw [show l.length - (n + 1) = (l.length - (n + 2)) + 1 by omega]
    refine ⟨fun h0 => (by rw [hr2] at h0; cases h0), fun i hi => ?_⟩
    rw [hr2] at hi
    have hin : i = n := by simpa using hi
    subst hin
    have hw : wpOp P l.toArray Q i (wpList P l.toArray Q rest) a2 w2 := by unfold wpOp; simp only [h1]; exact h3
    refine wpOp_mono (fun a4 w4 h4 => ?_) hw
    have := wpAny_of_seq (md := .any) (Q' := Q) rest (i + 2) ((fin.setIfInBounds (i + 1) true).setIfInBounds i true) a4 w4 (fun j => by have := at_ (j + 2); simpa [Nat.add_assoc, Nat.add_comm 2 j] using this) (by rw [hrl, show l.length - (i + 2) = l.toArray.size - (i + 2) by rw [hsz]]; exact hs2) h4
    rwa [hrl] at this
end
end Go.Proofs.Ytckbfocbainlpaa
