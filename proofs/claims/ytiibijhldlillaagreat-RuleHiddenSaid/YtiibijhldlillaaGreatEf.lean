/- Small laws for regions that draw their order. No condition beyond what each theorem says. -/
import Derived.Test.YtiibijhldlillaaGreatEe
import Derived.Orders
namespace Go.Proofs.YtiibijhldlillaaGreat.Eng
section
variable {e e' : En} {k k' : Nat} {ns : NS} {tm : Tm} {a : Act}

/-- What is in use stays. -/
def Lv (e e' : En) : Prop := ∀ b, e.lv b = true → e'.σ b = e.σ b ∧ e'.κ b = e.κ b ∧ e'.lv b = true
mutual
theorem R.lv (hx : Lv e e') : ∀ {a : AV} {v : Value}, R e k a v → R e' k a v
  | .bot, _, _ => trivial
  | .int _ _, _, h => h
  | .bool _, _, h => h
  | .str _, _, h => h
  | .lit _, _, h => h
  | .ptr b o, _, h => ⟨⟨h.1.1, (hx b h.1.2).2.2⟩, by rw [(hx b h.1.2).1]; exact h.2⟩
  | .slc b o n c, _, h => ⟨⟨⟨h.1.1.1, (hx b h.1.1.2).2.2⟩, by rw [(hx b h.1.1.2).2.1]; exact h.1.2⟩, by rw [(hx b h.1.1.2).1, (hx b h.1.1.2).2.1]; exact h.2⟩
  | .map b, _, h => ⟨⟨h.1.1, (hx b h.1.2).2.2⟩, by rw [(hx b h.1.2).1]; exact h.2⟩
  | .agg l, _, h => by
    obtain ⟨cs, h1, h2⟩ := h
    exact ⟨cs, h1, RL.lv hx h2⟩
  | .tup l, _, h => by
    obtain ⟨cs, h1, h2⟩ := h
    exact ⟨cs, h1, RL.lv hx h2⟩
  | .ifc t a, _, h => by
    obtain ⟨u, h1, h2⟩ := h
    exact ⟨u, h1, R.lv hx h2⟩
  | .fn f a c, _, h => by
    obtain ⟨x, y, h1, h2, h3⟩ := h
    exact ⟨x, y, h1, RL.lv hx h2, RL.lv hx h3⟩
  | .cls _ _ _, _, h => h
  | .emp, _, h => h
theorem RL.lv (hx : Lv e e') : ∀ {as : List AV} {vs : List Value}, RL e k as vs → RL e' k as vs
  | [], _, h => h
  | a :: as, _, h => by
    obtain ⟨v, vs, h1, h2, h3⟩ := h
    exact ⟨v, vs, h1, R.lv hx h2, RL.lv hx h3⟩
end
mutual
/-- A value's bound is told by any reading of it. -/
theorem R.bd : ∀ {a : AV} {v v' : Value}, R e k a v → R e' k' a v' → R e' k a v'
  | .bot, _, _, _, _ => trivial
  | .int _ _, _, _, _, h => h
  | .bool _, _, _, _, h => h
  | .str _, _, _, _, h => h
  | .lit _, _, _, _, h => h
  | .ptr b o, _, _, h, h' => ⟨⟨h.1.1, h'.1.2⟩, h'.2⟩
  | .slc b o n c, _, _, h, h' => ⟨⟨⟨h.1.1.1, h'.1.1.2⟩, h'.1.2⟩, h'.2⟩
  | .map b, _, _, h, h' => ⟨⟨h.1.1, h'.1.2⟩, h'.2⟩
  | .agg l, _, _, h, h' => by
    obtain ⟨cs, _, h2⟩ := h
    obtain ⟨cs', h3, h4⟩ := h'
    exact ⟨cs', h3, RL.bd h2 h4⟩
  | .tup l, _, _, h, h' => by
    obtain ⟨cs, _, h2⟩ := h
    obtain ⟨cs', h3, h4⟩ := h'
    exact ⟨cs', h3, RL.bd h2 h4⟩
  | .ifc t a, _, _, h, h' => by
    obtain ⟨u, _, h2⟩ := h
    obtain ⟨u', h3, h4⟩ := h'
    exact ⟨u', h3, R.bd h2 h4⟩
  | .fn f a c, _, _, h, h' => by
    obtain ⟨x, y, _, h2, h3⟩ := h
    obtain ⟨x', y', h4, h5, h6⟩ := h'
    exact ⟨x', y', h4, RL.bd h2 h5, RL.bd h3 h6⟩
  | .cls _ _ _, _, _, _, h => h
  | .emp, _, _, _, h => h
theorem RL.bd : ∀ {as : List AV} {vs vs' : List Value}, RL e k as vs → RL e' k' as vs' → RL e' k as vs'
  | [], _, _, _, h => h
  | a :: as, _, _, h, h' => by
    obtain ⟨v, vs, _, h2, h3⟩ := h
    obtain ⟨v', vs', h4, h5, h6⟩ := h'
    exact ⟨v', vs', h4, R.bd h2 h5, RL.bd h3 h6⟩
end
theorem RKV.lv [FX] (hx : Lv e e') : ∀ {ps : List (AV × AV)} {l : List (Value × Value)}, RKV e k ps l → RKV e' k ps l
  | [], _, h => h
  | p :: ps, _, h => by
    obtain ⟨u, v, r, h1, h2, h3, h4⟩ := h
    exact ⟨u, v, r, h1, h2.lv hx, h3.lv hx, h4.lv hx⟩
theorem RKV.mem : ∀ {ps : List (AV × AV)} {l : List (Value × Value)}, RKV e k ps l → ∀ p ∈ ps, (∃ u, R e k p.1 u) ∧ ∃ v, R e k p.2 v
  | [], _, _, p, hp => by simp at hp
  | q :: ps, _, h, p, hp => by
    obtain ⟨u, v, r, _, h2, h3, h4⟩ := h
    rcases List.mem_cons.1 hp with rfl | hp
    · exact ⟨⟨u, h2⟩, v, h3⟩
    · exact h4.mem p hp
theorem RKV.bd2 [FX] : ∀ {ps : List (AV × AV)} {l : List (Value × Value)}, RKV e' k' ps l → (∀ p ∈ ps, (∃ u, R e k p.1 u) ∧ ∃ v, R e k p.2 v) → RKV e' k ps l
  | [], _, h, _ => h
  | p :: ps, _, h, hb => by
    obtain ⟨u', v', r', h5, h6, h7, h8⟩ := h
    obtain ⟨⟨u, h1⟩, v, h2⟩ := hb p (by simp)
    exact ⟨u', v', r', h5, h1.bd h6, h2.bd h7, h8.bd2 fun q hq => hb q (by simp [hq])⟩
theorem RO.lv [FX] (hx : Lv e e') {b : Nat} (hb : e'.κ b = e.κ b) {o : AObj} {r : Obj} (h : RO e k b o r) : RO e' k b o r := by
  cases o with
  | cells c n size t room =>
    obtain ⟨cs, fz, h1, h2, h3, h4, h5⟩ := h
    refine ⟨cs, fz, h1, h2, by rw [hb]; exact h3, by rw [hb]; exact h4, fun i l hi => ?_⟩
    obtain ⟨h6, h7, h8⟩ := h5 i l hi
    refine ⟨h6, h7, fun j a hj => ?_⟩
    obtain ⟨h11, v, h9, h10⟩ := h8 j a hj
    exact ⟨h11, v, h9, h10.lv hx⟩
  | map kk es =>
    obtain ⟨ents, clock, es', h1, h2, h3⟩ := h
    exact ⟨ents, clock, es', h1, h2.lv hx, h3⟩
  | siter l p => exact h
theorem RO.bd [FX] {b : Nat} {o : AObj} {r r' : Obj} (h : RO e k b o r) (h' : RO e' k' b o r') : RO e' k b o r' := by
  cases o with
  | cells c n size t room =>
    obtain ⟨cs, fz, _, _, _, _, h5⟩ := h
    obtain ⟨cs', fz', h1', h2', h3', h4', h5'⟩ := h'
    refine ⟨cs', fz', h1', h2', h3', h4', fun i l hi => ?_⟩
    obtain ⟨_, _, h8⟩ := h5 i l hi
    obtain ⟨h6', h7', h8'⟩ := h5' i l hi
    refine ⟨h6', h7', fun j a hj => ?_⟩
    obtain ⟨_, v, _, h10⟩ := h8 j a hj
    obtain ⟨h11', v', h9', h10'⟩ := h8' j a hj
    exact ⟨h11', v', h9', h10.bd h10'⟩
  | map kk es =>
    obtain ⟨ents, clock, es1, _, h2, h3⟩ := h
    obtain ⟨ents', clock', es2, h1', h2', h3'⟩ := h'
    exact ⟨ents', clock', es2, h1', h2'.bd2 fun p hp => h2.mem p (h3.1.1.mem_iff.1 (h3'.1.1.mem_iff.2 hp)), h3'⟩
  | siter l p => exact h'
theorem RO.mono [FX] (hk : k ≤ k') {b : Nat} {o : AObj} {r : Obj} (h : RO e k b o r) : RO e k' b o r := by
  cases o with
  | cells c n size t room =>
    obtain ⟨cs, fz, h1, h2, h3, h4, h5⟩ := h
    refine ⟨cs, fz, h1, h2, h3, h4, fun i l hi => ?_⟩
    obtain ⟨h6, h7, h8⟩ := h5 i l hi
    refine ⟨h6, h7, fun j a hj => ?_⟩
    obtain ⟨h11, v, h9, h10⟩ := h8 j a hj
    exact ⟨h11, v, h9, h10.ext (Ext.refl _ _) hk⟩
  | map kk es =>
    obtain ⟨ents, clock, es', h1, h2, h3⟩ := h
    exact ⟨ents, clock, es', h1, h2.ext (Ext.refl _ _) hk, h3⟩
  | siter l p => exact h
/-- The numbers from one to another are read by a newer numbering. -/
def En.mix (e e' : En) (lo hi : Nat) : En := ⟨fun b => if lo ≤ b ∧ b < hi then e'.σ b else e.σ b, fun b => if lo ≤ b ∧ b < hi then e'.κ b else e.κ b, fun b => if lo ≤ b ∧ b < hi then e'.lv b else e.lv b, e.fx⟩
theorem mix_in {lo hi b : Nat} (h : lo ≤ b ∧ b < hi) : (e.mix e' lo hi).σ b = e'.σ b ∧ (e.mix e' lo hi).κ b = e'.κ b ∧ (e.mix e' lo hi).lv b = e'.lv b := by simp [En.mix, h]
theorem mix_out {lo hi b : Nat} (h : ¬(lo ≤ b ∧ b < hi)) : (e.mix e' lo hi).σ b = e.σ b ∧ (e.mix e' lo hi).κ b = e.κ b ∧ (e.mix e' lo hi).lv b = e.lv b := by
  unfold En.mix
  simp only [if_neg h, and_self]
theorem mix_ext [FX] {lo hi : Nat} (h : Ext lo e e') : Ext hi e' (e.mix e' lo hi) := fun b hb => by
  by_cases hl : lo ≤ b
  · exact mix_in ⟨hl, hb⟩
  · obtain ⟨h1, h2, h3⟩ := mix_out (e := e) (e' := e') (lo := lo) (hi := hi) (b := b) (fun hh => hl hh.1)
    obtain ⟨h4, h5, h6⟩ := h b (by omega)
    exact ⟨h1.trans h4.symm, h2.trans h5.symm, h3.trans h6.symm⟩
theorem mix_lv [FX] {lo hi : Nat} (h : ∀ b, lo ≤ b → b < hi → e.lv b = false) : Lv e (e.mix e' lo hi) := fun b hb => by
  obtain ⟨h1, h2, h3⟩ := mix_out (e := e) (e' := e') (lo := lo) (hi := hi) (b := b) (fun hh => by rw [h b hh.1 hh.2] at hb; cases hb)
  exact ⟨h1, h2, h3.trans hb⟩
end
/- rows and bits -/
theorem bitR_eq (m n : Nat) : bitR m n = m.testBit n := by
  unfold bitR Nat.testBit
  show Nat.beq (1 &&& (m >>> n)) 1 = ((1 &&& (m >>> n)) != 0)
  rw [Nat.one_and_eq_mod_two]
  have : (m >>> n) % 2 < 2 := Nat.mod_lt _ (by omega)
  generalize (m >>> n) % 2 = x at *
  have : x = 0 ∨ x = 1 := by omega
  rcases this with rfl | rfl <;> rfl
theorem bitR_or [FX] (m n x : Nat) : bitR (Nat.lor m n) x = (bitR m x || bitR n x) := by
  rw [bitR_eq, bitR_eq, bitR_eq]
  exact Nat.testBit_or m n x
theorem bitR_one [FX] (d x : Nat) : bitR (Nat.shiftLeft 1 d) x = decide (d = x) := by
  rw [bitR_eq]
  show (1 <<< d).testBit x = _
  rw [Nat.one_shiftLeft, Nat.testBit_two_pow]
theorem insR_iff (a : Nat) : ∀ l : List Nat, insR a l = true ↔ a ∈ l
  | [] => by simp [insR]
  | b :: l => by
    show (Bool.rec (insR a l) true (Nat.beq a b) : Bool) = true ↔ _
    cases hb : Nat.beq a b with
    | true => have := Nat.eq_of_beq_eq_true hb; subst this; simp
    | false => have := Nat.ne_of_beq_eq_false hb; simp [this, insR_iff a l]
theorem disj_iff [FX] : ∀ {l m : List Nat}, disj l m = true → ∀ b, b ∈ l → b ∉ m
  | [], m, _, b, hb => by simp at hb
  | a :: l, m, h, b, hb => by
    replace h : (!(insR a m) && disj l m) = true := h
    rw [Bool.and_eq_true] at h
    rcases List.mem_cons.1 hb with rfl | hb
    · intro hm
      rw [(insR_iff b m).2 hm] at h
      simp at h
    · exact disj_iff h.2 b hb
theorem flatR_mem (f : Rc → List Nat) : ∀ {rs : List Rc} {b : Nat}, b ∈ flatR f rs ↔ ∃ r ∈ rs, b ∈ f r
  | [], b => by simp [flatR]
  | r :: rs, b => by
    show b ∈ appR (f r) (flatR f rs) ↔ _
    rw [appR_eq, List.mem_append, flatR_mem f]
    simp
theorem anyR_false {α : Type} {p : α → Bool} : ∀ {l : List α}, (!(anyR p l)) = true → ∀ x ∈ l, p x = false
  | [], _, x, hx => by simp at hx
  | a :: l, h, x, hx => by
    replace h : (!(p a || anyR p l)) = true := h
    rw [Bool.not_or, Bool.and_eq_true] at h
    rcases List.mem_cons.1 hx with rfl | hx
    · simpa using h.1
    · exact anyR_false h.2 x hx
theorem unR_mem {pre : Nat} : ∀ {rs : List Rc} {r : Rc}, r ∈ unR pre rs ↔ r ∈ rs ∧ bitR pre r.ix = false
  | [], r => by simp [unR]
  | q :: rs, r => by
    show r ∈ (Bool.rec (q :: unR pre rs) (unR pre rs) (bitR pre q.ix) : List Rc) ↔ _
    cases hb : bitR pre q.ix with
    | true =>
      show r ∈ unR pre rs ↔ _
      rw [unR_mem, List.mem_cons]
      constructor
      · rintro ⟨h1, h2⟩; exact ⟨.inr h1, h2⟩
      · rintro ⟨rfl | h1, h2⟩
        · rw [hb] at h2; cases h2
        · exact ⟨h1, h2⟩
    | false =>
      show r ∈ q :: unR pre rs ↔ _
      rw [List.mem_cons, List.mem_cons, unR_mem]
      constructor
      · rintro (rfl | ⟨h1, h2⟩)
        · exact ⟨.inl rfl, hb⟩
        · exact ⟨.inr h1, h2⟩
      · rintro ⟨rfl | h1, h2⟩
        · exact .inl rfl
        · exact .inr ⟨h1, h2⟩
theorem numR_mem : ∀ {n lo b : Nat}, b ∈ numR lo n ↔ lo ≤ b ∧ b < lo + n
  | 0, lo, b => by
    show b ∈ ([] : List Nat) ↔ _
    simp
  | n + 1, lo, b => by
    show b ∈ lo :: numR (lo + 1) n ↔ _
    rw [List.mem_cons, numR_mem]
    omega
theorem lay_at (src : T AObj) : ∀ (l : List Nat) (dst : T AObj) (b : Nat), (lay src l dst).at_ b = if b ∈ l then src.at_ b else dst.at_ b
  | [], dst, b => by show dst.at_ b = _; simp
  | a :: l, dst, b => by
    show ((lay src l dst).setP (path a) (src.at_ a)).get (path b) = _
    rw [T.get_setP]
    by_cases h : a = b
    · subst h; simp
    · rw [if_neg (fun hh => h (path_inj hh))]
      show (lay src l dst).at_ b = _
      rw [lay_at src l dst b]
      have : b ≠ a := fun hh => h hh.symm
      simp [this]
theorem oldR_eq (base : Nat) (acc : List Nat) : ∀ l : List Nat, ∃ m, oldR base l acc = m ++ acc ∧ ∀ b, b ∈ l → b < base → b ∈ m
  | [] => ⟨[], rfl, fun b hb => by simp at hb⟩
  | a :: l => by
    obtain ⟨m, h1, h2⟩ := oldR_eq base acc l
    show ∃ m, (Bool.rec (oldR base l acc) (a :: oldR base l acc) (Nat.ble (a + 1) base) : List Nat) = m ++ acc ∧ _
    cases hb : Nat.ble (a + 1) base with
    | true =>
      refine ⟨a :: m, by rw [show (Bool.rec (oldR base l acc) (a :: oldR base l acc) true : List Nat) = a :: oldR base l acc from rfl, h1]; rfl, fun b hm hlt => ?_⟩
      rcases List.mem_cons.1 hm with rfl | hm
      · simp
      · simp [h2 b hm hlt]
    | false =>
      refine ⟨m, h1, fun b hm hlt => ?_⟩
      rcases List.mem_cons.1 hm with rfl | hm
      · have : Nat.ble (b + 1) base = true := Nat.ble_eq_true_of_le hlt
        rw [hb] at this; cases this
      · exact h2 b hm hlt
theorem gateR {b : Bool} {n : List Nat} {x r : Out} (h : (Bool.rec (.bad n) x b : Out) = r) (hr : ∀ m, r ≠ .bad m) : b = true ∧ x = r := by
  cases b with
  | true => exact ⟨rfl, h⟩
  | false => exact absurd h.symm (hr n)

section
variable {P : Program} {ops : Array Oper} {Q : Exit → Act → World → Prop} {md : Region.Mode}
/-- How many have not come up. -/
def leftN (ops : Array Oper) (listed : Array Bool) : Nat := ((List.range ops.size).filter fun j => !listed.getD j false).length
theorem getD_ft {listed : Array Bool} {j : Nat} (h : listed.getD j true = false) : listed.getD j false = false ∧ j < listed.size := by
  rcases Nat.lt_or_ge j listed.size with h' | h'
  · simp [h'] at h ⊢; exact h
  · simp [Array.getElem?_eq_none h'] at h
theorem getD_tf {listed : Array Bool} {j : Nat} (h : listed.getD j false = false) (hj : j < listed.size) : listed.getD j true = false := by
  simp [hj] at h ⊢; exact h
theorem getD_set_self {listed : Array Bool} {j : Nat} (hj : j < listed.size) : (listed.setIfInBounds j true).getD j false = true := by simp [hj]
theorem leftN_set [FX] {listed : Array Bool} {j : Nat} (hj : j < ops.size) (h : listed.getD j true = false) : leftN ops (listed.setIfInBounds j true) < leftN ops listed := by
  obtain ⟨hf, hs⟩ := getD_ft h
  have e : ((List.range ops.size).filter fun i => !(listed.setIfInBounds j true).getD i false) = ((List.range ops.size).filter fun i => !listed.getD i false).filter fun i => decide (i ≠ j) := by
    rw [List.filter_filter]
    apply List.filter_congr
    intro i _
    by_cases hij : i = j
    · subst hij; rw [getD_set_self hs]; simp
    · rw [getD_set_ne false (Ne.symm hij)]; simp [hij]
  unfold leftN
  rw [e, List.length_filter_lt_length_iff_exists]
  exact ⟨j, List.mem_filter.2 ⟨List.mem_range.2 hj, by rw [hf]; rfl⟩, by simp⟩
/-- What has come up came behind what it waits for. -/
def Closed (md : Region.Mode) (ops : Array Oper) (listed : Array Bool) : Prop := ∀ i o, ops[i]? = some o → listed.getD i false = true → ∀ e ∈ o.after, Region.binds md e = true → listed.getD e.on false = true
theorem all_listed [FX] (hwf : ∀ j o, ops[j]? = some o → ∀ e ∈ o.after, Region.binds md e = true → e.on < j) {listed : Array Bool} (hs : listed.size = ops.size) (hr : Region.ready md ops listed = []) : ∀ j, j < ops.size → listed.getD j false = true := by
  intro j
  induction j using Nat.strongRecOn with
  | ind j ih =>
    intro hj
    cases hl : listed.getD j false with
    | true => rfl
    | false =>
      have : j ∈ Region.ready md ops listed := mem_ready.2 ⟨getD_tf hl (by omega), ops[j], by simp [hj], fun e he hb => by
        have hlt := hwf j ops[j] (by simp [hj]) e he hb
        exact ih e.on hlt (by omega)⟩
      rw [hr] at this; cases this
theorem wpAny_inv [FX] (I : Array Bool → Act → World → Prop) (hwf : ∀ j o, ops[j]? = some o → ∀ e ∈ o.after, Region.binds md e = true → e.on < j)
    (hstep : ∀ listed a w j o, I listed a w → listed.size = ops.size → ops[j]? = some o → listed.getD j false = false → (∀ e ∈ o.after, Region.binds md e = true → listed.getD e.on false = true) → Closed md ops listed → wpOp P ops Q j (fun a' w' => I (listed.setIfInBounds j true) a' w') a w)
    (hend : ∀ listed a w, I listed a w → (∀ j, j < ops.size → listed.getD j false = true) → Q .normal a w) :
    ∀ (n : Nat) (listed : Array Bool) (a : Act) (w : World), listed.size = ops.size → Closed md ops listed → leftN ops listed ≤ n → I listed a w → wpAny P md ops Q n listed a w
  | 0, listed, a, w, _, _, hn, hI => by
    have hall : ∀ j, j < ops.size → listed.getD j false = true := fun j hj => by
      cases hl : listed.getD j false with
      | true => rfl
      | false =>
        have : j ∈ (List.range ops.size).filter fun j => !listed.getD j false := List.mem_filter.2 ⟨List.mem_range.2 hj, by rw [hl]; rfl⟩
        have := List.length_pos_of_mem this
        unfold leftN at hn
        omega
    refine ⟨?_, hend _ _ _ hI hall⟩
    apply List.eq_nil_iff_forall_not_mem.2
    intro j hj
    obtain ⟨h0, o, ho, _⟩ := mem_ready.1 hj
    have := hall j (Array.getElem?_eq_some_iff.1 ho).1
    rw [(getD_ft h0).1] at this; cases this
  | n + 1, listed, a, w, hs, hc, hn, hI => by
    refine ⟨fun hr => hend _ _ _ hI (all_listed hwf hs hr), fun j hj => ?_⟩
    obtain ⟨h0, o, ho, hall⟩ := mem_ready.1 hj
    have hjs : j < ops.size := (Array.getElem?_eq_some_iff.1 ho).1
    refine wpOp_mono (fun a' w' h => wpAny_inv I hwf hstep hend n _ a' w' (by simpa using hs) ?_ ?_ h) (hstep listed a w j o hI hs ho (getD_ft h0).1 hall hc)
    · intro i o' ho' hi e he hb
      by_cases hij : i = j
      · subst hij
        rw [ho] at ho'; cases ho'
        exact getD_set_true (hall e he hb)
      · rw [getD_set_ne false (Ne.symm hij)] at hi
        exact getD_set_true (hc i o' ho' hi e he hb)
    · have := leftN_set (ops := ops) hjs h0
      omega
theorem wp_region_inv [FX] {id : Nat} {a : Act} {w : World} (hm : P.follows .mixedOrders = true) (I : Array Bool → Act → World → Prop) (hwf : ∀ j o, ops[j]? = some o → ∀ e ∈ o.after, Region.binds .any e = true → e.on < j)
    (hstep : ∀ listed a w j o, I listed a w → listed.size = ops.size → ops[j]? = some o → listed.getD j false = false → (∀ e ∈ o.after, Region.binds .any e = true → listed.getD e.on false = true) → Closed .any ops listed → wpOp P ops Q j (fun a' w' => I (listed.setIfInBounds j true) a' w') a w)
    (hend : ∀ listed a w, I listed a w → (∀ j, j < ops.size → listed.getD j false = true) → Q .normal a w)
    (h : I (Array.replicate ops.size false) a w.drew) : (Code.region id ops true).wp P Q a w :=
  wp_region_any hm (wpAny_inv I hwf hstep hend _ _ _ _ (by simp) (fun i o _ hi => by
    exfalso
    rcases Nat.lt_or_ge i ops.size with h' | h'
    · simp [h'] at hi
    · simp [h'] at hi) (by unfold leftN; exact Nat.le_trans (List.length_filter_le _ _) (by simp)) h)
/-- Some end of an operation that neither panics nor runs out of room. -/
theorem wpOp_ex {i : Nat} {K : Act → World → Prop} {a : Act} {w : World} (h : wpOp P ops (fun _ _ _ => False) i K a w) : ∃ a' w', K a' w' := by
  unfold wpOp at h
  split at h
  · exact ⟨_, _, h⟩
  · rename_i o ho
    split at h
    · rcases h with h | ⟨_, _, _, h⟩
      · unfold Oper.wp at h
        generalize (execOp a.eval o).run P w = r at h
        cases r with
        | ok n w' =>
          cases n <;> simp only [Oper.upon] at h <;> first | exact ⟨_, _, h⟩ | skip
          · obtain ⟨en, w2, fr, h1, _⟩ := h []
            cases en with
            | returned v => exact ⟨_, _, h1⟩
            | panicked c => exact h1.elim
            | outgrown => obtain ⟨_, _, h2⟩ := h1; exact h2.elim
          · obtain ⟨v, w2, h1, _⟩ := h default []
            exact ⟨_, _, h1⟩
        | halt x w' => cases x <;> simp only [Oper.upon] at h
      · exact h.elim
    · exact ⟨_, _, h⟩
end
section
variable {ops : Array Oper}
/-- Which come ahead of which, as far as gone. -/
noncomputable def psOf (ops : Array Oper) : Nat → T Nat
  | 0 => .leaf
  | i + 1 => match ops[i]? with
    | some o => setO (preOf (psOf ops i) o.after.toList) i (psOf ops i)
    | none => psOf ops i
theorem psOf_succ {i : Nat} {o : Oper} (h : ops[i]? = some o) : psOf ops (i + 1) = setO (preOf (psOf ops i) o.after.toList) i (psOf ops i) := by
  simp only [psOf, h]
theorem psOf_at [FX] : ∀ {i j p : Nat}, (psOf ops i).at_ j = some p → j < i ∧ ∃ o, ops[j]? = some o ∧ preOf (psOf ops j) o.after.toList = some p
  | 0, j, p, h => by rw [show psOf ops 0 = .leaf from rfl, T.at_leaf] at h; cases h
  | i + 1, j, p, h => by
    cases ho : ops[i]? with
    | none =>
      simp only [psOf, ho] at h
      obtain ⟨h1, h2⟩ := psOf_at h
      exact ⟨by omega, h2⟩
    | some o =>
      rw [psOf_succ ho] at h
      cases hp : preOf (psOf ops i) o.after.toList with
      | none =>
        rw [hp] at h
        obtain ⟨h1, h2⟩ := psOf_at (show (psOf ops i).at_ j = some p from h)
        exact ⟨by omega, h2⟩
      | some q =>
        rw [hp] at h
        replace h : ((psOf ops i).set i q).at_ j = some p := h
        rw [T.at_set] at h
        by_cases hij : i = j
        · subst hij
          rw [if_pos rfl] at h
          cases h
          exact ⟨by omega, o, ho, hp⟩
        · rw [if_neg hij] at h
          obtain ⟨h1, h2⟩ := psOf_at h
          exact ⟨by omega, h2⟩
theorem preOf_inv [FX] {ps : T Nat} : ∀ {l : List Edge} {p : Nat}, preOf ps l = some p → (∀ e ∈ l, Region.binds .any e = true → ∃ q, ps.at_ e.on = some q) ∧ ∀ x, bitR p x = true → ∃ e ∈ l, Region.binds .any e = true ∧ ∃ q, ps.at_ e.on = some q ∧ (x = e.on ∨ bitR q x = true)
  | [], p, h => by
    injection (show some 0 = some p from h) with h
    subst h
    refine ⟨fun e he => by simp at he, fun x hx => ?_⟩
    rw [bitR_eq, Nat.zero_testBit] at hx
    cases hx
  | e :: l, p, h => by
    replace h : (Bool.rec (preOf ps l) (orP (ps.at_ e.on) (preOf ps l) e.on) (Region.binds .any e) : Option Nat) = some p := h
    cases hb : Region.binds .any e with
    | false =>
      rw [hb] at h
      obtain ⟨h1, h2⟩ := preOf_inv (show preOf ps l = some p from h)
      refine ⟨fun e' he' hb' => ?_, fun x hx => ?_⟩
      · rcases List.mem_cons.1 he' with rfl | he'
        · rw [hb] at hb'; cases hb'
        · exact h1 e' he' hb'
      · obtain ⟨e', h3, h4⟩ := h2 x hx
        exact ⟨e', by simp [h3], h4⟩
    | true =>
      rw [hb] at h
      replace h : orP (ps.at_ e.on) (preOf ps l) e.on = some p := h
      cases hq : ps.at_ e.on with
      | none => rw [hq] at h; cases h
      | some q =>
        cases hp : preOf ps l with
        | none => rw [hq, hp] at h; cases h
        | some p' =>
          rw [hq, hp] at h
          injection (show some (Nat.lor (Nat.lor q (Nat.shiftLeft 1 e.on)) p') = some p from h) with h
          subst h
          obtain ⟨h1, h2⟩ := preOf_inv hp
          refine ⟨fun e' he' hb' => ?_, fun x hx => ?_⟩
          · rcases List.mem_cons.1 he' with rfl | he'
            · exact ⟨q, hq⟩
            · exact h1 e' he' hb'
          · rw [bitR_or, bitR_or, bitR_one, Bool.or_eq_true, Bool.or_eq_true] at hx
            rcases hx with (hx | hx) | hx
            · exact ⟨e, by simp, hb, q, hq, .inr hx⟩
            · exact ⟨e, by simp, hb, q, hq, .inl (of_decide_eq_true hx).symm⟩
            · obtain ⟨e', h3, h4⟩ := h2 x hx
              exact ⟨e', by simp [h3], h4⟩
/-- What has come up came behind all that comes ahead of it. -/
theorem pre_listed [FX] {listed : Array Bool} (hc : Closed .any ops listed) : ∀ (i : Nat) {o : Oper} {p x : Nat}, ops[i]? = some o → preOf (psOf ops i) o.after.toList = some p → (∀ e ∈ o.after, Region.binds .any e = true → listed.getD e.on false = true) → bitR p x = true → listed.getD x false = true ∧ x < i := by
  intro i
  induction i using Nat.strongRecOn with
  | ind i ih =>
    intro o p x ho hp hall hx
    obtain ⟨e, h1, h2, q, h3, h4⟩ := (preOf_inv hp).2 x hx
    have he := hall e (by simpa using h1) h2
    obtain ⟨h5, o', h6, h7⟩ := psOf_at h3
    rcases h4 with rfl | h4
    · exact ⟨he, h5⟩
    · obtain ⟨h8, h9⟩ := ih e.on h5 h6 h7 (fun e' he' hb' => hc e.on o' h6 he e' he' hb') h4
      exact ⟨h8, by omega⟩
end

section
variable {P : Program} {B : Tb} {ns : NS} {nt : Nat} {ops : Array Oper} {tm tm' : Tm} {s s' : St} {ex : Ex}

/-- Which blocks an operation may have turned; which it has looked at. -/
def Rc.TP (r : Rc) (b : Nat) : Prop := b < r.hi ∧ (b ∈ r.tl ∨ r.lo ≤ b)
def Rc.Dom (r : Rc) (b : Nat) : Prop := b < r.lo ∧ (r.call = true ∨ b ∈ r.fp)
structure Rc.Ok (r : Rc) (nx : Nat) : Prop where
  le : r.lo ≤ r.hi
  hi : r.hi ≤ nx
  tl : r.call = false → ∀ b, r.lo ≤ b → b < r.hi → b ∈ r.tl
structure DStep [FX] (P : Program) (ns : NS) (nt : Nat) (ops : Array Oper) (base i : Nat) (o : Oper) (p : Nat) (rs : List Rc) (tm tml : Tm) (s : St) (F : T AObj) (G : St) (v : AV) (r : Rc) (tm' : Tm) (s' : St) : Prop where
  ix : r.ix = ixR rs
  md : r.md = md ns o.dst
  lo : r.lo = s.next
  hi : r.hi = G.next
  ok : r.Ok G.next
  tl : ∀ b, b ∈ r.tl → b ∈ G.wr ∨ s.next ≤ b
  tw : ∀ b, b ∈ G.wr → b ∈ r.tl
  tmq : tm' = put (Eng.md ns o.dst) v tm
  nx : s'.next = G.next
  lg : s'.wr = oldR base G.wr s.wr
  sub : ∀ b o, F.at_ b = some o → s.heap.at_ b = some o
  dom : ∀ b o, F.at_ b = some o → r.call = true ∨ b ∈ r.fp
  c1 : ∀ q ∈ unR p rs, ∀ b o, F.at_ b = some o → ¬ q.TP b
  c2 : ∀ q ∈ unR p rs, ∀ b, r.TP b → ¬ q.Dom b
  c3 : ∀ q ∈ unR p rs, ∀ b, r.TP b → ¬ q.TP b
  hp1 : ∀ b, r.TP b → s'.heap.at_ b = G.heap.at_ b
  hp2 : (∀ b o, s.heap.at_ b = some o → b < s.next) → (∀ b o, G.heap.at_ b = some o → b < G.next) → (∀ b, b < s.next → b ∉ G.wr → G.heap.at_ b = F.at_ b) → ∀ b, ¬ r.TP b → s'.heap.at_ b = s.heap.at_ b
  later : ∀ t, ev (mvT ns t) tml = .bot ∨ ((∀ (j : Nat) (o : Oper), i < j → ops[j]? = some o → o.dst = some t → ∃ p', preOf (psOf ops j) o.after.toList = some p' ∧ bitR p' i = true) ∧ ev (mvT ns t) tml = ev (mvT ns t) tm)
  run : ∀ (e : En) (w : World) (a : Act), Rep e ⟨F, s.next, []⟩ w → RTm e s.next ns (botU (unR p rs) tml) a → a.tmps.size = nt → ∀ (K : Act → World → Prop) (Q : Exit → Act → World → Prop),
    (∀ e' w' u, Stp e ⟨F, s.next, []⟩ w e' G w' → R e' G.next v u → (∀ d, o.dst = some d → d < nt ∨ (v = und ∧ u = undef)) → K (a.put o.dst u) w') → wpOp P ops Q i K a w

theorem okN_inv [FX] {un : List Rc} {fp lg : List Nat} (h : okN un fp lg = true) : (∀ q ∈ un, ∀ b ∈ fp, b ∉ q.tl) ∧ (∀ q ∈ un, ∀ b ∈ lg, b ∉ q.fp ∧ b ∉ q.tl) ∧ ∀ q ∈ un, q.call = true → lg = [] ∧ ∀ b ∈ fp, ¬(q.lo ≤ b ∧ b < q.hi) := by
  unfold okN at h
  rw [Bool.and_eq_true, Bool.and_eq_true] at h
  obtain ⟨h1, h2, h3⟩ := h
  refine ⟨fun q hq b hb hm => disj_iff h1 b hb ((flatR_mem _).2 ⟨q, hq, hm⟩), fun q hq b hb => ?_, fun q hq hc => ?_⟩
  · have := disj_iff h2 b hb
    rw [appR_eq, List.mem_append, not_or] at this
    exact ⟨fun hm => this.1 ((flatR_mem _).2 ⟨q, hq, hm⟩), fun hm => this.2 ((flatR_mem _).2 ⟨q, hq, hm⟩)⟩
  · have h4 := anyR_false h3 q hq
    simp only [hc, Bool.true_and, Bool.or_eq_false_iff] at h4
    obtain ⟨h5, h6⟩ := h4
    refine ⟨?_, fun b hb hh => ?_⟩
    · cases lg with
      | nil => rfl
      | cons x l => cases (show (!false) = false from h5)
    · have h7 := anyR_false (l := fp) (p := inB q.lo q.hi) (by rw [h6]; rfl) b hb
      unfold inB at h7
      rw [Nat.ble_eq_true_of_le hh.1, Nat.ble_eq_true_of_le hh.2] at h7
      cases h7
theorem okC_inv [FX] {un : List Rc} {nx : Nat} {lg : List Nat} (h : okC un nx lg = true) : (∀ q ∈ un, q.call = false) ∧ (∀ q ∈ un, ∀ b ∈ q.tl, b < nx) ∧ ∀ q ∈ un, ∀ b ∈ lg, b ∉ q.fp ∧ b ∉ q.tl := by
  unfold okC at h
  rw [Bool.and_eq_true, Bool.and_eq_true] at h
  obtain ⟨h1, h2, h3⟩ := h
  refine ⟨fun q hq => anyR_false h1 q hq, fun q hq b hb => ?_, fun q hq b hb => ?_⟩
  · have h4 := anyR_false h2 b ((flatR_mem _).2 ⟨q, hq, hb⟩)
    rcases Nat.lt_or_ge b nx with h5 | h5
    · exact h5
    · rw [Nat.ble_eq_true_of_le h5] at h4; cases h4
  · refine ⟨fun hm => ?_, fun hm => ?_⟩
    · exact disj_iff h3 b (by rw [appR_eq, List.mem_append]; exact .inl ((flatR_mem _).2 ⟨q, hq, hm⟩)) hb
    · exact disj_iff h3 b (by rw [appR_eq, List.mem_append]; exact .inr ((flatR_mem _).2 ⟨q, hq, hm⟩)) hb
theorem fpR_sub [FX] (h : T AObj) (l : List Nat) {b : Nat} {o : AObj} (hb : (lay h l .leaf).at_ b = some o) : h.at_ b = some o ∧ b ∈ l := by
  rw [lay_at] at hb
  by_cases hm : b ∈ l
  · rw [if_pos hm] at hb; exact ⟨hb, hm⟩
  · rw [if_neg hm, T.at_leaf] at hb; cases hb
theorem del_sub [FX] (h : T AObj) (l : List Nat) {b : Nat} {o : AObj} (hb : (lay .leaf l h).at_ b = some o) : h.at_ b = some o ∧ b ∉ l := by
  rw [lay_at] at hb
  by_cases hm : b ∈ l
  · rw [if_pos hm, T.at_leaf] at hb; cases hb
  · rw [if_neg hm] at hb; exact ⟨hb, hm⟩
/-- A panic, where all that is ahead is done and all that is behind waits for it. -/
structure PStep [FX] (P : Program) (ns : NS) (nt : Nat) (ops : Array Oper) (base i : Nat) (o : Oper) (p : Nat) (rs : List Rc) (tm tml : Tm) (s : St) (G : St) (v : AV) (s' : St) : Prop where
  un : unR p rs = []
  sp : s' = ⟨G.heap, G.next, oldR base G.wr s.wr⟩
  later : ∀ t, ev (mvT ns t) tml = .bot ∨ ((∀ (j : Nat) (o : Oper), i < j → ops[j]? = some o → o.dst = some t → ∃ p', preOf (psOf ops j) o.after.toList = some p' ∧ bitR p' i = true) ∧ ev (mvT ns t) tml = ev (mvT ns t) tm)
  wait : ∀ (j : Nat) (o : Oper), i < j → ops[j]? = some o → ∃ p', preOf (psOf ops j) o.after.toList = some p' ∧ bitR p' i = true
  run : ∀ (e : En) (w : World) (a : Act), Rep e ⟨s.heap, s.next, []⟩ w → RTm e s.next ns tml a → a.tmps.size = nt → ∀ (K : Act → World → Prop) (Q : Exit → Act → World → Prop),
    (∀ e' w' u, Stp e ⟨s.heap, s.next, []⟩ w e' G w' → R e' G.next v u → Q (.panic [{ v := u, recovered := false }]) a w') → wpOp P ops Q i K a w
theorem retD_inv {x r : Out} {k q : AV → St → Out} (h : retD x k q = r) (hr : ∀ m, r ≠ .bad m) : ∃ v g, (x = .ret v g ∧ k v g = r) ∨ (∃ tm ds, x = .pan v tm ds g ∧ q v g = r) := by
  cases x with
  | ret v g => exact ⟨v, g, .inl ⟨rfl, h⟩⟩
  | pan v tm ds g => exact ⟨v, g, .inr ⟨tm, ds, rfl, h⟩⟩
  | ok _ _ _ _ => exact absurd h.symm (hr _)
  | okR _ _ _ _ => exact absurd h.symm (hr _)
  | retR _ _ => exact absurd h.symm (hr _)
  | bad _ => exact absurd h.symm (hr _)
theorem latB_inv [FX] {B : Tb} {all : List Oper} {ix : Nat} : ∀ (l : List Oper) (k : Nat), ops.toList.drop k = l → latB ix (dosL B ns nt all l k (psOf ops k)) = true → ∀ (j : Nat) (o : Oper), k ≤ j → ops[j]? = some o → ∃ p', preOf (psOf ops j) o.after.toList = some p' ∧ bitR p' ix = true
  | [], k, hl, _, j, o, hj, ho => by
    have h4 := List.drop_eq_nil_iff.1 hl
    have h5 := (Array.getElem?_eq_some_iff.1 ho).1
    simp at h4
    omega
  | o :: l, k, hl, h, j, o', hj, ho' => by
    have hlt : k < ops.size := by
      rcases Nat.lt_or_ge k ops.size with h1 | h1
      · exact h1
      · rw [List.drop_eq_nil_of_le (by simpa using h1)] at hl; cases hl
    have ho : ops[k]? = some o := by
      have h1 : (ops.toList.drop k)[0]? = some o := by rw [hl]; rfl
      rw [List.getElem?_drop] at h1
      simpa using h1
    have hl2 : ops.toList.drop (k + 1) = l := by
      have h1 := congrArg (List.drop 1) hl
      rw [List.drop_drop] at h1
      exact h1
    replace h : and (Option.rec false (fun p => bitR p ix) (preOf (psOf ops k) o.after.toList)) (latB ix (dosL B ns nt all l (k + 1) (setO (preOf (psOf ops k) o.after.toList) k (psOf ops k)))) = true := h
    rw [Bool.and_eq_true, ← psOf_succ ho] at h
    by_cases hjk : j = k
    · subst hjk
      rw [ho] at ho'
      cases ho'
      cases hp : preOf (psOf ops j) o.after.toList with
      | none => rw [hp] at h; cases h.1
      | some p => rw [hp] at h; exact ⟨p, rfl, h.1⟩
    · exact latB_inv l (k + 1) hl2 h.2 j o' (by omega) ho'
theorem latR_ev [FX] {B : Tb} {all : List Oper} {ix t : Nat} {tm : Tm} : ∀ (l : List Oper) (k : Nat), ops.toList.drop k = l → ev (mvT ns t) (latR ix (dosL B ns nt all l k (psOf ops k)) tm) = .bot ∨ ((∀ (j : Nat) (o : Oper), k ≤ j → ops[j]? = some o → o.dst = some t → ∃ p', preOf (psOf ops j) o.after.toList = some p' ∧ bitR p' ix = true) ∧ ev (mvT ns t) (latR ix (dosL B ns nt all l k (psOf ops k)) tm) = ev (mvT ns t) tm)
  | [], k, hl => .inr ⟨fun j o hj ho => by
      have h4 := List.drop_eq_nil_iff.1 hl
      have h5 := (Array.getElem?_eq_some_iff.1 ho).1
      simp at h4
      omega, rfl⟩
  | o :: l, k, hl => by
    have hlt : k < ops.size := by
      rcases Nat.lt_or_ge k ops.size with h1 | h1
      · exact h1
      · rw [List.drop_eq_nil_of_le (by simpa using h1)] at hl; cases hl
    have ho : ops[k]? = some o := by
      have h1 : (ops.toList.drop k)[0]? = some o := by rw [hl]; rfl
      rw [List.getElem?_drop] at h1
      simpa using h1
    have hl2 : ops.toList.drop (k + 1) = l := by
      have h1 := congrArg (List.drop 1) hl
      rw [List.drop_drop] at h1
      exact h1
    have ih := latR_ev (B := B) (all := all) (ix := ix) (t := t) (tm := tm) l (k + 1) hl2
    rw [psOf_succ ho] at ih
    show ev (mvT ns t) (latO (md ns o.dst) (latR ix (dosL B ns nt all l (k + 1) (setO (preOf (psOf ops k) o.after.toList) k (psOf ops k))) tm) ix (preOf (psOf ops k) o.after.toList)) = .bot ∨ (_ ∧ ev (mvT ns t) (latO (md ns o.dst) (latR ix (dosL B ns nt all l (k + 1) (setO (preOf (psOf ops k) o.after.toList) k (psOf ops k))) tm) ix (preOf (psOf ops k) o.after.toList)) = _)
    generalize latR ix (dosL B ns nt all l (k + 1) (setO (preOf (psOf ops k) o.after.toList) k (psOf ops k))) tm = T at ih
    have hput : ev (mvT ns t) (put (md ns o.dst) .bot T) = .bot ∨ (o.dst ≠ some t ∧ ev (mvT ns t) (put (md ns o.dst) .bot T) = ev (mvT ns t) T) := by
      cases hd : o.dst with
      | none => exact .inr ⟨(fun hh => (by cases hh)), rfl⟩
      | some d =>
        rw [put_ev]
        by_cases hdt : d = t
        · exact .inl (if_pos hdt)
        · exact .inr ⟨fun hh => hdt (by cases hh; rfl), if_neg hdt⟩
    have hblot : ev (mvT ns t) (put (md ns o.dst) .bot T) = .bot ∨ ((∀ (j : Nat) (o : Oper), k ≤ j → ops[j]? = some o → o.dst = some t → ∃ p', preOf (psOf ops j) o.after.toList = some p' ∧ bitR p' ix = true) ∧ ev (mvT ns t) (put (md ns o.dst) .bot T) = ev (mvT ns t) tm) := by
      rcases hput with h1 | ⟨h1, h2⟩
      · exact .inl h1
      · rcases ih with h3 | ⟨h3, h4⟩
        · exact .inl (h2.trans h3)
        · refine .inr ⟨fun j o' hj ho' hd' => ?_, h2.trans h4⟩
          by_cases hjk : j = k
          · subst hjk
            rw [ho] at ho'
            cases ho'
            exact absurd hd' h1
          · exact h3 j o' (by omega) ho' hd'
    cases hp : preOf (psOf ops k) o.after.toList with
    | none => exact hblot
    | some p =>
      show ev (mvT ns t) (Bool.rec (put (md ns o.dst) .bot T) T (bitR p ix)) = .bot ∨ (_ ∧ ev (mvT ns t) (Bool.rec (put (md ns o.dst) .bot T) T (bitR p ix)) = _)
      cases hb : bitR p ix with
      | false => exact hblot
      | true =>
        rcases ih with h3 | ⟨h3, h4⟩
        · exact .inl h3
        · refine .inr ⟨fun j o' hj ho' hd' => ?_, h4⟩
          by_cases hjk : j = k
          · subst hjk
            rw [ho] at ho'
            cases ho'
            exact ⟨p, hp, hb⟩
          · exact h3 j o' (by omega) ho' hd'
theorem step_D [FX] (ht : TbOk P B) {n : Nat} (hF : FnOk P B n) {base i dn : Nat} {o : Oper} (ho : ops[i]? = some o) {l : List DO} {rs : List Rc} (hrs : ∀ q ∈ rs, q.Ok s.next) (hix : ixR rs = i) (hl : l = dosL B ns nt ops.toList (ops.toList.drop (i + 1)) (i + 1) (psOf ops (i + 1))) {r0 : Out} (hr0 : ∀ m, r0 ≠ .bad m)
    (h : preD (preOf (psOf ops i) o.after.toList) (dnO o.dst dn) ⟨moOf B ns nt ops.toList o, o.dst, preOf (psOf ops i) o.after.toList, mapR (mv ns) o.op.operands.toList⟩ (run B n) l rs base tm s = r0) :
    ∃ p dn1 G v, preOf (psOf ops i) o.after.toList = some p ∧ dnO o.dst dn = some dn1 ∧ ((∃ F r tm1 s1, DStep P ns nt ops base i o p rs tm (latR i l tm) s F G v r tm1 s1 ∧ run B n (.dops l (r :: rs) dn1 base tm1 s1) = r0) ∨ ∃ s1, PStep P ns nt ops base i o p rs tm (latR i l tm) s G v s1 ∧ r0 = .pan v tm [] s1) := by
  have hlat := fun t => by
    have := latR_ev (B := B) (ns := ns) (nt := nt) (all := ops.toList) (ix := i) (t := t) (tm := tm) (ops.toList.drop (i + 1)) (i + 1) rfl
    rw [← hl] at this
    exact this
  cases hp : preOf (psOf ops i) o.after.toList with
  | none => rw [hp] at h; exact absurd h.symm (hr0 _)
  | some p =>
    cases hd : dnO o.dst dn with
    | none => rw [hp, hd] at h; exact absurd h.symm (hr0 _)
    | some dn1 =>
      rw [hp, hd] at h
      have hun : ∀ q ∈ unR p rs, q.Ok s.next := fun q hq => hrs q (unR_mem.1 hq).1
      replace h : wantD (wantedA (Option.rec none (gdOf ns ops.toList) o.guard) (botU (unR p rs) (latR (ixR rs) l tm))) (unR p rs) ⟨moOf B ns nt ops.toList o, o.dst, some p, mapR (mv ns) o.op.operands.toList⟩ (botU (unR p rs) (latR (ixR rs) l tm)) (run B n) l rs dn1 base tm s = r0 := h
      rw [hix] at h
      cases hw : wantedA (Option.rec none (gdOf ns ops.toList) o.guard) (botU (unR p rs) (latR i l tm)) with
      | none => rw [hw] at h; exact absurd h.symm (hr0 _)
      | some wb =>
        rw [hw] at h
        cases wb with
        | false =>
          replace h : run B n (.dops l (⟨ixR rs, md ns o.dst, [], [], s.next, s.next, false⟩ :: rs) dn1 base (put (md ns o.dst) und tm) s) = r0 := h
          have hno : ∀ b, ¬ (Rc.TP ⟨ixR rs, md ns o.dst, [], [], s.next, s.next, false⟩ b) := fun b hb => by
            obtain ⟨h1, h2 | h2⟩ := hb
            · cases h2
            · exact absurd h1 (Nat.not_lt.2 h2)
          refine ⟨p, dn1, ⟨.leaf, s.next, []⟩, und, rfl, rfl, .inl ⟨.leaf, ⟨ixR rs, md ns o.dst, [], [], s.next, s.next, false⟩, _, s, ?_, h⟩⟩
          exact {
            ix := rfl, md := rfl, lo := rfl, hi := rfl, ok := ⟨Nat.le_refl _, Nat.le_refl _, fun _ b h1 h2 => absurd h2 (Nat.not_lt.2 h1)⟩, tl := fun b hb => ((by cases hb)), tw := fun b hb => ((by cases hb)), tmq := rfl, nx := rfl, lg := rfl
            sub := fun b o hb => by rw [T.at_leaf] at hb; cases hb
            dom := fun b o hb => by rw [T.at_leaf] at hb; cases hb
            later := fun t => (hlat t).imp id fun h => ⟨fun j o hj => h.1 j o hj, h.2⟩
            c1 := fun q _ b o hb => by rw [T.at_leaf] at hb; cases hb
            c2 := fun q _ b hb => absurd hb (hno b)
            c3 := fun q _ b hb => absurd hb (hno b)
            hp1 := fun b hb => absurd hb (hno b)
            hp2 := fun _ _ _ b _ => rfl
            run := fun e w a hr hm hsz K Q hK => by
              unfold wpOp
              simp only [ho]
              rw [wanted_run (ops := ops) hm hw, if_neg (by decide)]
              exact hK e w undef (Stp.refl hr) und_R fun d _ => .inr ⟨rfl, rfl⟩ }
        | true =>
          replace h : doD (callB (dstC nt (cmp ns o.op B) o.dst)) (unR p rs) ⟨moOf B ns nt ops.toList o, o.dst, some p, mapR (mv ns) o.op.operands.toList⟩ (botU (unR p rs) (latR i l tm)) (run B n) l rs dn1 base tm s = r0 := h
          cases hcb : callB (dstC nt (cmp ns o.op B) o.dst) with
          | false =>
            rw [hcb] at h
            replace h : valD (opA (dstC nt (cmp ns o.op B) o.dst) (botU (unR p rs) (latR i l tm)) ⟨lay s.heap (fpR (mapR (mv ns) o.op.operands.toList) (botU (unR p rs) (latR i l tm))) .leaf, s.next, []⟩) (endN (unR p rs) (fpR (mapR (mv ns) o.op.operands.toList) (botU (unR p rs) (latR i l tm))) (run B n) l rs dn1 base tm (md ns o.dst) s) = r0 := h
            generalize fpR (mapR (mv ns) o.op.operands.toList) (botU (unR p rs) (latR i l tm)) = fp at h
            have hne : dstC nt (cmp ns o.op B) o.dst ≠ .none := by intro hh; rw [hh] at h; exact absurd h.symm (hr0 _)
            obtain ⟨hdc, hlt⟩ := dstC_inv rfl hne
            rw [hdc] at h
            cases hx : opA (cmp ns o.op B) (botU (unR p rs) (latR i l tm)) ⟨lay s.heap fp .leaf, s.next, []⟩ with
            | val v g =>
              rw [hx] at h
              obtain ⟨hg, h⟩ := gateR (show (Bool.rec (.bad [920]) (goD (run B n) l rs dn1 base tm (md ns o.dst) v ⟨ixR rs, md ns o.dst, fp, appR g.wr (numR s.next (Nat.sub g.next s.next)), s.next, g.next, false⟩ ⟨lay g.heap (appR g.wr (numR s.next (Nat.sub g.next s.next))) s.heap, g.next, oldR base g.wr s.wr⟩) (and (Nat.ble s.next g.next) (okN (unR p rs) fp g.wr)) : Out) = r0 from h) hr0
              rw [Bool.and_eq_true] at hg
              have hle : s.next ≤ g.next := Nat.le_of_ble_eq_true hg.1
              obtain ⟨k1, k2, k3⟩ := okN_inv hg.2
              have htl : ∀ b, b ∈ appR g.wr (numR s.next (Nat.sub g.next s.next)) ↔ b ∈ g.wr ∨ (s.next ≤ b ∧ b < g.next) := fun b => by
                rw [appR_eq, List.mem_append, numR_mem, show s.next + Nat.sub g.next s.next = g.next from Nat.add_sub_cancel' hle]
              refine ⟨p, dn1, g, v, rfl, rfl, .inl ⟨lay s.heap fp .leaf, ⟨ixR rs, md ns o.dst, fp, appR g.wr (numR s.next (Nat.sub g.next s.next)), s.next, g.next, false⟩, _, _, ?_, h⟩⟩
              have hTP : ∀ b, Rc.TP ⟨ixR rs, md ns o.dst, fp, appR g.wr (numR s.next (Nat.sub g.next s.next)), s.next, g.next, false⟩ b → b < g.next ∧ (b ∈ g.wr ∨ s.next ≤ b) := fun b hb => by
                obtain ⟨h1, h2 | h2⟩ := hb
                · rcases (htl b).1 h2 with h3 | h3
                  · exact ⟨h1, .inl h3⟩
                  · exact ⟨h1, .inr h3.1⟩
                · exact ⟨h1, .inr h2⟩
              exact {
                ix := rfl, md := rfl, lo := rfl, hi := rfl, ok := ⟨hle, Nat.le_refl _, fun _ b h1 h2 => (htl b).2 (.inr ⟨h1, h2⟩)⟩
                tl := fun b hb => ((htl b).1 hb).imp id (·.1)
                tw := fun b hb => (htl b).2 (.inl hb)
                tmq := rfl, nx := rfl, lg := rfl
                sub := fun b o hb => (fpR_sub _ _ hb).1
                dom := fun b o hb => .inr (fpR_sub _ _ hb).2
                later := fun t => (hlat t).imp id fun h => ⟨fun j o hj => h.1 j o hj, h.2⟩
                c1 := fun q hq b o hb hT => by
                  have hf := (fpR_sub _ _ hb).2
                  obtain ⟨h1, h2 | h2⟩ := hT
                  · exact k1 q hq b hf h2
                  · cases hc : q.call with
                    | true => exact (k3 q hq hc).2 b hf ⟨h2, h1⟩
                    | false => exact k1 q hq b hf ((hun q hq).tl hc b h2 h1)
                c2 := fun q hq b hT hD => by
                  obtain ⟨h1, h2 | h2⟩ := hTP b hT
                  · obtain ⟨h3, h4 | h4⟩ := hD
                    · rw [(k3 q hq h4).1] at h2; cases h2
                    · exact (k2 q hq b h2).1 h4
                  · have := (hun q hq).le; have := (hun q hq).hi; have := hD.1; omega
                c3 := fun q hq b hT hT2 => by
                  obtain ⟨h1, h2 | h2⟩ := hTP b hT
                  · obtain ⟨h3, h4 | h4⟩ := hT2
                    · exact (k2 q hq b h2).2 h4
                    · cases hc : q.call with
                      | true => rw [(k3 q hq hc).1] at h2; cases h2
                      | false => exact (k2 q hq b h2).2 ((hun q hq).tl hc b h4 h3)
                  · have := (hun q hq).hi; have := hT2.1; omega
                hp1 := fun b hT => by
                  show (lay g.heap _ s.heap).at_ b = _
                  rw [lay_at, if_pos]
                  obtain ⟨h1, h2 | h2⟩ := hTP b hT
                  · exact (htl b).2 (.inl h2)
                  · exact (htl b).2 (.inr ⟨h2, h1⟩)
                hp2 := fun hs hgb _ b hT => by
                  show (lay g.heap _ s.heap).at_ b = _
                  rw [lay_at]
                  by_cases hm : b ∈ appR g.wr (numR s.next (Nat.sub g.next s.next))
                  · rw [if_pos hm]
                    have hge : g.next ≤ b := by
                      rcases Nat.lt_or_ge b g.next with h1 | h1
                      · exact absurd ⟨h1, .inl hm⟩ hT
                      · exact h1
                    cases h2 : g.heap.at_ b with
                    | some o' => have := hgb b o' h2; omega
                    | none =>
                      cases h3 : s.heap.at_ b with
                      | some o' => have := hs b o' h3; omega
                      | none => rfl
                  · rw [if_neg hm]
                run := fun e w a hr hm hsz K Q hK => by
                  unfold wpOp
                  simp only [ho]
                  rw [wanted_run (ops := ops) hm hw, if_pos rfl]
                  left
                  obtain ⟨e1, w1, nx, h1, h2, h3⟩ := op_run ht hr hm hx
                  unfold Oper.wp
                  rw [h1]
                  rcases h3 with ⟨u, rfl, hu⟩ | ⟨rfl, rfl⟩
                  · exact hK e1 w1 u h2 hu fun d hd => .inl (hlt d hd)
                  · exact hK e1 w1 undef h2 und_R fun d hd => .inl (hlt d hd) }
            | call f args g => rw [hx] at h; exact absurd h.symm (hr0 _)
            | defer f args g => rw [hx] at h; exact absurd h.symm (hr0 _)
            | recov g => rw [hx] at h; exact absurd h.symm (hr0 _)
            | pan v g => rw [hx] at h; exact absurd h.symm (hr0 _)
            | bad m => rw [hx] at h; exact absurd h.symm (hr0 _)
          | true =>
            rw [hcb] at h
            replace h : callD (opA (dstC nt (cmp ns o.op B) o.dst) (botU (unR p rs) (latR i l tm)) ⟨lay .leaf (flatR Rc.tl (unR p rs)) s.heap, s.next, []⟩) (run B n) (endC (unR p rs) (run B n) l rs dn1 base tm (md ns o.dst) s) (panC (unR p rs) l rs base tm s) = r0 := h
            have hne : dstC nt (cmp ns o.op B) o.dst ≠ .none := by intro hh; rw [hh] at h; exact absurd h.symm (hr0 _)
            obtain ⟨hdc, hlt⟩ := dstC_inv rfl hne
            rw [hdc] at h hcb
            obtain ⟨g0, as, hm2⟩ := callB_inv hcb
            obtain ⟨c, x, hop, hcal, rfl, rfl⟩ : ∃ c x, o.op = .call c ∧ c.callee = .value x ∧ g0 = mv ns x ∧ as = mapR (mv ns) c.args.toList := by
              cases cmp_act hm2 rfl with
              | call c x h1 h2 h3 => cases h3; exact ⟨c, x, h1, h2, rfl, rfl⟩
              | defer c x _ _ h3 => cases h3
              | panic x _ h3 => cases h3
              | recov c _ _ h3 => cases h3
            cases hx : opA (cmp ns o.op B) (botU (unR p rs) (latR i l tm)) ⟨lay .leaf (flatR Rc.tl (unR p rs)) s.heap, s.next, []⟩ with
            | call f args s2 =>
              rw [hx] at h
              rw [hm2] at hx
              obtain ⟨fi, cp, _, _, hs2⟩ := callV_inv hx
              subst hs2
              obtain ⟨v, g, ⟨hrun, h⟩ | ⟨tm9, ds9, hrun, h⟩⟩ := retD_inv (show retD (run B n (.fn f args ⟨lay .leaf (flatR Rc.tl (unR p rs)) s.heap, s.next, []⟩)) (endC (unR p rs) (run B n) l rs dn1 base tm (md ns o.dst) s) (panC (unR p rs) l rs base tm s) = r0 from h) hr0
              rotate_left 1
              · obtain ⟨hg, h⟩ := gateR (show (Bool.rec (.bad [925]) (.pan v tm [] ⟨g.heap, g.next, oldR base g.wr s.wr⟩) (and (nilB (unR p rs)) (latB (ixR rs) l)) : Out) = r0 from h) hr0
                rw [Bool.and_eq_true, hix] at hg
                have hun0 : unR p rs = [] := by
                  cases hu : unR p rs with
                  | nil => rfl
                  | cons q l => rw [hu] at hg; cases (show false = true from hg.1)
                rw [hun0] at hw hx hrun
                refine ⟨p, dn1, g, v, rfl, rfl, .inr ⟨_, ?_, h.symm⟩⟩
                exact {
                  un := hun0, sp := rfl
                  later := fun t => (hlat t).imp id fun h => ⟨fun j o hj => h.1 j o hj, h.2⟩
                  wait := fun j o hj => latB_inv (B := B) (ns := ns) (nt := nt) (all := ops.toList) (ops.toList.drop (i + 1)) (i + 1) rfl (by rw [← hl]; exact hg.2) j o hj
                  run := fun e w a hr hm hsz K Q hK => by
                    unfold wpOp
                    simp only [ho]
                    rw [wanted_run (ops := ops) hm hw, if_pos rfl]
                    left
                    obtain ⟨_, vs, hvs, hexec⟩ := op_call (P := P) (s := ⟨s.heap, s.next, []⟩) (w := w) hm hop hcal hx
                    unfold Oper.wp
                    rw [hexec]
                    refine hF f args _ e w vs hr hm.1 hvs ?_
                    have hrun' : run B n (.fn f args ⟨s.heap, s.next, []⟩) = .pan v tm9 ds9 g := hrun
                    rw [hrun']
                    exact fun e1 w1 u h1 hu => hK e1 w1 u h1 hu }
              obtain ⟨hg, h⟩ := gateR (show (Bool.rec (.bad [921]) (goD (run B n) l rs dn1 base tm (md ns o.dst) v ⟨ixR rs, md ns o.dst, [], g.wr, s.next, g.next, true⟩ ⟨lay s.heap (flatR Rc.tl (unR p rs)) g.heap, g.next, oldR base g.wr s.wr⟩) (and (Nat.ble s.next g.next) (okC (unR p rs) s.next g.wr)) : Out) = r0 from h) hr0
              rw [Bool.and_eq_true] at hg
              have hle : s.next ≤ g.next := Nat.le_of_ble_eq_true hg.1
              obtain ⟨k1, k2, k3⟩ := okC_inv hg.2
              refine ⟨p, dn1, g, v, rfl, rfl, .inl ⟨lay .leaf (flatR Rc.tl (unR p rs)) s.heap, ⟨ixR rs, md ns o.dst, [], g.wr, s.next, g.next, true⟩, _, _, ?_, h⟩⟩
              exact {
                ix := rfl, md := rfl, lo := rfl, hi := rfl, ok := ⟨hle, Nat.le_refl _, fun hc => ((by cases hc))⟩
                tl := fun b hb => .inl hb
                tw := fun b hb => hb
                tmq := rfl, nx := rfl, lg := rfl
                sub := fun b o hb => (del_sub _ _ hb).1
                dom := fun b o hb => .inl rfl
                later := fun t => (hlat t).imp id fun h => ⟨fun j o hj => h.1 j o hj, h.2⟩
                c1 := fun q hq b o hb hT => by
                  have hf := (del_sub _ _ hb).2
                  obtain ⟨h1, h2 | h2⟩ := hT
                  · exact hf ((flatR_mem _).2 ⟨q, hq, h2⟩)
                  · exact hf ((flatR_mem _).2 ⟨q, hq, (hun q hq).tl (k1 q hq) b h2 h1⟩)
                c2 := fun q hq b hT hD => by
                  obtain ⟨h1, h2 | h2⟩ := hT
                  · obtain ⟨h3, h4 | h4⟩ := hD
                    · rw [k1 q hq] at h4; cases h4
                    · exact (k3 q hq b h2).1 h4
                  · have h2' : s.next ≤ b := h2
                    have := (hun q hq).le; have := (hun q hq).hi; have := hD.1; omega
                c3 := fun q hq b hT hT2 => by
                  obtain ⟨h1, h2 | h2⟩ := hT
                  · obtain ⟨h3, h4 | h4⟩ := hT2
                    · exact (k3 q hq b h2).2 h4
                    · exact (k3 q hq b h2).2 ((hun q hq).tl (k1 q hq) b h4 h3)
                  · have h2' : s.next ≤ b := h2
                    have := (hun q hq).hi; have := hT2.1; omega
                hp1 := fun b hT => by
                  show (lay s.heap _ g.heap).at_ b = _
                  rw [lay_at, if_neg]
                  intro hm
                  obtain ⟨q, hq, hm⟩ := (flatR_mem _).1 hm
                  obtain ⟨h1, h2 | h2⟩ := hT
                  · exact (k3 q hq b h2).2 hm
                  · exact absurd (k2 q hq b hm) (Nat.not_lt.2 h2)
                hp2 := fun hs hgb hlg b hT => by
                  show (lay s.heap _ g.heap).at_ b = _
                  rw [lay_at]
                  by_cases hm : b ∈ flatR Rc.tl (unR p rs)
                  · rw [if_pos hm]
                  · rw [if_neg hm]
                    rcases Nat.lt_or_ge b s.next with h1 | h1
                    · have h2 : b ∉ g.wr := fun hw2 => hT ⟨Nat.lt_of_lt_of_le h1 hle, .inl hw2⟩
                      rw [hlg b h1 h2, lay_at, if_neg hm]
                    · have hge : g.next ≤ b := by
                        rcases Nat.lt_or_ge b g.next with h2 | h2
                        · exact absurd ⟨h2, .inr h1⟩ hT
                        · exact h2
                      cases h2 : g.heap.at_ b with
                      | some o' => have := hgb b o' h2; omega
                      | none =>
                        cases h3 : s.heap.at_ b with
                        | some o' => have := hs b o' h3; omega
                        | none => rfl
                run := fun e w a hr hm hsz K Q hK => by
                  unfold wpOp
                  simp only [ho]
                  rw [wanted_run (ops := ops) hm hw, if_pos rfl]
                  left
                  obtain ⟨_, vs, hvs, hexec⟩ := op_call (P := P) (s := ⟨lay .leaf (flatR Rc.tl (unR p rs)) s.heap, s.next, []⟩) (w := w) hm hop hcal hx
                  unfold Oper.wp
                  rw [hexec]
                  refine hF f args _ e w vs hr hm.1 hvs ?_
                  rw [hrun]
                  exact fun e1 w1 u h1 hu => hK e1 w1 u h1 hu fun d hd => .inl (hlt d hd) }
            | val v g => rw [hx] at h; exact absurd h.symm (hr0 _)
            | defer f args g => rw [hx] at h; exact absurd h.symm (hr0 _)
            | recov g => rw [hx] at h; exact absurd h.symm (hr0 _)
            | pan v g => rw [hx] at h; exact absurd h.symm (hr0 _)
            | bad m => rw [hx] at h; exact absurd h.symm (hr0 _)
/-- A drawn region's run, whole. -/
structure Ch where
  rs : Nat → List Rc
  tm : Nat → Tm
  s : Nat → St
  dn : Nat → Nat
  F : Nat → T AObj
  G : Nat → St
  v : Nat → AV
  r : Nat → Rc
  p : Nat → Nat
  tl : Nat → Tm
def Ch.Ok [FX] (C : Ch) (P : Program) (ns : NS) (nt : Nat) (ops : Array Oper) (base i M : Nat) : Prop := ∀ j o, i ≤ j → j < M → ops[j]? = some o → preOf (psOf ops j) o.after.toList = some (C.p j) ∧ dnO o.dst (C.dn j) = some (C.dn (j + 1)) ∧ C.rs (j + 1) = C.r j :: C.rs j ∧
  DStep P ns nt ops base j o (C.p j) (C.rs j) (C.tm j) (C.tl j) (C.s j) (C.F j) (C.G j) (C.v j) (C.r j) (C.tm (j + 1)) (C.s (j + 1))
/-- How a drawn region's run ends: all is done, or one panics. -/
inductive Ch.End [FX] (C : Ch) (P : Program) (ns : NS) (nt : Nat) (ops : Array Oper) (base M : Nat) : Out → Prop
  | all (h : M = ops.size) : Ch.End C P ns nt ops base M (.ok .normal (C.tm M) [] (C.s M))
  | pan (o : Oper) (p : Nat) (tml : Tm) (G : St) (v : AV) (s' : St) (ho : ops[M]? = some o) (hp : preOf (psOf ops M) o.after.toList = some p) (hS : PStep P ns nt ops base M o p (C.rs M) (C.tm M) tml (C.s M) G v s') : Ch.End C P ns nt ops base M (.pan v (C.tm M) [] s')
def upd {α : Type} (i : Nat) (x : α) (f : Nat → α) : Nat → α := fun j => if j = i then x else f j
theorem upd_at {α : Type} (i : Nat) (x : α) (f : Nat → α) : upd i x f i = x := by simp [upd]
theorem upd_ne {α : Type} {i j : Nat} (x : α) (f : Nat → α) (h : j ≠ i) : upd i x f j = f j := by simp [upd, h]
theorem Ch.End.upd [FX] {C C' : Ch} {P : Program} {base M : Nat} {r : Out} (h : C.End P ns nt ops base M r) (h1 : C'.tm M = C.tm M) (h2 : C'.s M = C.s M) (h3 : C'.rs M = C.rs M) : C'.End P ns nt ops base M r := by
  cases h with
  | all h => rw [← h1, ← h2]; exact .all h
  | pan o p tml G v s' ho hp hS =>
    rw [← h1]
    refine .pan o p tml G v s' ho hp ?_
    rw [h1, h2, h3]
    exact hS
theorem chain [FX] (ht : TbOk P B) {base : Nat} : ∀ (n : Nat), (∀ m, m < n → FnOk P B m) → ∀ (l : List Oper) (i : Nat) (rs : List Rc) (dn : Nat) (tm : Tm) (s : St) (r0 : Out), ops.toList.drop i = l → i ≤ ops.size → (∀ q ∈ rs, q.Ok s.next) → ixR rs = i → (∀ m, r0 ≠ .bad m) →
    run B n (.dops (dosL B ns nt ops.toList l i (psOf ops i)) rs dn base tm s) = r0 →
    ∃ (C : Ch) (M : Nat), i ≤ M ∧ M ≤ ops.size ∧ C.Ok P ns nt ops base i M ∧ C.rs i = rs ∧ C.tm i = tm ∧ C.s i = s ∧ C.dn i = dn ∧ C.End P ns nt ops base M r0
  | 0, _, _, _, _, _, _, _, _, _, _, _, _, hr0, h => absurd h.symm (hr0 _)
  | n + 1, hF, l, i, rs, dn, tm, s, r0, hl, hi, hrs, hix, hr0, h => by
    cases l with
    | nil =>
      have h4 := List.drop_eq_nil_iff.1 hl
      simp at h4
      have hM : i = ops.size := by omega
      replace h : Out.ok .normal tm [] s = r0 := h
      subst h
      refine ⟨⟨fun _ => rs, fun _ => tm, fun _ => s, fun _ => dn, fun _ => .leaf, fun _ => s, fun _ => und, fun _ => ⟨0, .none, [], [], 0, 0, false⟩, fun _ => 0, fun _ => tm⟩, i, Nat.le_refl _, hi, fun j o hj hj2 => by omega, rfl, rfl, rfl, rfl, ?_⟩
      exact Ch.End.all (C := ⟨fun _ => rs, fun _ => tm, fun _ => s, fun _ => dn, fun _ => .leaf, fun _ => s, fun _ => und, fun _ => ⟨0, .none, [], [], 0, 0, false⟩, fun _ => 0, fun _ => tm⟩) hM
    | cons o l =>
      have hlt : i < ops.size := by
        rcases Nat.lt_or_ge i ops.size with h1 | h1
        · exact h1
        · rw [List.drop_eq_nil_of_le (by simpa using h1)] at hl; cases hl
      have ho : ops[i]? = some o := by
        have h1 : (ops.toList.drop i)[0]? = some o := by rw [hl]; rfl
        rw [List.getElem?_drop] at h1
        simpa using h1
      have hl2 : ops.toList.drop (i + 1) = l := by
        have h1 := congrArg (List.drop 1) hl
        rw [List.drop_drop] at h1
        exact h1
      obtain ⟨p, dn1, G, v, h1, h2, ⟨F, r, tm1, s1, h3, h4⟩ | ⟨s1, h3, h4⟩⟩ := step_D ht (hF n (Nat.lt_succ_self n)) ho hrs hix (l := dosL B ns nt ops.toList l (i + 1) (setO (preOf (psOf ops i) o.after.toList) i (psOf ops i))) (by rw [hl2, psOf_succ ho]) hr0 h
      · rw [← psOf_succ ho] at h4
        have hrs1 : ∀ q ∈ r :: rs, q.Ok s1.next := fun q hq => by
          have hle := h3.ok.le
          rw [h3.lo, h3.hi] at hle
          rcases List.mem_cons.1 hq with rfl | hq
          · rw [h3.nx]; exact h3.ok
          · have := hrs q hq
            exact ⟨this.le, by rw [h3.nx]; exact Nat.le_trans this.hi hle, this.tl⟩
        obtain ⟨C, M, h5, h6, h7, h8, h9, h10, h11, h12⟩ := chain ht n (fun m hm => hF m (by omega)) l (i + 1) (r :: rs) dn1 tm1 s1 r0 hl2 hlt hrs1 (by show r.ix + 1 = i + 1; rw [h3.ix, hix]) hr0 h4
        refine ⟨⟨upd i rs C.rs, upd i tm C.tm, upd i s C.s, upd i dn C.dn, upd i F C.F, upd i G C.G, upd i v C.v, upd i r C.r, upd i p C.p, upd i (latR i (dosL B ns nt ops.toList l (i + 1) (setO (preOf (psOf ops i) o.after.toList) i (psOf ops i))) tm) C.tl⟩, M, by omega, h6, fun j o' hj hjM ho' => ?_, upd_at _ _ _, upd_at _ _ _, upd_at _ _ _, upd_at _ _ _, h12.upd (upd_ne _ _ (by omega)) (upd_ne _ _ (by omega)) (upd_ne _ _ (by omega))⟩
        by_cases hji : j = i
        · subst hji
          rw [ho] at ho'
          cases ho'
          have hne : j + 1 ≠ j := by omega
          simp only [upd_at, upd_ne _ _ hne, h8, h9, h10, h11]
          exact ⟨h1, h2, trivial, h3⟩
        · have hne : j + 1 ≠ i := by omega
          simp only [upd_ne _ _ hji, upd_ne _ _ hne]
          exact h7 j o' (by omega) hjM ho'
      · refine ⟨⟨fun _ => rs, fun _ => tm, fun _ => s, fun _ => dn, fun _ => .leaf, fun _ => s, fun _ => und, fun _ => ⟨0, .none, [], [], 0, 0, false⟩, fun _ => 0, fun _ => tm⟩, i, Nat.le_refl _, hi, fun j o hj hj2 => by omega, rfl, rfl, rfl, rfl, ?_⟩
        rw [h4]
        exact Ch.End.pan (C := ⟨fun _ => rs, fun _ => tm, fun _ => s, fun _ => dn, fun _ => .leaf, fun _ => s, fun _ => und, fun _ => ⟨0, .none, [], [], 0, 0, false⟩, fun _ => 0, fun _ => tm⟩) o p _ G v s1 ho h1 h3
end
end Go.Proofs.YtiibijhldlillaaGreat.Eng
