/- The runner's rows and tries: what they hold. No condition. -/
import Derived.Test.YtiibijhldlillaaGreatEa
import Derived.Below
import Derived.Deep.MidRow
import Derived.Tactics
import Derived.Laws.Strings
import Derived.Laws.StructEq
namespace Go.Proofs.YtiibijhldlillaaGreat.Eng
theorem pathF_eq : ∀ (n m k : Nat), k < n → k < m → pathF n k = pathF m k
  | 0, _, _, h, _ => absurd h (by omega)
  | _, 0, _, _, h => absurd h (by omega)
  | n + 1, m + 1, 0, _, _ => rfl
  | n + 1, m + 1, k + 1, h, h' => by
    show Nat.beq (Nat.mod k 2) 0 :: pathF n (Nat.div k 2) = Nat.beq (Nat.mod k 2) 0 :: pathF m (Nat.div k 2)
    have : Nat.div k 2 ≤ k := Nat.div_le_self k 2
    rw [pathF_eq n m (Nat.div k 2) (by omega) (by omega)]
theorem path_succ (k : Nat) : path (k + 1) = Nat.beq (k % 2) 0 :: path (k / 2) := by
  show Nat.beq (k % 2) 0 :: pathF (k + 1) (k / 2) = _
  have : k / 2 ≤ k := Nat.div_le_self k 2
  rw [pathF_eq (k + 1) (k / 2 + 1) (k / 2) (by omega) (by omega)]
  rfl
theorem path_inj : ∀ {k j : Nat}, path k = path j → k = j
  | 0, 0, _ => rfl
  | 0, j + 1, h => by rw [path_succ] at h; cases h
  | k + 1, 0, h => by rw [path_succ] at h; cases h
  | k + 1, j + 1, h => by
    rw [path_succ, path_succ] at h
    injection h with h1 h2
    have h3 := path_inj h2
    have h4 : (k % 2 = 0) ↔ (j % 2 = 0) := by
      rw [← Nat.beq_eq, ← Nat.beq_eq, h1]
    omega
namespace T
variable {α : Type}
theorem get_leaf (p : List Bool) : (T.leaf : T α).get p = none := rfl
theorem get_nil (v : Option α) (l r : T α) : (T.node v l r).get [] = v := rfl
theorem get_cons (v : Option α) (l r : T α) (b : Bool) (p : List Bool) : (T.node v l r).get (b :: p) = if b then l.get p else r.get p := by cases b <;> rfl
theorem nodeP_get (v : Option α) : ∀ p q : List Bool, (nodeP p v).get q = if p = q then v else none
  | [], [] => rfl
  | [], b :: q => by
    show (T.node v .leaf .leaf).get (b :: q) = _
    rw [get_cons]; cases b <;> rfl
  | true :: p, [] => rfl
  | false :: p, [] => rfl
  | true :: p, b :: q => by
    show (T.node none (nodeP p v) .leaf).get (b :: q) = _
    rw [get_cons]
    cases b
    · simp [get_leaf]
    · simp [nodeP_get v p q]
  | false :: p, b :: q => by
    show (T.node none .leaf (nodeP p v)).get (b :: q) = _
    rw [get_cons]
    cases b
    · simp [nodeP_get v p q]
    · simp [get_leaf]
theorem get_setP (t : T α) : ∀ (p : List Bool) (v : Option α) (q : List Bool), (t.setP p v).get q = if p = q then v else t.get q := by
  induction t with
  | leaf => intro p v q; exact nodeP_get v p q
  | node u l r il ir =>
    intro p v q
    cases p with
    | nil =>
      show (T.node v l r).get q = _
      cases q with
      | nil => rfl
      | cons b q => rw [get_cons, get_cons]; simp
    | cons b p =>
      cases b
      · show (T.node u l (r.setP p v)).get q = _
        cases q with
        | nil => rfl
        | cons b q => rw [get_cons, get_cons, ir]; cases b <;> simp
      · show (T.node u (l.setP p v) r).get q = _
        cases q with
        | nil => rfl
        | cons b q => rw [get_cons, get_cons, il]; cases b <;> simp
theorem at_set (t : T α) (k : Nat) (v : α) (j : Nat) : (t.set k v).at_ j = if k = j then some v else t.at_ j := by
  unfold set at_
  rw [get_setP]
  by_cases h : k = j
  · subst h; simp
  · rw [if_neg h, if_neg (fun e => h (path_inj e))]
theorem at_del (t : T α) (k j : Nat) : (t.del k).at_ j = if k = j then none else t.at_ j := by
  unfold del at_
  rw [get_setP]
  by_cases h : k = j
  · subst h; simp
  · rw [if_neg h, if_neg (fun e => h (path_inj e))]
theorem at_leaf (j : Nat) : (T.leaf : T α).at_ j = none := rfl
end T
variable {α : Type}
theorem mapR_eq {β : Type} (f : α → β) (l : List α) : mapR f l = l.map f := by
  induction l with
  | nil => rfl
  | cons a l ih => show f a :: mapR f l = _; rw [ih]; rfl
theorem appR_eq (l m : List α) : appR l m = l ++ m := by
  induction l with
  | nil => rfl
  | cons a l ih => show a :: appR l m = _; rw [ih]; rfl
theorem lenR_eq (l : List α) : lenR l = l.length := by
  induction l with
  | nil => rfl
  | cons a l ih => show lenR l + 1 = _; rw [ih]; rfl
theorem atR_eq : ∀ (l : List α) (n : Nat), atR l n = l[n]?
  | [], _ => rfl
  | _ :: _, 0 => rfl
  | _ :: l, n + 1 => atR_eq l n
theorem dropR_eq : ∀ (l : List α) (n : Nat), dropR l n = l.drop n
  | [], n => by show [] = _; simp
  | a :: l, 0 => rfl
  | a :: l, n + 1 => dropR_eq l n
theorem takeR_eq : ∀ {l : List α} {n : Nat} {r : List α}, takeR l n = some r → r = l.take n ∧ n ≤ l.length
  | [], 0, r, h => by cases h; exact ⟨rfl, Nat.le_refl _⟩
  | [], n + 1, r, h => (by cases (show (none : Option (List α)) = some r from h))
  | a :: l, 0, r, h => by cases h; exact ⟨rfl, Nat.zero_le _⟩
  | a :: l, n + 1, r, h => by
    change Option.rec none (fun r => some (a :: r)) (takeR l n) = some r at h
    cases e : takeR l n with
    | none => rw [e] at h; cases h
    | some q =>
      rw [e] at h
      cases h
      obtain ⟨h1, h2⟩ := takeR_eq e
      exact ⟨by rw [h1]; rfl, by simpa using h2⟩
theorem ofL_at : ∀ (l : List α) (i : Nat) (t : T α) (k : Nat), (T.ofL l i t).at_ k = if i ≤ k ∧ k < i + l.length then l[k - i]? else t.at_ k
  | [], i, t, k => by show t.at_ k = _; rw [if_neg (by rintro ⟨h1, h2⟩; rw [List.length_nil] at h2; omega)]
  | a :: l, i, t, k => by
    show (T.ofL l (i + 1) (t.set i a)).at_ k = _
    rw [ofL_at l (i + 1) (t.set i a) k, T.at_set]
    by_cases h1 : i + 1 ≤ k ∧ k < i + 1 + l.length
    · rw [if_pos h1, if_pos (by simp; omega), show k - i = (k - (i + 1)) + 1 by omega]
      rfl
    · rw [if_neg h1]
      by_cases h2 : i = k
      · subst h2; rw [if_pos rfl, if_pos (by simp), Nat.sub_self]; rfl
      · rw [if_neg h2, if_neg (by simp; omega)]


/-- Where the run's blocks lie; how many elements a room has; which numbers are in use; which of the program's blocks stay as they are. -/
structure En where
  σ : Nat → Nat
  κ : Nat → Nat
  lv : Nat → Bool
  fx : Nat → Option Obj
def Cp.cap (c : Cp) (room : Nat) : Nat := match c with
  | .ex c => c
  | .gap g => room - g
def Cp.fits (c : Cp) (n room : Nat) : Prop := match c with
  | .ex _ => True
  | .gap g => n + g ≤ room
mutual
def R (e : En) (k : Nat) : AV → Value → Prop
  | .bot, _ => True
  | .int kd n, v => v = .int kd n
  | .bool b, v => v = .bool b
  | .str l, v => (∀ b ∈ l, b < 256) ∧ v = .string (bys l)
  | .lit u, v => v = u
  | .ptr b o, v => (b < k ∧ e.lv b = true) ∧ v = .pointer (some ⟨e.σ b, o, none⟩)
  | .slc b o n c, v => ((b < k ∧ e.lv b = true) ∧ c.fits n (e.κ b)) ∧ v = .slice (some ⟨e.σ b, o, none⟩) n (c.cap (e.κ b))
  | .map b, v => (b < k ∧ e.lv b = true) ∧ v = .map (some (e.σ b))
  | .agg l, v => ∃ cs, v = .agg cs ∧ RL e k l cs.toList
  | .tup l, v => ∃ cs, v = .tuple cs ∧ RL e k l cs.toList
  | .ifc t a, v => ∃ u, v = .iface t u ∧ R e k a u
  | .fn f a c, v => ∃ x y, v = .func (.func f) x y ∧ RL e k a x.toList ∧ RL e k c y.toList
  | .cls kd m r, v => ∃ n : Nat, v = .int kd n ∧ n < 256 ∧ n % m = r
  | .emp, v => ∃ (a : Addr) (c : Nat), v = .slice (some a) 0 c
def RL (e : En) (k : Nat) : List AV → List Value → Prop
  | [], l => l = []
  | a :: as, l => ∃ v vs, l = v :: vs ∧ R e k a v ∧ RL e k as vs
end
/-- Two worlds' numberings agree on the blocks below a number. -/
def Ext (k : Nat) (e e' : En) : Prop := ∀ b, b < k → e'.σ b = e.σ b ∧ e'.κ b = e.κ b ∧ e'.lv b = e.lv b
theorem Ext.refl (k : Nat) (e : En) : Ext k e e := fun _ _ => ⟨rfl, rfl, rfl⟩
theorem Ext.trans {k k' : Nat} {e e' e'' : En} (h : Ext k e e') (h' : Ext k' e' e'') (hk : k ≤ k') : Ext k e e'' := fun b hb => by
  have h1 := h b hb
  have h2 := h' b (Nat.lt_of_lt_of_le hb hk)
  exact ⟨h2.1.trans h1.1, h2.2.1.trans h1.2.1, h2.2.2.trans h1.2.2⟩
mutual
theorem R.ext {e e' : En} {k k' : Nat} (hx : Ext k e e') (hk : k ≤ k') : ∀ {a : AV} {v : Value}, R e k a v → R e' k' a v
  | .bot, _, _ => trivial
  | .int _ _, _, h => h
  | .bool _, _, h => h
  | .str _, _, h => h
  | .lit _, _, h => h
  | .ptr b o, _, h => ⟨⟨Nat.lt_of_lt_of_le h.1.1 hk, by rw [(hx b h.1.1).2.2]; exact h.1.2⟩, by rw [(hx b h.1.1).1]; exact h.2⟩
  | .slc b o n c, _, h => ⟨⟨⟨Nat.lt_of_lt_of_le h.1.1.1 hk, by rw [(hx b h.1.1.1).2.2]; exact h.1.1.2⟩, by rw [(hx b h.1.1.1).2.1]; exact h.1.2⟩, by rw [(hx b h.1.1.1).1, (hx b h.1.1.1).2.1]; exact h.2⟩
  | .map b, _, h => ⟨⟨Nat.lt_of_lt_of_le h.1.1 hk, by rw [(hx b h.1.1).2.2]; exact h.1.2⟩, by rw [(hx b h.1.1).1]; exact h.2⟩
  | .agg l, _, h => by
    obtain ⟨cs, h1, h2⟩ := h
    exact ⟨cs, h1, RL.ext hx hk h2⟩
  | .tup l, _, h => by
    obtain ⟨cs, h1, h2⟩ := h
    exact ⟨cs, h1, RL.ext hx hk h2⟩
  | .ifc t a, _, h => by
    obtain ⟨u, h1, h2⟩ := h
    exact ⟨u, h1, R.ext hx hk h2⟩
  | .fn f a c, _, h => by
    obtain ⟨x, y, h1, h2, h3⟩ := h
    exact ⟨x, y, h1, RL.ext hx hk h2, RL.ext hx hk h3⟩
  | .cls _ _ _, _, h => h
  | .emp, _, h => h
theorem RL.ext {e e' : En} {k k' : Nat} (hx : Ext k e e') (hk : k ≤ k') : ∀ {as : List AV} {vs : List Value}, RL e k as vs → RL e' k' as vs
  | [], _, h => h
  | a :: as, _, h => by
    obtain ⟨v, vs, h1, h2, h3⟩ := h
    exact ⟨v, vs, h1, R.ext hx hk h2, RL.ext hx hk h3⟩
end
section
variable {e : En} {k : Nat}
theorem RL.len : ∀ {as : List AV} {vs : List Value}, RL e k as vs → vs.length = as.length
  | [], _, h => by rw [show _ = [] from h]; rfl
  | a :: as, _, h => by
    obtain ⟨v, vs, rfl, _, h3⟩ := h
    simp [RL.len h3]
theorem RL.at : ∀ {as : List AV} {vs : List Value}, RL e k as vs → ∀ {i : Nat} {a : AV}, as[i]? = some a → ∃ v, vs[i]? = some v ∧ R e k a v
  | [], _, _, _, _, h => by simp at h
  | a :: as, _, h, 0, _, hi => by
    obtain ⟨v, vs, rfl, h2, _⟩ := h
    cases hi
    exact ⟨v, rfl, h2⟩
  | a :: as, _, h, i + 1, _, hi => by
    obtain ⟨v, vs, rfl, _, h3⟩ := h
    exact RL.at h3 (by simpa using hi)
theorem RL.mk : ∀ {as : List AV} {vs : List Value}, as.length = vs.length → (∀ (i : Nat) (a : AV) (v : Value), as[i]? = some a → vs[i]? = some v → R e k a v) → RL e k as vs
  | [], [], _, _ => rfl
  | [], v :: vs, h, _ => (by cases h)
  | a :: as, [], h, _ => (by cases h)
  | a :: as, v :: vs, h, hr => ⟨v, vs, rfl, hr 0 a v rfl rfl, RL.mk (by simpa using h) fun i a v h1 h2 => hr (i + 1) a v (by simpa using h1) (by simpa using h2)⟩
theorem RL.app : ∀ {as bs : List AV} {vs us : List Value}, RL e k as vs → RL e k bs us → RL e k (as ++ bs) (vs ++ us)
  | [], _, _, _, h, h' => by rw [show _ = [] from h]; exact h'
  | a :: as, _, _, _, h, h' => by
    obtain ⟨v, vs, rfl, h2, h3⟩ := h
    exact ⟨v, _, rfl, h2, RL.app h3 h'⟩
theorem RL.drop {as : List AV} {vs : List Value} (h : RL e k as vs) (n : Nat) : RL e k (as.drop n) (vs.drop n) :=
  RL.mk (by simp [h.len]) fun i a v h1 h2 => by
    rw [List.getElem?_drop] at h1 h2
    obtain ⟨u, h3, h4⟩ := h.at h1
    rw [h2] at h3; cases h3; exact h4
theorem RL.take {as : List AV} {vs : List Value} (h : RL e k as vs) (n : Nat) : RL e k (as.take n) (vs.take n) :=
  RL.mk (by simp [h.len]) fun i a v h1 h2 => by
    rw [List.getElem?_take] at h1 h2
    split at h1
    · rename_i hi
      rw [if_pos hi] at h2
      obtain ⟨u, h3, h4⟩ := h.at h1
      rw [h2] at h3; cases h3; exact h4
    · cases h1
theorem RL.repl {a : AV} {v : Value} (h : R e k a v) : ∀ n, RL e k (List.replicate n a) (List.replicate n v)
  | 0 => rfl
  | n + 1 => ⟨v, _, rfl, h, RL.repl h n⟩
end

/-- Blocks of the program that stay. -/
class FX where
  F : Nat → Option Obj

/-- Nothing is frozen but, maybe, the place behind the last cell. -/
def FzOk (fz : Nat × Nat) (n : Nat) : Prop := fz = (0, 0) ∨ fz = (n, n + 1)
/-- Keys and values of a map. -/
def RKV (e : En) (k : Nat) : List (AV × AV) → List (Value × Value) → Prop
  | [], l => l = []
  | p :: ps, l => ∃ u v r, l = (u, v) :: r ∧ R e k p.1 u ∧ R e k p.2 v ∧ RKV e k ps r
theorem RKV.ext {e e' : En} {k k' : Nat} (hx : Ext k e e') (hk : k ≤ k') : ∀ {ps : List (AV × AV)} {l : List (Value × Value)}, RKV e k ps l → RKV e' k' ps l
  | [], _, h => h
  | p :: ps, _, h => by
    obtain ⟨u, v, r, h1, h2, h3, h4⟩ := h
    exact ⟨u, v, r, h1, h2.ext hx hk, h3.ext hx hk, h4.ext hx hk⟩
/-- The same entries, in whatever order; no key twice. -/
def Mp (kk : KK) (es es' : List (AV × AV)) : Prop := es.Perm es' ∧ (∀ p ∈ es', fits kk p.1 = true) ∧ (es'.map Prod.fst).Nodup
/-- A map's entries: each older than the clock, and in the order in which they were laid. -/
def Bo (l : List MapEntry) (c : Nat) : Prop := (∀ x ∈ l, x.born < c) ∧ l.Pairwise fun x y => x.born < y.born
theorem Bo.push {l : List MapEntry} {c : Nat} (h : Bo l c) {x : MapEntry} (hx : x.born = c) : Bo (l ++ [x]) (c + 1) :=
  ⟨fun y hy => by
    rcases List.mem_append.1 hy with hy | hy
    · exact Nat.lt_succ_of_lt (h.1 y hy)
    · rw [List.mem_singleton.1 hy, hx]; exact Nat.lt_succ_self c, List.pairwise_append.2 ⟨h.2, List.pairwise_singleton _ _, fun y hy z hz => by rw [List.mem_singleton.1 hz, hx]; exact h.1 y hy⟩⟩
theorem Bo.born {l l' : List MapEntry} {c : Nat} (h : Bo l c) (e : l'.map (·.born) = l.map (·.born)) : Bo l' c := by
  refine ⟨fun y hy => ?_, ?_⟩
  · have h1 : y.born ∈ l.map (·.born) := e ▸ List.mem_map.2 ⟨y, hy, rfl⟩
    obtain ⟨z, hz, h2⟩ := List.mem_map.1 h1
    rw [← h2]; exact h.1 z hz
  · have h1 : (l.map (·.born)).Pairwise (· < ·) := List.pairwise_map.2 h.2
    rw [← e] at h1
    exact List.pairwise_map.1 h1
theorem Bo.set [FX] {l : List MapEntry} {c j : Nat} (h : Bo l c) {x y : MapEntry} (hj : l[j]? = some x) (hy : y.born = x.born) : Bo (l.set j y) c := h.born (by
  rw [List.map_set, hy]
  apply List.ext_getElem?
  intro i
  rw [List.getElem?_set]
  by_cases hij : j = i
  · subst hij
    rw [if_pos rfl, List.length_map, if_pos (List.getElem?_eq_some_iff.1 hj).1, List.getElem?_map, hj]; rfl
  · rw [if_neg hij])
def RO (e : En) (k b : Nat) : AObj → Obj → Prop
  | .cells c n size t room, r => ∃ cs fz, r = .cells cs t fz ∧ FzOk fz cs.size ∧ cs.size = (if room = true then e.κ b else n) * size ∧ (room = true → n ≤ e.κ b) ∧ ∀ i l, c.at_ i = some l → i < n ∧ l.length = size ∧ ∀ j a, l[j]? = some a → oneB a = true ∧ ∃ v, cs[i * size + j]? = some v ∧ R e k a v
  | .map kk es, r => ∃ ents clock es', r = .map ents clock ∧ RKV e k es' (ents.toList.map fun x => (x.key, x.val)) ∧ Mp kk es es' ∧ Bo ents.toList clock
  | .siter l p, r => r = .stringIter (bys l) p
theorem RO.ext [FX] {e e' : En} {k k' b : Nat} (hx : Ext k e e') (hk : k ≤ k') (hb : b < k) {o : AObj} {r : Obj} (h : RO e k b o r) : RO e' k' b o r := by
  cases o with
  | cells c n size t room =>
    obtain ⟨cs, fz, h1, h2, h3, h4, h5⟩ := h
    refine ⟨cs, fz, h1, h2, by rw [(hx b hb).2.1]; exact h3, by rw [(hx b hb).2.1]; exact h4, fun i l hi => ?_⟩
    obtain ⟨h6, h7, h8⟩ := h5 i l hi
    refine ⟨h6, h7, fun j a hj => ?_⟩
    obtain ⟨h11, v, h9, h10⟩ := h8 j a hj
    exact ⟨h11, v, h9, h10.ext hx hk⟩
  | map kk es =>
    obtain ⟨ents, clock, es', h1, h2, h3⟩ := h
    exact ⟨ents, clock, es', h1, h2.ext hx hk, h3⟩
  | siter l p => exact h
structure Rep [FX] (e : En) (s : St) (w : World) : Prop where
  obj : ∀ b o, s.heap.at_ b = some o → b < s.next ∧ e.σ b < w.heap.size ∧ ∃ r, w.heap[e.σ b]? = some r ∧ RO e s.next b o r
  inj : ∀ b o b' o', s.heap.at_ b = some o → s.heap.at_ b' = some o' → e.σ b = e.σ b' → b = b'
  fx : ∀ g o, FX.F g = some o → w.heap[g]? = some o ∧ ∀ b o', s.heap.at_ b = some o' → e.σ b ≠ g
/-- A step of the run: what turns lay in the run's own blocks. -/
structure Stp [FX] (e : En) (s : St) (w : World) (e' : En) (s' : St) (w' : World) : Prop where
  rep : Rep e' s' w'
  ext : Ext s.next e e'
  nx : s.next ≤ s'.next
  own : ∀ b o, s'.heap.at_ b = some o → (∃ b0 o0, s.heap.at_ b0 = some o0 ∧ e.σ b0 = e'.σ b) ∨ w.heap.size ≤ e'.σ b
  os : w'.os = w.os
  tape : w'.tape = w.tape
  output : w'.output = w.output
  size : w.heap.size ≤ w'.heap.size
  kp : ∀ k, k < w.heap.size → (∀ b o, s.heap.at_ b = some o → e.σ b ≠ k) → w'.heap[k]? = w.heap[k]?
  lg : ∃ l, s'.wr = l ++ s.wr ∧ ∀ b, b < s.next → b ∉ l → s'.heap.at_ b = s.heap.at_ b
  fx : e'.fx = e.fx
theorem Stp.refl [FX] {e : En} {s : St} {w : World} (h : Rep e s w) : Stp e s w e s w :=
  ⟨h, Ext.refl _ _, Nat.le_refl _, fun b o hb => .inl ⟨b, o, hb, rfl⟩, rfl, rfl, rfl, Nat.le_refl _, fun _ _ _ => rfl, ⟨[], rfl, fun _ _ _ => rfl⟩, rfl⟩
theorem Stp.trans [FX] {e e1 e2 : En} {s s1 s2 : St} {w w1 w2 : World} (h : Stp e s w e1 s1 w1) (h' : Stp e1 s1 w1 e2 s2 w2) : Stp e s w e2 s2 w2 where
  rep := h'.rep
  ext := h.ext.trans h'.ext h.nx
  nx := Nat.le_trans h.nx h'.nx
  own := fun b o hb => by
    rcases h'.own b o hb with ⟨b1, o1, h1, h2⟩ | h1
    · rcases h.own b1 o1 h1 with ⟨b0, o0, h3, h4⟩ | h3
      · exact .inl ⟨b0, o0, h3, h4.trans h2⟩
      · exact .inr (h2 ▸ h3)
    · exact .inr (Nat.le_trans h.size h1)
  os := h'.os.trans h.os
  tape := h'.tape.trans h.tape
  output := h'.output.trans h.output
  size := Nat.le_trans h.size h'.size
  kp := fun k hk hn => by
    rw [h'.kp k (Nat.lt_of_lt_of_le hk h.size) fun b o hb he => ?_, h.kp k hk hn]
    rcases h.own b o hb with ⟨b0, o0, h3, h4⟩ | h3
    · exact hn b0 o0 h3 (h4.trans he)
    · omega
  lg := by
    obtain ⟨l, h1, h2⟩ := h.lg
    obtain ⟨l', h3, h4⟩ := h'.lg
    refine ⟨l' ++ l, by rw [h3, h1, List.append_assoc], fun b hb hn => ?_⟩
    rw [List.mem_append, not_or] at hn
    rw [h4 b (Nat.lt_of_lt_of_le hb h.nx) hn.1, h2 b hb hn.2]
  fx := h'.fx.trans h.fx
theorem Stp.drew [FX] {e : En} {s : St} {w : World} (h : Rep e s w) : Stp e s w e s w.drew :=
  ⟨⟨fun b o hb => h.obj b o hb, h.inj, h.fx⟩, Ext.refl _ _, Nat.le_refl _, fun b o hb => .inl ⟨b, o, hb, rfl⟩, rfl, rfl, rfl, Nat.le_refl _, fun _ _ _ => rfl, ⟨[], rfl, fun _ _ _ => rfl⟩, rfl⟩
/-- A block more. -/
def En.up (e : En) (k r c : Nat) : En := ⟨fun b => if b = k then r else e.σ b, fun b => if b = k then c else e.κ b, fun b => if b = k then true else e.lv b, e.fx⟩
theorem En.up_ext (e : En) (k r c : Nat) : Ext k e (e.up k r c) := fun b hb => by
  have : ¬ b = k := by omega
  simp [En.up, this]
theorem Stp.new [FX] {e : En} {s : St} {w : World} (h : Rep e s w) (o : AObj) (r : Obj) (c : Nat) (ho : RO (e.up s.next w.heap.size c) (s.next + 1) s.next o r) : Stp e s w (e.up s.next w.heap.size c) (s.add o) { w with heap := w.heap.push r } where
  rep := by
    refine ⟨fun b o' hb => ?_, fun b o1 b' o2 hb hb' he => ?_, fun g o' hg => ?_⟩
    · change (s.heap.set s.next o).at_ b = some o' at hb
      rw [T.at_set] at hb
      by_cases hk : s.next = b
      · rw [if_pos hk] at hb
        cases hb
        subst hk
        refine ⟨Nat.lt_succ_self _, by simp [En.up], r, by simp [En.up], ho⟩
      · rw [if_neg hk] at hb
        obtain ⟨h1, h2, r', h3, h4⟩ := h.obj b o' hb
        have hσ : (e.up s.next w.heap.size c).σ b = e.σ b := (En.up_ext e _ _ _ b h1).1
        rw [hσ]
        refine ⟨Nat.lt_succ_of_lt h1, by simp; omega, r', ?_, h4.ext (En.up_ext e _ _ _) (Nat.le_succ _) h1⟩
        rw [Array.getElem?_push, if_neg (by omega)]
        exact h3
    · change (s.heap.set s.next o).at_ b = some o1 at hb
      change (s.heap.set s.next o).at_ b' = some o2 at hb'
      rw [T.at_set] at hb hb'
      by_cases hk : s.next = b <;> by_cases hk' : s.next = b'
      · omega
      · rw [if_neg hk'] at hb'
        obtain ⟨h1, h2, _⟩ := h.obj b' o2 hb'
        rw [(En.up_ext e _ _ _ b' h1).1, ← hk] at he
        simp [En.up] at he
        omega
      · rw [if_neg hk] at hb
        obtain ⟨h1, h2, _⟩ := h.obj b o1 hb
        rw [(En.up_ext e _ _ _ b h1).1, ← hk'] at he
        simp [En.up] at he
        omega
      · rw [if_neg hk] at hb
        rw [if_neg hk'] at hb'
        obtain ⟨h1, _⟩ := h.obj b o1 hb
        obtain ⟨h2, _⟩ := h.obj b' o2 hb'
        rw [(En.up_ext e _ _ _ b h1).1, (En.up_ext e _ _ _ b' h2).1] at he
        exact h.inj b o1 b' o2 hb hb' he
    · obtain ⟨q1, q2⟩ := h.fx g o' hg
      have hlt := (Array.getElem?_eq_some_iff.1 q1).1
      refine ⟨by show (w.heap.push r)[g]? = _; rw [Array.getElem?_push, if_neg (by omega)]; exact q1, fun b o2 hb => ?_⟩
      change (s.heap.set s.next o).at_ b = some o2 at hb
      rw [T.at_set] at hb
      by_cases hk : s.next = b
      · subst hk
        simp only [En.up, if_true]
        omega
      · rw [if_neg hk] at hb
        rw [(En.up_ext e _ _ _ b (h.obj b o2 hb).1).1]
        exact q2 b o2 hb
  ext := En.up_ext e _ _ _
  nx := Nat.le_succ _
  own := fun b o' hb => by
    change (s.heap.set s.next o).at_ b = some o' at hb
    rw [T.at_set] at hb
    by_cases hk : s.next = b
    · subst hk; right; simp [En.up]
    · rw [if_neg hk] at hb
      exact .inl ⟨b, o', hb, ((En.up_ext e _ _ _ b (h.obj b o' hb).1).1).symm⟩
  os := rfl
  tape := rfl
  output := rfl
  size := by simp
  kp := fun k hk _ => by
    show (w.heap.push r)[k]? = _
    rw [Array.getElem?_push, if_neg (by omega)]
  lg := ⟨[], rfl, fun b hb _ => by
    show (s.heap.set s.next o).at_ b = _
    rw [T.at_set, if_neg (by omega)]⟩
  fx := rfl
theorem Stp.put [FX] {e : En} {s : St} {w w' : World} (h : Rep e s w) {b : Nat} {o0 : AObj} (h0 : s.heap.at_ b = some o0) (o : AObj) (r : Obj) (ho : RO e s.next b o r) (hw : w'.heap = w.heap.setIfInBounds (e.σ b) r) (h1 : w'.os = w.os) (h2 : w'.tape = w.tape) (h3 : w'.output = w.output) : Stp e s w e (s.put b o) w' := by
  obtain ⟨hb, hs, _⟩ := h.obj b o0 h0
  have hat : ∀ j, (s.put b o).heap.at_ j = if b = j then some o else s.heap.at_ j := fun j => T.at_set _ _ _ _
  refine ⟨⟨fun j o' hj => ?_, fun j o1 j' o2 hj hj' he => ?_, fun g o' hg => ?_⟩, Ext.refl _ _, Nat.le_refl _, fun j o' hj => ?_, h1, h2, h3, by rw [hw]; simp, fun k hk hn => ?_, ⟨[b], rfl, fun j _ hn => by rw [hat, if_neg (fun hh => hn (by rw [hh]; simp))]⟩, rfl⟩
  · rw [hat] at hj
    by_cases hk : b = j
    · rw [if_pos hk] at hj
      cases hj
      subst hk
      exact ⟨hb, by rw [hw]; simpa using hs, r, by rw [hw]; simp [hs], ho⟩
    · rw [if_neg hk] at hj
      obtain ⟨h4, h5, r', h6, h7⟩ := h.obj j o' hj
      refine ⟨h4, by rw [hw]; simpa using h5, r', ?_, h7⟩
      rw [hw, Array.getElem?_setIfInBounds_ne (fun he => hk (h.inj b o0 j o' h0 hj he))]
      exact h6
  · rw [hat] at hj hj'
    by_cases hk : b = j <;> by_cases hk' : b = j'
    · omega
    · rw [if_neg hk'] at hj'; subst hk; exact h.inj b o0 j' o2 h0 hj' he
    · rw [if_neg hk] at hj; subst hk'; exact h.inj j o1 b o0 hj h0 he
    · rw [if_neg hk] at hj; rw [if_neg hk'] at hj'; exact h.inj j o1 j' o2 hj hj' he
  · obtain ⟨q1, q2⟩ := h.fx g o' hg
    refine ⟨by rw [hw, Array.getElem?_setIfInBounds_ne (q2 b o0 h0)]; exact q1, fun j o2 hj => ?_⟩
    rw [hat] at hj
    by_cases hk : b = j
    · subst hk; exact q2 b o0 h0
    · rw [if_neg hk] at hj; exact q2 j o2 hj
  · rw [hat] at hj
    by_cases hk : b = j
    · subst hk; exact .inl ⟨b, o0, h0, rfl⟩
    · rw [if_neg hk] at hj; exact .inl ⟨j, o', hj, rfl⟩
  · rw [hw, Array.getElem?_setIfInBounds_ne (hn b o0 h0)]
/-- A block goes on under a new number. -/
theorem Stp.moved [FX] {e : En} {s : St} {w w' : World} (h : Rep e s w) {b : Nat} {o0 : AObj} (h0 : s.heap.at_ b = some o0) (o : AObj) (r : Obj) (c : Nat) (ho : RO (e.up s.next (e.σ b) c) (s.next + 1) s.next o r) (hw : w'.heap = w.heap.setIfInBounds (e.σ b) r) (h1 : w'.os = w.os) (h2 : w'.tape = w.tape) (h3 : w'.output = w.output) : Stp e s w (e.up s.next (e.σ b) c) ((s.del b).add o) w' := by
  obtain ⟨hb, hs, _⟩ := h.obj b o0 h0
  have hat : ∀ j, ((s.del b).add o).heap.at_ j = if s.next = j then some o else if b = j then none else s.heap.at_ j := fun j => by
    show ((s.heap.del b).set s.next o).at_ j = _
    rw [T.at_set, T.at_del]
  have hσ : ∀ j, j < s.next → (e.up s.next (e.σ b) c).σ j = e.σ j := fun j hj => (En.up_ext e _ _ _ j hj).1
  have hσn : (e.up s.next (e.σ b) c).σ s.next = e.σ b := by simp [En.up]
  have hold : ∀ j o', ((s.del b).add o).heap.at_ j = some o' → s.next ≠ j → b ≠ j ∧ s.heap.at_ j = some o' := fun j o' hj hk => by
    rw [hat, if_neg hk] at hj
    by_cases hk' : b = j
    · rw [if_pos hk'] at hj; cases hj
    · rw [if_neg hk'] at hj; exact ⟨hk', hj⟩
  refine ⟨⟨fun j o' hj => ?_, fun j o1 j' o2 hj hj' he => ?_, fun g o' hg => ?_⟩, En.up_ext e _ _ _, Nat.le_succ _, fun j o' hj => ?_, h1, h2, h3, by rw [hw]; simp, fun k hk hn => ?_, ⟨[b], rfl, fun j hj hn => by rw [hat, if_neg (by omega), if_neg (fun hh => hn (by rw [hh]; simp))]⟩, rfl⟩
  · by_cases hk : s.next = j
    · rw [hat, if_pos hk] at hj
      cases hj
      subst hk
      rw [hσn]
      exact ⟨Nat.lt_succ_self _, by rw [hw]; simpa using hs, r, by rw [hw]; simp [hs], ho⟩
    · obtain ⟨hk', hj⟩ := hold j o' hj hk
      obtain ⟨h4, h5, r', h6, h7⟩ := h.obj j o' hj
      rw [hσ j h4]
      refine ⟨Nat.lt_succ_of_lt h4, by rw [hw]; simpa using h5, r', ?_, h7.ext (En.up_ext e _ _ _) (Nat.le_succ _) h4⟩
      rw [hw, Array.getElem?_setIfInBounds_ne (fun he => hk' (h.inj b o0 j o' h0 hj he))]
      exact h6
  · by_cases hk : s.next = j <;> by_cases hk' : s.next = j'
    · omega
    · obtain ⟨h4, h5⟩ := hold j' o2 hj' hk'
      rw [← hk, hσn, hσ j' (h.obj j' o2 h5).1] at he
      exact absurd (h.inj b o0 j' o2 h0 h5 he) h4
    · obtain ⟨h4, h5⟩ := hold j o1 hj hk
      rw [← hk', hσn, hσ j (h.obj j o1 h5).1] at he
      exact absurd (h.inj b o0 j o1 h0 h5 he.symm) h4
    · obtain ⟨h4, h5⟩ := hold j o1 hj hk
      obtain ⟨h6, h7⟩ := hold j' o2 hj' hk'
      rw [hσ j (h.obj j o1 h5).1, hσ j' (h.obj j' o2 h7).1] at he
      exact h.inj j o1 j' o2 h5 h7 he
  · obtain ⟨q1, q2⟩ := h.fx g o' hg
    refine ⟨by rw [hw, Array.getElem?_setIfInBounds_ne (q2 b o0 h0)]; exact q1, fun j o2 hj => ?_⟩
    by_cases hk : s.next = j
    · subst hk; rw [hσn]; exact q2 b o0 h0
    · obtain ⟨_, hj⟩ := hold j o2 hj hk
      rw [hσ j (h.obj j o2 hj).1]
      exact q2 j o2 hj
  · by_cases hk : s.next = j
    · subst hk; exact .inl ⟨b, o0, h0, hσn.symm⟩
    · obtain ⟨_, hj⟩ := hold j o' hj hk
      exact .inl ⟨j, o', hj, (hσ j (h.obj j o' hj).1).symm⟩
  · rw [hw, Array.getElem?_setIfInBounds_ne (hn b o0 h0)]


/-- The tables tell the program. -/
structure TbOk (P : Program) (T : Tb) : Prop where
  ty : ∀ t i, T.ty.at_ t = some i → ∃ ti, P.info? t = some ti ∧ i.size = ti.size ∧ i.d = (P.underlying t).getD .invalid ∧ i.agg = descAgg i.d ∧ i.held = P.stoodInHeld t ∧ i.guard = P.eqGuardType P.depth t ∧ i.bytes = ti.bytes ∧ ∀ z, i.zero = some z → ∃ v, ti.zero = some v ∧ z = ofV v
  fn : ∀ f fn, T.fn.at_ f = some fn → P.funcs[f]? = some fn ∧ (fn.name == "runtime.NumGoroutine") = false
section
variable {P : Program} {T : Tb} {e : En} {k : Nat}
theorem TbOk.dsc (h : TbOk P T) {t : Nat} {d : TypeDesc} (hd : dsc T t = d) (hn : d ≠ .invalid) : P.underlying t = some d := by
  unfold Eng.dsc at hd
  cases hi : T.ty.at_ t with
  | none => rw [hi] at hd; exact absurd hd.symm hn
  | some i =>
    rw [hi] at hd
    obtain ⟨ti, _, _, h3, _⟩ := h.ty t i hi
    change i.d = d at hd
    rw [hd] at h3
    cases hu : P.underlying t with
    | none => rw [hu] at h3; exact absurd h3 hn
    | some d' => rw [hu] at h3; rw [h3]; rfl
theorem TbOk.info (h : TbOk P T) {t : Nat} (hk : knownT T t = true) : ∃ ti d, P.info? t = some ti ∧ sizeT T t = ti.size ∧ P.underlying t = some d ∧ aggT T t = descAgg d ∧ Eng.dsc T t = d := by
  unfold knownT at hk
  unfold sizeT aggT Eng.dsc
  cases hi : T.ty.at_ t with
  | none => rw [hi] at hk; cases (show false = true from hk)
  | some i =>
    rw [hi] at hk
    obtain ⟨ti, h1, h2, h3, h4, _⟩ := h.ty t i hi
    cases hu : P.underlying t with
    | none => rw [hu] at h3; change i.d = .invalid at h3; change (!isInv i.d) = true at hk; rw [h3] at hk; cases hk
    | some d => rw [hu] at h3; exact ⟨ti, d, h1, h2, rfl, h4.trans (by rw [show i.d = d from h3]), h3⟩
theorem info_und {t : Nat} {ti : TypeInfo} (h : P.info? t = some ti) (hn : ∀ n u, ti.desc ≠ .named n u) : P.underlying t = some ti.desc := by
  unfold Program.underlying
  rw [h]
  cases ht : ti with
  | mk desc str size bytes hp al fa zero cmp ms =>
    subst ht
    cases desc <;> first | rfl | exact absurd rfl (hn _ _)
theorem bys_str (s : ByteArray) : bys (mapR UInt8.toNat s.data.toList) = s := by
  unfold bys
  rw [mapR_eq, List.map_map]
  have : (UInt8.ofNat ∘ UInt8.toNat) = id := by funext x; simp
  rw [this]
  simp
theorem ofV1_R [FX] (v : Value) : R e k (ofV1 v) v := by
  cases v <;> simp only [ofV1] <;> first | rfl | (unfold strV; unfold R; rw [bys_str]; refine ⟨fun b hb => ?_, rfl⟩; rw [mapR_eq, List.mem_map] at hb; obtain ⟨x, _, rfl⟩ := hb; exact x.toNat_lt)
theorem ofV_R [FX] (v : Value) : R e k (ofV v) v := by
  cases v with
  | agg cs =>
    refine ⟨cs, rfl, RL.mk (by rw [mapR_eq]; simp) fun i a u h1 h2 => ?_⟩
    rw [mapR_eq, List.getElem?_map, h2] at h1
    cases h1
    exact ofV1_R u
  | _ => unfold ofV; exact ofV1_R _
/-- The package's variables lie at their own numbers. -/
def Gl (e : En) (k : Nat) : Prop := ∀ g, g < 1000 → g < k ∧ e.lv g = true ∧ e.σ g = g
theorem Gl.ext {e e' : En} {k k' : Nat} (h : Gl e k) (hx : Ext k e e') (hk : k ≤ k') : Gl e' k' := fun g hg => by
  obtain ⟨h1, h2, h3⟩ := h g hg
  obtain ⟨h4, _, h6⟩ := hx g h1
  exact ⟨Nat.lt_of_lt_of_le h1 hk, h6.trans h2, h4.trans h3⟩
/-- The slots tell the frame's. -/
def RTm (e : En) (k : Nat) (ns : NS) (tm : Tm) (a : Act) : Prop := Gl e k ∧ ∀ t, R e k (ev (mvT ns t) tm) (a.tmps.getD t undef)
theorem ev_R [FX] {ns : NS} {tm : Tm} {a : Act} (h : RTm e k ns tm a) (x : Operand) : R e k (ev (mv ns x) tm) (a.eval x) := by
  cases x with
  | tmp t => exact h.2 t
  | const v => exact ofV_R v
  | global g =>
    show R e k (Bool.rec .bot (.ptr g 0) (Nat.ble (g + 1) 1000)) _
    cases hb : Nat.ble (g + 1) 1000 with
    | false => exact trivial
    | true =>
      obtain ⟨h1, h2, h3⟩ := h.1 g (Nat.le_of_ble_eq_true hb)
      exact ⟨⟨h1, h2⟩, by rw [h3]; rfl⟩
  | func f => exact ⟨#[], #[], rfl, rfl, rfl⟩
theorem evs_R [FX] {ns : NS} {tm : Tm} {a : Act} (h : RTm e k ns tm a) (l : List Operand) : RL e k (evs (mapR (mv ns) l) tm) (l.map a.eval) := by
  induction l with
  | nil => rfl
  | cons x l ih => exact ⟨_, _, rfl, ev_R h x, ih⟩
/-- What an operation answers. -/
def OkV [FX] (P : Program) (e : En) (s : St) (w : World) (x : Sem Next) (v : AV) (s' : St) : Prop :=
  ∃ e' w' n, x.run P w = .ok n w' ∧ Stp e s w e' s' w' ∧ ((∃ u, n = .value u ∧ R e' s'.next v u) ∨ (n = .skip ∧ v = und))
theorem okV_pure [FX] {s : St} {w : World} (h : Rep e s w) {x : Sem Next} {v : AV} {u : Value} (hx : x.run P w = .ok (.value u) w) (hv : R e s.next v u) : OkV P e s w x v s :=
  ⟨e, w, _, hx, Stp.refl h, .inl ⟨u, rfl, hv⟩⟩
/-- A value that the runner tells; none: it tells none. -/
theorem vl_inv {o : Option AV} {n : Nat} {s s' : St} {v : AV} (h : vl o n s = .val v s') : o = some v ∧ s = s' := by
  cases o with
  | none => cases h
  | some u => unfold vl at h; injection h with h1 h2; exact ⟨by rw [h1], h2⟩
end

section
variable {P : Program} {T : Tb} {e : En} {s s' : St} {w : World} {ns : NS} {tm : Tm} {a : Act} {o : Oper} {v : AV}

theorem op_mov [FX] (hr : Rep e s w) (ht : RTm e s.next ns tm a) {x : Operand} (ho : o.op = .move x ∨ o.op = .assign x) (h : Nx.val (ev (mv ns x) tm) s = .val v s') : OkV P e s w (execOp a.eval o) v s' := by
  injection h with h1 h2
  subst h1 h2
  refine okV_pure hr ?_ (ev_R ht x)
  unfold execOp
  rcases ho with ho | ho <;> rw [ho] <;> rfl
theorem op_pick [FX] (hr : Rep e s w) (ht : RTm e s.next ns tm a) {c x y : Operand} (ho : o.op = .pick c x y) (h : oPick (ev (mv ns c) tm) (ev (mv ns x) tm) (ev (mv ns y) tm) s = .val v s') : OkV P e s w (execOp a.eval o) v s' := by
  have hc := ev_R ht c
  generalize ev (mv ns c) tm = vc at *
  cases vc with
  | bool b =>
    have hc' : a.eval c = .bool b := hc
    cases b
    · unfold oPick at h
      injection h with h1 h2
      subst h1 h2
      refine okV_pure hr ?_ (ev_R ht y)
      unfold execOp
      rw [ho]
      simp [hc', asBool]
    · unfold oPick at h
      injection h with h1 h2
      subst h1 h2
      refine okV_pure hr ?_ (ev_R ht x)
      unfold execOp
      rw [ho]
      simp [hc', asBool]
  | _ => cases h
theorem op_func [FX] (hr : Rep e s w) (ht : RTm e s.next ns tm a) {f : Fn} {x c : Array Operand} (ho : o.op = .makeFunc f x c) {m : MOp} (hm : cmpF f (mapR (mv ns) x.toList) (mapR (mv ns) c.toList) = m) (h : opA m tm s = .val v s') : OkV P e s w (execOp a.eval o) v s' := by
  subst hm
  cases f with
  | func f =>
    have h' : Nx.val (.fn f (evs (mapR (mv ns) x.toList) tm) (evs (mapR (mv ns) c.toList) tm)) s = .val v s' := h
    injection h' with h1 h2
    subst h1 h2
    refine okV_pure (u := .func (.func f) (x.map a.eval) (c.map a.eval)) hr ?_ ⟨_, _, rfl, ?_, ?_⟩
    · unfold execOp
      rw [ho]
      rfl
    · simpa using evs_R ht x.toList
    · simpa using evs_R ht c.toList
  | _ => cases (show Nx.bad 45 = .val v s' from h)
theorem op_extract [FX] (hr : Rep e s w) (ht : RTm e s.next ns tm a) {x : Operand} {i : Nat} (ho : o.op = .extract x i) (h : oExtract (ev (mv ns x) tm) i s = .val v s') : OkV P e s w (execOp a.eval o) v s' := by
  have hx := ev_R ht x
  generalize ev (mv ns x) tm = vx at *
  cases vx with
  | tup l =>
    obtain ⟨cs, h1, h2⟩ := hx
    obtain ⟨h3, rfl⟩ := vl_inv (show vl (atR l i) 40 s = .val v s' from h)
    rw [atR_eq] at h3
    obtain ⟨u, h4, h5⟩ := h2.at h3
    refine okV_pure (u := u) hr ?_ h5
    unfold execOp
    rw [ho]
    simp [h1, Instr.extract, show cs[i]? = some u by simpa using h4]
  | _ => cases h
theorem op_ifc [FX] (hr : Rep e s w) (ht : RTm e s.next ns tm a) {t : TypeId} {x : Operand} (ho : o.op = .makeInterface t x) {d : TypeDesc} (hu : P.underlying t = some d) (hd : ifaceB d = false) (h : Nx.val (.ifc t (ev (mv ns x) tm)) s = .val v s') : OkV P e s w (execOp a.eval o) v s' := by
  injection h with h1 h2
  subst h1 h2
  refine okV_pure (u := .iface t (a.eval x)) hr ?_ ⟨_, rfl, ev_R ht x⟩
  unfold execOp
  rw [ho]
  simp only [Instr.makeInterface, Sem.run_bind]
  rw [run_underlying hu w]
  cases d <;> first | rfl | cases hd
theorem op_nil [FX] (hr : Rep e s w) (ht : RTm e s.next ns tm a) {x : Operand} (ho : o.op = .nilCheck x) (h : oNil (ev (mv ns x) tm) s = .val v s') : OkV P e s w (execOp a.eval o) v s' := by
  have hx := ev_R ht x
  generalize ev (mv ns x) tm = vx at *
  cases vx with
  | ptr b q =>
    obtain ⟨h1, h2⟩ := hx
    injection (show Nx.val (.ptr b q) s = .val v s' from h) with h3 h4
    subst h3 h4
    refine okV_pure hr ?_ ⟨h1, rfl⟩
    unfold execOp
    rw [ho]
    simp [h2]
  | fn f x c =>
    obtain ⟨y, z, h1, h2⟩ := hx
    injection (show Nx.val (.fn f x c) s = .val v s' from h) with h3 h4
    subst h3 h4
    refine okV_pure hr ?_ ⟨y, z, rfl, h2⟩
    unfold execOp
    rw [ho]
    simp [h1]
  | ifc t u =>
    obtain ⟨y, h1, h2⟩ := hx
    injection (show Nx.val (.ifc t u) s = .val v s' from h) with h3 h4
    subst h3 h4
    refine okV_pure hr ?_ ⟨y, rfl, h2⟩
    unfold execOp
    rw [ho]
    simp [h1]
  | _ => cases h
theorem op_un [FX] (hr : Rep e s w) (ht : RTm e s.next ns tm a) {op : UnOp} {t : TypeId} {x : Operand} (ho : o.op = .unOp op t x) (h : oUn op (ev (mv ns x) tm) s = .val v s') : OkV P e s w (execOp a.eval o) v s' := by
  have hx := ev_R ht x
  generalize ev (mv ns x) tm = vx at *
  cases op with
  | not =>
    cases vx with
    | bool b =>
      have hx' : a.eval x = .bool b := hx
      injection (show Nx.val (.bool (!b)) s = .val v s' from h) with h3 h4
      subst h3 h4
      refine okV_pure (u := .bool (!b)) hr ?_ rfl
      unfold execOp
      rw [ho]
      simp [hx', Op.unary]
    | _ => cases h
  | neg =>
    cases vx with
    | int k n =>
      have hx' : a.eval x = .int k n := hx
      injection (show Nx.val (.int k (k.wrap (0 - n))) s = .val v s' from h) with h3 h4
      subst h3 h4
      refine okV_pure (u := .int k (k.wrap (0 - n))) hr ?_ rfl
      unfold execOp
      rw [ho]
      simp [hx', Op.unary, Op.intArith]
    | _ => cases h
  | _ => cases vx <;> cases h
end

section
variable {P : Program} {e : En} {w : World} {q : Nat}

theorem wrap_mod {k : IntKind} {n m : Int} (h : n % (2 ^ k.bits : Int) = m % (2 ^ k.bits : Int)) : k.wrap n = k.wrap m := by
  unfold IntKind.wrap
  rw [h]
theorem two_cast (n : Nat) : ((2 ^ n : Nat) : Int) = (2 : Int) ^ n := by simp
theorem wrap_nat [FX] {k : IntKind} {n m : Nat} (h : n % 2 ^ k.bits = m % 2 ^ k.bits) : k.wrap (n : Int) = k.wrap (m : Int) := wrap_mod (by
  rw [← two_cast, ← Int.natCast_emod, ← Int.natCast_emod, h])
theorem ofInt_nat (n a : Nat) : (BitVec.ofInt n (Int.ofNat a)).toNat = a % 2 ^ n := by
  rw [show (Int.ofNat a) = (a : Int) from rfl, BitVec.ofInt_natCast, BitVec.toNat_ofNat]
theorem bit_run [FX] {op : BinOp} {k : IntKind} {a b : Int} {v : AV} (h : bitOp op k a b = some v) : ∃ u, (Op.intBits op k a b).run P w = .ok u w ∧ R e q v u := by
  cases a with
  | negSucc a => cases op <;> cases h
  | ofNat a =>
    cases b with
    | negSucc b => cases op <;> cases h
    | ofNat b =>
      cases op <;> first | (cases h; done) | skip
      case and =>
        cases h
        refine ⟨_, rfl, ?_⟩
        show Value.int k _ = Value.int k _
        congr 1
        refine wrap_nat ?_
        rw [BitVec.toNat_and, ofInt_nat, ofInt_nat, ← Nat.and_mod_two_pow, Nat.mod_mod]
        rfl
      case or =>
        cases h
        refine ⟨_, rfl, ?_⟩
        show Value.int k _ = Value.int k _
        congr 1
        refine wrap_nat ?_
        rw [BitVec.toNat_or, ofInt_nat, ofInt_nat, ← Nat.or_mod_two_pow, Nat.mod_mod]
        rfl
      case xor =>
        cases h
        refine ⟨_, rfl, ?_⟩
        show Value.int k _ = Value.int k _
        congr 1
        refine wrap_nat ?_
        rw [BitVec.toNat_xor, ofInt_nat, ofInt_nat, ← Nat.xor_mod_two_pow, Nat.mod_mod]
        rfl
      case andNot =>
        cases h
        refine ⟨_, rfl, ?_⟩
        show Value.int k _ = Value.int k _
        congr 1
        refine wrap_nat ?_
        have e1 : BitVec.ofInt k.bits (Int.ofNat a) &&& ~~~ BitVec.ofInt k.bits (Int.ofNat b) = BitVec.ofInt k.bits (Int.ofNat a) ^^^ (BitVec.ofInt k.bits (Int.ofNat a) &&& BitVec.ofInt k.bits (Int.ofNat b)) := by
          ext i hi
          simp
          generalize (BitVec.ofNat k.bits a)[i] = x
          generalize (BitVec.ofNat k.bits b)[i] = y
          cases x <;> cases y <;> rfl
        rw [e1, BitVec.toNat_xor, BitVec.toNat_and, ofInt_nat, ofInt_nat, ← Nat.and_mod_two_pow, ← Nat.xor_mod_two_pow, Nat.mod_mod]
        rfl
theorem num_run [FX] {op : BinOp} {t : TypeId} {k k' : IntKind} {a b : Int} {v : AV} (h : numOp op k a k' b = some v) : ∃ u, (binOp op t (.int k a) (.int k' b)).run P w = .ok u w ∧ R e q v u := by
  by_cases h1 : op = .shl
  · subst h1
    cases b with
    | negSucc b => cases h
    | ofNat n =>
      have h2 : v = .int k (k.wrap (a * .ofNat (2 ^ min n k.bits))) := (Option.some.inj h).symm
      subst h2
      refine ⟨Value.int k (k.wrap (a * Int.ofNat (2 ^ min n k.bits))), ?_, rfl⟩
      rw [show Int.ofNat (2 ^ min n k.bits) = (2 : Int) ^ min n k.bits from two_cast _]
      have h9 : ¬ ((n : Int) < 0) := by omega
      simp [binOp, Op.shift]
      try exact fun h => absurd h h9
  by_cases h2 : op = .shr
  · subst h2
    cases b with
    | negSucc b => cases h
    | ofNat n =>
      have h2 : v = .int k (a.fdiv (.ofNat (2 ^ min n k.bits))) := (Option.some.inj h).symm
      subst h2
      refine ⟨Value.int k (a.fdiv (Int.ofNat (2 ^ min n k.bits))), ?_, rfl⟩
      rw [show Int.ofNat (2 ^ min n k.bits) = (2 : Int) ^ min n k.bits from two_cast _]
      have h9 : ¬ ((n : Int) < 0) := by omega
      simp [binOp, Op.shift]
      try exact fun h => absurd h h9
  have h3 : (if k = k' then intOp op k a b else none) = some v := by cases op <;> first | exact h | exact absurd rfl h1 | exact absurd rfl h2
  by_cases hk : k = k'
  case neg => rw [if_neg hk] at h3; cases h3
  subst hk
  rw [if_pos rfl] at h3
  clear h
  cases op <;> first | exact absurd rfl h1 | exact absurd rfl h2 | skip
  case add => cases h3; exact ⟨.int k (k.wrap (a + b)), by simp [binOp, Op.intArith], rfl⟩
  case sub => cases h3; exact ⟨.int k (k.wrap (a - b)), by simp [binOp, Op.intArith], rfl⟩
  case mul => cases h3; exact ⟨.int k (k.wrap (a * b)), by simp [binOp, Op.intArith], rfl⟩
  case quo =>
    by_cases hb : b = 0
    · rw [show intOp .quo k a b = if b = 0 then none else some (.int k (k.wrap (a.tdiv b))) from rfl, if_pos hb] at h3; cases h3
    · rw [show intOp .quo k a b = if b = 0 then none else some (.int k (k.wrap (a.tdiv b))) from rfl, if_neg hb] at h3
      cases h3
      exact ⟨.int k (k.wrap (a.tdiv b)), by simp [binOp, Op.intDiv, hb], rfl⟩
  case rem =>
    by_cases hb : b = 0
    · rw [show intOp .rem k a b = if b = 0 then none else some (.int k (a.tmod b)) from rfl, if_pos hb] at h3; cases h3
    · rw [show intOp .rem k a b = if b = 0 then none else some (.int k (a.tmod b)) from rfl, if_neg hb] at h3
      cases h3
      exact ⟨.int k (a.tmod b), by simp [binOp, Op.intDiv, hb], rfl⟩
  case eql => cases h3; exact ⟨.bool (a == b), by simp [binOp, Op.intCmp], rfl⟩
  case neq => cases h3; exact ⟨.bool (a != b), by simp [binOp, Op.intCmp], rfl⟩
  case lss => cases h3; exact ⟨.bool (decide (a < b)), by simp [binOp, Op.intCmp], rfl⟩
  case leq => cases h3; exact ⟨.bool (decide (a ≤ b)), by simp [binOp, Op.intCmp], rfl⟩
  case gtr => cases h3; exact ⟨.bool (decide (b < a)), by simp [binOp, Op.intCmp], rfl⟩
  case geq => cases h3; exact ⟨.bool (decide (b ≤ a)), by simp [binOp, Op.intCmp], rfl⟩
  case and => obtain ⟨u, h4, h5⟩ := bit_run (P := P) (e := e) (w := w) (q := q) h3; exact ⟨u, by simpa [binOp] using h4, h5⟩
  case or => obtain ⟨u, h4, h5⟩ := bit_run (P := P) (e := e) (w := w) (q := q) h3; exact ⟨u, by simpa [binOp] using h4, h5⟩
  case xor => obtain ⟨u, h4, h5⟩ := bit_run (P := P) (e := e) (w := w) (q := q) h3; exact ⟨u, by simpa [binOp] using h4, h5⟩
  case andNot => obtain ⟨u, h4, h5⟩ := bit_run (P := P) (e := e) (w := w) (q := q) h3; exact ⟨u, by simpa [binOp] using h4, h5⟩
theorem eqL_iff : ∀ l m : List Nat, eqL l m = true ↔ l = m
  | [], [] => by simp [show eqL [] [] = true from rfl]
  | [], b :: m => by simp [show eqL [] (b :: m) = false from rfl]
  | a :: l, [] => by simp [show eqL (a :: l) [] = false from rfl]
  | a :: l, b :: m => by
    rw [show eqL (a :: l) (b :: m) = Bool.rec false (eqL l m) (Nat.beq a b) from rfl]
    cases h : Nat.beq a b
    · have : ¬ a = b := fun e => by rw [e, Nat.beq_refl] at h; cases h
      simp [this]
    · have : a = b := Nat.eq_of_beq_eq_true h
      subst this
      show eqL l m = true ↔ _
      rw [eqL_iff l m]
      simp
theorem u8_inj {a b : Nat} (ha : a < 256) (hb : b < 256) : UInt8.ofNat a = UInt8.ofNat b ↔ a = b := by
  constructor
  · intro h
    have h1 := congrArg UInt8.toNat h
    simp at h1
    omega
  · rintro rfl; rfl
theorem bys_inj [FX] : ∀ {l m : List Nat}, (∀ b ∈ l, b < 256) → (∀ b ∈ m, b < 256) → ((l.map UInt8.ofNat == m.map UInt8.ofNat) = eqL l m)
  | [], [], _, _ => rfl
  | [], b :: m, _, _ => rfl
  | a :: l, [], _, _ => rfl
  | a :: l, b :: m, hl, hm => by
    have h1 := bys_inj (l := l) (m := m) (fun x hx => hl x (by simp [hx])) (fun x hx => hm x (by simp [hx]))
    rw [show eqL (a :: l) (b :: m) = Bool.rec false (eqL l m) (Nat.beq a b) from rfl, List.map_cons, List.map_cons, List.cons_beq_cons, h1]
    have h2 := u8_inj (hl a (by simp)) (hm b (by simp))
    cases h : Nat.beq a b
    · have h3 : ¬ a = b := fun e => by rw [e, Nat.beq_refl] at h; cases h
      have h4 : (UInt8.ofNat a == UInt8.ofNat b) = false := by simpa using fun e => h3 (h2.1 e)
      rw [h4]; rfl
    · have h3 : a = b := Nat.eq_of_beq_eq_true h
      subst h3
      simp
theorem bys_less [FX] : ∀ {l m : List Nat}, (∀ b ∈ l, b < 256) → (∀ b ∈ m, b < 256) → Op.bytesLess (l.map UInt8.ofNat) (m.map UInt8.ofNat) = ltL l m
  | [], [], _, _ => rfl
  | [], b :: m, _, _ => rfl
  | a :: l, [], _, _ => rfl
  | a :: l, b :: m, hl, hm => by
    have h1 := bys_less (l := l) (m := m) (fun x hx => hl x (by simp [hx])) (fun x hx => hm x (by simp [hx]))
    have ha := hl a (by simp)
    have hb := hm b (by simp)
    have h2 := u8_inj ha hb
    rw [List.map_cons, List.map_cons, Op.bytesLess, h1, show ltL (a :: l) (b :: m) = Bool.rec (Bool.rec false (ltL l m) (Nat.beq a b)) true (Nat.ble (a + 1) b) from rfl]
    have h3 : (UInt8.ofNat a < UInt8.ofNat b) ↔ a < b := by
      rw [UInt8.lt_iff_toNat_lt]
      simp
      omega
    cases h : Nat.ble (a + 1) b
    · have h4 : ¬ a < b := fun hh => by rw [Nat.ble_eq_true_of_le hh] at h; cases h
      have h5 : decide (UInt8.ofNat a < UInt8.ofNat b) = false := decide_eq_false fun x => h4 (h3.1 x)
      rw [h5]
      cases h6 : Nat.beq a b
      · have h7 : ¬ a = b := fun e => by rw [e, Nat.beq_refl] at h6; cases h6
        have h8 : (UInt8.ofNat a == UInt8.ofNat b) = false := by simpa using fun e => h7 (h2.1 e)
        rw [h8]; rfl
      · have h7 : a = b := Nat.eq_of_beq_eq_true h6
        subst h7
        simp
    · have h4 : a < b := Nat.le_of_ble_eq_true h
      rw [decide_eq_true (h3.2 h4)]
      rfl
theorem bys_app (l m : List Nat) : bys l ++ bys m = bys (l ++ m) := by
  unfold bys
  rw [List.map_append]
  apply ByteArray.ext
  simp
theorem bys_size (l : List Nat) : (bys l).size = l.length := by
  show (bys l).data.size = _
  simp [bys]
theorem bys_list (l : List Nat) : (bys l).toList = l.map UInt8.ofNat := ByteArray.toList_mk _
theorem str_run [FX] {op : BinOp} {t : TypeId} {a b : List Nat} {v : AV} (ha : ∀ x ∈ a, x < 256) (hb : ∀ x ∈ b, x < 256) (h : strOp op a b = some v) : ∃ u, (binOp op t (.string (bys a)) (.string (bys b))).run P w = .ok u w ∧ R e q v u := by
  have h1 : ((bys a).toList == (bys b).toList) = eqL a b := by rw [bys_list, bys_list]; exact bys_inj ha hb
  have h2 : Op.bytesLess (bys a).toList (bys b).toList = ltL a b := by rw [bys_list, bys_list]; exact bys_less ha hb
  have h3 : (ltL a b || eqL a b) = !ltL b a := by
    clear h h1 h2 ha hb
    induction a generalizing b with
    | nil => cases b <;> rfl
    | cons x a ih =>
      cases b with
      | nil => rfl
      | cons y b =>
        rw [show ltL (x :: a) (y :: b) = Bool.rec (Bool.rec false (ltL a b) (Nat.beq x y)) true (Nat.ble (x + 1) y) from rfl, show ltL (y :: b) (x :: a) = Bool.rec (Bool.rec false (ltL b a) (Nat.beq y x)) true (Nat.ble (y + 1) x) from rfl, show eqL (x :: a) (y :: b) = Bool.rec false (eqL a b) (Nat.beq x y) from rfl]
        rcases Nat.lt_trichotomy x y with hlt | heq | hgt
        · have e1 : Nat.ble (x + 1) y = true := Nat.ble_eq_true_of_le hlt
          have e2 : Nat.ble (y + 1) x = false := by cases hh : Nat.ble (y + 1) x with | false => rfl | true => have := Nat.le_of_ble_eq_true hh; omega
          have e3 : Nat.beq y x = false := by cases hh : Nat.beq y x with | false => rfl | true => have := Nat.eq_of_beq_eq_true hh; omega
          rw [e1, e2, e3]; rfl
        · subst heq
          have e1 : Nat.ble (x + 1) x = false := by cases hh : Nat.ble (x + 1) x with | false => rfl | true => have := Nat.le_of_ble_eq_true hh; omega
          rw [e1, Nat.beq_refl]
          exact ih
        · have e1 : Nat.ble (y + 1) x = true := Nat.ble_eq_true_of_le hgt
          have e2 : Nat.ble (x + 1) y = false := by cases hh : Nat.ble (x + 1) y with | false => rfl | true => have := Nat.le_of_ble_eq_true hh; omega
          have e3 : Nat.beq x y = false := by cases hh : Nat.beq x y with | false => rfl | true => have := Nat.eq_of_beq_eq_true hh; omega
          rw [e1, e2, e3]; rfl
  cases op <;> first | (cases h; done) | skip
  case add =>
    rw [show strOp .add a b = Bool.rec none (some (.str (appR a b))) (Nat.ble (Nat.add (lenR a) (lenR b)) 1000000000000) from rfl] at h
    cases hl : Nat.ble (Nat.add (lenR a) (lenR b)) 1000000000000 with
    | false => rw [hl] at h; cases h
    | true =>
      rw [hl] at h
      cases h
      have h4 : a.length + b.length ≤ 1000000000000 := by have := Nat.le_of_ble_eq_true hl; rw [lenR_eq, lenR_eq] at this; exact this
      have h5 : ¬ (((bys a).size + (bys b).size : Nat) : Int) > IntKind.i64.max := by
        rw [bys_size, bys_size]
        simp only [IntKind.max, IntKind.bits, IntKind.signed]
        simp
        omega
      refine ⟨.string (bys (a ++ b)), ?_, ?_⟩
      · simp only [binOp, Op.stringOp]
        rw [if_neg h5, bys_app]
        rfl
      · rw [appR_eq]
        exact ⟨fun x hx => by exact (List.mem_append.1 hx).elim (ha x) (hb x), rfl⟩
  case eql => cases h; exact ⟨_, by simp only [binOp, Op.stringOp, h1]; rfl, rfl⟩
  case neq => cases h; exact ⟨_, by simp only [binOp, Op.stringOp, h1]; rfl, rfl⟩
  case lss => cases h; exact ⟨_, by simp only [binOp, Op.stringOp, h2]; rfl, rfl⟩
  case leq => cases h; exact ⟨.bool (!ltL b a), by simp only [binOp, Op.stringOp, h1, h2, h3]; rfl, rfl⟩
  case gtr => cases h; exact ⟨.bool (ltL b a), by simp only [binOp, Op.stringOp, h1, h2, h3, Bool.not_not]; rfl, rfl⟩
  case geq => cases h; exact ⟨_, by simp only [binOp, Op.stringOp, h2]; rfl, rfl⟩
end

section
variable {P : Program} {T : Tb} {e : En} {s s' : St} {w : World} {ns : NS} {tm : Tm} {a : Act} {o : Oper} {v : AV} {q : Nat}

set_option maxHeartbeats 4000000 in
theorem eq1_run [FX] (ht : TbOk P T) {t : TypeId} {k : EK} (hk : ekOf (dsc T t) = some k) {a b : AV} {u v : Value} (ha : R e q a u) (hb : R e q b v) {r : Bool} (h : eq1 k a b = some r) (d : Nat) : (Op.equalIn (d + 1) t u v).run P w = .ok r w := by
  have hu : ∃ dd, dsc T t = dd := ⟨_, rfl⟩
  obtain ⟨dd, hd⟩ := hu
  rw [hd] at hk
  have hu : P.underlying t = some dd := ht.dsc hd (by rintro rfl; cases hk)
  unfold eq1 at h
  split at h <;> first | (cases h; done) | skip
  case h_1 =>
    cases dd <;> first | (cases hk; done) | skip
    rw [show u = _ from ha, show v = _ from hb]
    cases h
    exact run_equalIn_bool w d t _ _ hu
  case h_2 =>
    cases dd <;> first | (cases hk; done) | skip
    rw [show u = _ from ha, show v = _ from hb]
    split at h
    case isFalse => cases h
    rename_i hkk
    cases hkk
    cases h
    exact run_equalIn_int w d t _ _ _ _ hu
  case h_3 =>
    cases dd <;> first | (cases hk; done) | skip
    rw [ha.2, hb.2]
    cases h
    rw [run_equalIn_string w d t _ _ hu, bys_list, bys_list, bys_inj ha.1 hb.1]
  case h_4 =>
    cases dd <;> first | (cases hk; done) | skip
    rw [show u = _ from ha, show v = _ from hb]
    cases h
    simp [Op.equalIn, run_underlying hu]
  all_goals
    cases dd <;> first | (cases hk; done) | skip
    cases h
    unfold R at ha hb
    first | (obtain ⟨_, rfl⟩ := ha) | (obtain ⟨_, _, rfl, _⟩ := ha) | (obtain ⟨_, rfl, _⟩ := ha) | (cases ha)
    all_goals first | (obtain ⟨_, rfl⟩ := hb) | (obtain ⟨_, _, rfl, _⟩ := hb) | (obtain ⟨_, rfl, _⟩ := hb) | (cases hb)
    all_goals simp [Op.equalIn, run_underlying hu]
theorem run_part1 [FX] (ht : TbOk P T) {t : TypeId} {k : EK} (hk : ekOf (dsc T t) = some k) {xs : Array Value} {i : Nat} {v : Value} (h : xs[i]? = some v) : (part t xs i).run P w = .ok v w := by
  obtain ⟨dd, hd⟩ : ∃ dd, dsc T t = dd := ⟨_, rfl⟩
  rw [hd] at hk
  have hu : P.underlying t = some dd := ht.dsc hd (by rintro rfl; cases hk)
  cases dd <;> first | (cases hk; done) | skip
  all_goals simp [part, isAgg, run_underlying hu, h]
theorem ksC_inv {k : Option EK} {r : Option (List EK)} {l : List EK} (h : ksC k r = some l) : ∃ a b, k = some a ∧ r = some b ∧ l = a :: b := by
  cases k with
  | none => cases h
  | some a =>
    cases r with
    | none => cases h
    | some b => cases h; exact ⟨a, b, rfl, rfl, rfl⟩
theorem and_inv {a b : Bool} (h : and a b = true) : a = true ∧ b = true := by cases a <;> cases b <;> first | exact ⟨rfl, rfl⟩ | cases h
theorem eqS_run [FX] (ht : TbOk P T) (d : Nat) {xs ys : Array Value} : ∀ (fs : List Field) (i : Nat) {ks : List EK} {l m : List AV} {r : Bool}, ksF T fs i = some ks →
    (∀ j a, l[j]? = some a → ∃ v, xs[i + j]? = some v ∧ R e q a v) → (∀ j a, m[j]? = some a → ∃ v, ys[i + j]? = some v ∧ R e q a v) →
    eqS ks l m = some r → (Op.eqFields (d + 1) xs ys fs).run P w = .ok r w
  | [], i, ks, l, m, r, hk, hl, hm, h => by
    cases hk
    cases l <;> cases m <;> cases h
    rfl
  | f :: fs, i, ks, l, m, r, hk, hl, hm, h => by
    rw [show ksF T (f :: fs) i = Bool.rec none (ksC (ekOf (dsc T f.type)) (ksF T fs (i + 1))) (and (Nat.beq f.offset i) (not (f.name == "_"))) from rfl] at hk
    cases hc : and (Nat.beq f.offset i) (not (f.name == "_")) with
    | false => rw [hc] at hk; cases hk
    | true =>
      rw [hc] at hk
      obtain ⟨k, ks', h1, h2, rfl⟩ := ksC_inv hk
      obtain ⟨h3, h4⟩ := and_inv hc
      have h3 := Nat.eq_of_beq_eq_true h3
      have h4 : f.name ≠ "_" := by intro hh; rw [hh] at h4; exact absurd h4 (by decide)
      cases l with
      | nil => cases h
      | cons a l =>
        cases m with
        | nil => cases h
        | cons b m =>
          rw [show eqS (k :: ks') (a :: l) (b :: m) = Option.rec none (fun r => Option.rec none (fun q => some (and r q)) (eqS ks' l m)) (eq1 k a b) from rfl] at h
          cases he : eq1 k a b with
          | none => rw [he] at h; cases h
          | some r1 =>
            rw [he] at h
            cases hs : eqS ks' l m with
            | none => rw [hs] at h; cases h
            | some r2 =>
              rw [hs] at h
              cases h
              obtain ⟨u, hu, hau⟩ := hl 0 a rfl
              obtain ⟨v, hv, hbv⟩ := hm 0 b rfl
              have hrest := eqS_run ht d fs (i + 1) (l := l) (m := m) h2 (fun j a hj => by have := hl (j + 1) a hj; rwa [show i + 1 + j = i + (j + 1) by omega]) (fun j a hj => by have := hm (j + 1) a hj; rwa [show i + 1 + j = i + (j + 1) by omega]) hs
              simp only [Op.eqFields, h3, if_pos h4, Sem.run_bind, run_part1 ht h1 (show xs[i]? = some u from hu), run_part1 ht h1 (show ys[i]? = some v from hv), Result.andThen_ok, eq1_run ht h1 hau hbv he d, Sem.run_ite, hrest]
              cases r1 <;> rfl
theorem boolO_inv {x : Option Bool} {v : AV} (h : boolO x = some v) : ∃ b, x = some b ∧ v = .bool b := by
  cases x with
  | none => cases h
  | some b => cases h; exact ⟨b, rfl, rfl⟩
theorem notO_inv {x : Option Bool} {v : AV} (h : notO x = some v) : ∃ b, x = some b ∧ v = .bool (!b) := by
  cases x with
  | none => cases h
  | some b => cases h; exact ⟨b, rfl, rfl⟩
theorem eq1_kind {k : EK} {a b : AV} {u : Value} (ha : R e q a u) {r : Bool} (h : eq1 k a b = some r) : (∀ x, u ≠ .agg x) ∧ (u = .nilIface → k = .iface) := by
  unfold eq1 at h
  split at h <;> first | (cases h; done) | skip
  all_goals
    unfold R at ha
    first | (obtain ⟨_, rfl⟩ := ha) | (obtain ⟨_, _, rfl, _⟩ := ha) | (obtain ⟨_, rfl, _⟩ := ha) | (cases ha)
    all_goals exact ⟨fun x hx => (by cases hx), fun hx => (by first | rfl | cases hx)⟩
theorem guard_one {op : BinOp} {t : TypeId} {x y : Operand} {u v : Value} (h1 : ∀ x, u ≠ .agg x) (h2 : u ≠ .nilIface) : (eqGuard op t x y u v).run P w = .ok () w := by
  cases op <;> first | (simp [eqGuard]; done) | (cases u <;> first | (exact absurd rfl (h1 _)) | (exact absurd rfl h2) | (cases v <;> simp [eqGuard]))
theorem one_inv {o : Option EK} {k : EK} (h : oneO o = .one k) : o = some k := by
  cases o with
  | none => cases h
  | some a => cases h; rfl
theorem guard_lit {op : BinOp} {t : TypeId} {x y : Operand} (hc : or (isC x) (isC y) = true) : (eqGuard op t x y .nilIface .nilIface).run P w = .ok () w := by
  cases op <;> first | (simp [eqGuard]; done) | skip
  all_goals cases x <;> cases y <;> first | (cases hc; done) | (simp [eqGuard]; done)
theorem TbOk.guard (ht : TbOk P T) {t : TypeId} (h : guardT T t = false) : P.eqGuardType P.depth t = false := by
  unfold guardT at h
  cases hi : T.ty.at_ t with
  | none => rw [hi] at h; cases h
  | some i =>
    obtain ⟨_, _, _, _, _, _, h7, _⟩ := ht.ty t i hi
    rw [hi] at h
    rw [← h7]; exact h
theorem TbOk.held (ht : TbOk P T) {t : TypeId} (h : heldT T t = false) : P.stoodInHeld t = false := by
  unfold heldT at h
  cases hi : T.ty.at_ t with
  | none => rw [hi] at h; cases h
  | some i =>
    obtain ⟨_, _, _, _, _, h7, _⟩ := ht.ty t i hi
    rw [hi] at h
    rw [← h7]; exact h
theorem guard_none {op : BinOp} {t : TypeId} {x y : Operand} {ms : Array (String × TypeId)} (hu : P.underlying t = some (.interface ms)) (hg : P.eqGuardType P.depth t = false) : (eqGuard op t x y .nilIface .nilIface).run P w = .ok () w := by
  have hm : ms.isEmpty = true := by
    cases hd : P.depth with
    | zero => rw [hd] at hg; cases hg
    | succ d =>
      rw [hd] at hg
      unfold Program.eqGuardType at hg
      rw [hu] at hg
      replace hg : (!ms.isEmpty) = false := hg
      cases hh : ms.isEmpty with
      | true => rfl
      | false => rw [hh] at hg; cases hg
  have hq : ∀ w, (Op.eqGuardIn Op.maxDepth t .nilIface .nilIface).run P w = .ok false w := by
    intro w
    have hd : ∀ d, (Op.eqGuardIn (d + 1) t .nilIface .nilIface).run P w = .ok false w := fun d => by simp [Op.eqGuardIn, run_underlying hu, hm]
    exact hd 9999
  cases op <;> first | (simp [eqGuard]; done) | skip
  all_goals cases x <;> cases y <;> simp [eqGuard, hq]
/-- The two sides are held against each other. -/
theorem eqA_run [FX] (ht : TbOk P T) {t : TypeId} {x y : Operand} {op : BinOp} {a b : AV} {u v : Value} (ha : R e q a u) (hb : R e q b v) {r : Bool} (h : eqA (eqOf T t (or (isC x) (isC y))) a b = some r) : (eqGuard op t x y u v).run P w = .ok () w ∧ (Op.equal t u v).run P w = .ok r w := by
  obtain ⟨dd, hd⟩ : ∃ dd, dsc T t = dd := ⟨_, rfl⟩
  have hone : ∀ k, eqOf T t (or (isC x) (isC y)) = .one k → ekOf (dsc T t) = some k ∧ (k = .iface → (or (isC x) (isC y)) = true ∨ guardT T t = false) := by
    intro k hk
    unfold eqOf at hk
    rw [hd] at hk ⊢
    by_cases hs : (∃ fs, dd = .struct fs) ∨ ∃ ms, dd = .interface ms
    case neg =>
      have h8 : eqD T t (isC x || isC y) dd = oneO (ekOf dd) := by
        cases dd <;> first | rfl | exact absurd (.inl ⟨_, rfl⟩) hs | exact absurd (.inr ⟨_, rfl⟩) hs
      rw [h8] at hk
      refine ⟨one_inv hk, fun hh => ?_⟩
      subst hh
      have h9 := one_inv hk
      cases dd <;> first | (cases h9; done) | exact absurd (.inr ⟨_, rfl⟩) hs
    rcases hs with ⟨fs, rfl⟩ | ⟨ms, rfl⟩
    case inl =>
      rw [show eqD T t (or (isC x) (isC y)) (.struct fs) = Bool.rec (manyO (ksF T fs.toList 0)) .no (or (heldT T t) (guardT T t)) from rfl] at hk
      cases hg : or (heldT T t) (guardT T t) with
      | true => rw [hg] at hk; cases hk
      | false => rw [hg] at hk; cases hf : ksF T fs.toList 0 <;> rw [hf] at hk <;> cases hk
    case inr =>
      rw [show eqD T t (or (isC x) (isC y)) (.interface ms) = Bool.rec (Bool.rec (.one .iface) .no (guardT T t)) (.one .iface) (or (isC x) (isC y)) from rfl] at hk
      cases hc : or (isC x) (isC y) with
      | true => rw [hc] at hk; cases hk; exact ⟨rfl, fun _ => .inl rfl⟩
      | false =>
        rw [hc] at hk
        cases hg : guardT T t with
        | true => rw [hg] at hk; cases hk
        | false => rw [hg] at hk; cases hk; exact ⟨rfl, fun _ => .inr rfl⟩
  generalize hq : eqOf T t (or (isC x) (isC y)) = E at h
  cases E with
  | no => cases a <;> cases h
  | one k =>
    obtain ⟨h1, h2⟩ := hone k hq
    have h3 : eq1 k a b = some r := by cases k <;> exact h
    refine ⟨?_, eq1_run ht h1 ha hb h3 9999⟩
    obtain ⟨h4, h5⟩ := eq1_kind ha h3
    by_cases hu : u = .nilIface
    · have hk := h5 hu
      subst hk hu
      by_cases hv : v = .nilIface
      · subst hv
        rcases h2 rfl with hc | hg
        · exact guard_lit hc
        · have hms : ∃ ms, dsc T t = .interface ms := by
            cases dd <;> rw [hd] at h1 <;> first | (cases h1; done) | exact ⟨_, hd⟩
          obtain ⟨ms, hms⟩ := hms
          exact guard_none (ht.dsc hms (by intro hh; cases hh)) (ht.guard hg)
      · cases op <;> first | (simp [eqGuard]; done) | (cases v <;> first | (exact absurd rfl hv) | simp [eqGuard])
    · exact guard_one h4 hu
  | many ks =>
    have hfs : ∃ fs, dd = .struct fs ∧ heldT T t = false ∧ guardT T t = false ∧ ksF T fs.toList 0 = some ks := by
      unfold eqOf at hq
      rw [hd] at hq
      by_cases hs : (∃ fs, dd = .struct fs) ∨ ∃ ms, dd = .interface ms
      case neg =>
        have h8 : eqD T t (isC x || isC y) dd = oneO (ekOf dd) := by
          cases dd <;> first | rfl | exact absurd (.inl ⟨_, rfl⟩) hs | exact absurd (.inr ⟨_, rfl⟩) hs
        rw [h8] at hq
        cases h9 : ekOf dd <;> rw [h9] at hq <;> cases hq
      rcases hs with ⟨fs, rfl⟩ | ⟨ms, rfl⟩
      · refine ⟨fs, rfl, ?_⟩
        rw [show eqD T t (or (isC x) (isC y)) (.struct fs) = Bool.rec (manyO (ksF T fs.toList 0)) .no (or (heldT T t) (guardT T t)) from rfl] at hq
        cases hg : or (heldT T t) (guardT T t) with
        | true => rw [hg] at hq; cases hq
        | false =>
          rw [hg] at hq
          cases hf : ksF T fs.toList 0 <;> rw [hf] at hq <;> cases hq
          cases h1 : heldT T t <;> cases h2 : guardT T t <;> rw [h1, h2] at hg <;> first | (cases hg; done) | exact ⟨rfl, rfl, rfl⟩
      · rw [show eqD T t (or (isC x) (isC y)) (.interface ms) = Bool.rec (Bool.rec (.one .iface) .no (guardT T t)) (.one .iface) (or (isC x) (isC y)) from rfl] at hq
        cases hc : or (isC x) (isC y) <;> rw [hc] at hq <;> first | (cases hq; done) | skip
        cases hg : guardT T t <;> rw [hg] at hq <;> cases hq
    obtain ⟨fs, rfl, hh, hg, hks⟩ := hfs
    cases a with
    | agg l =>
      cases b with
      | agg m =>
        obtain ⟨xs, rfl, hl⟩ := ha
        obtain ⟨ys, rfl, hm⟩ := hb
        have h3 : eqS ks l m = some r := h
        refine ⟨run_eqGuard_agg w op t x y xs ys (ht.guard hg), ?_⟩
        have hu := ht.dsc hd (by intro hh; cases hh)
        have hfo : P.fieldsOf t = fs := by unfold Program.fieldsOf; rw [hu]
        show (Op.equalIn (9999 + 1) t (.agg xs) (.agg ys)).run P w = _
        rw [run_equalIn_struct w 9999 t xs ys (by rw [hfo]; exact hu) (ht.held hh), hfo]
        exact eqS_run ht 9998 fs.toList 0 hks (fun j a hj => by obtain ⟨v, h5, h6⟩ := hl.at hj; exact ⟨v, by rw [Nat.zero_add, ← Array.getElem?_toList]; exact h5, h6⟩) (fun j a hj => by obtain ⟨v, h5, h6⟩ := hm.at hj; exact ⟨v, by rw [Nat.zero_add, ← Array.getElem?_toList]; exact h5, h6⟩) h3
      | _ => cases h
    | _ => cases h
def plainV : Value → Bool
  | .int _ _ => false
  | .float _ _ => false
  | .complex _ _ _ => false
  | .string _ => false
  | _ => true
theorem binOp_eql {t : TypeId} {u v : Value} (h : plainV u = true) : binOp .eql t u v = (do pure (.bool (← Op.equal t u v))) := by
  cases u <;> first | (cases h; done) | (cases v <;> rfl)
theorem binOp_neq {t : TypeId} {u v : Value} (h : plainV u = true) : binOp .neq t u v = (do pure (.bool (!(← Op.equal t u v)))) := by
  cases u <;> first | (cases h; done) | (cases v <;> rfl)
theorem eq1_plain {k : EK} {a b : AV} {u : Value} (hk : k ≠ .cplx) (hi : ∀ k n, a ≠ .int k n) (hs : ∀ l, a ≠ .str l) (ha : R e q a u) {r : Bool} (h : eq1 k a b = some r) : plainV u = true := by
  unfold eq1 at h
  split at h <;> first | (cases h; done) | (exact absurd rfl hk) | (exact absurd rfl (hi _ _)) | (exact absurd rfl (hs _)) | skip
  all_goals
    unfold R at ha
    first | (obtain ⟨_, rfl⟩ := ha) | (obtain ⟨_, _, rfl, _⟩ := ha) | (obtain ⟨_, rfl, _⟩ := ha) | (cases ha)
    all_goals rfl
theorem eqA_plain [FX] {E : EQ} {a b : AV} {u : Value} (hk : E ≠ .one .cplx) (hi : ∀ k n, a ≠ .int k n) (hs : ∀ l, a ≠ .str l) (ha : R e q a u) {r : Bool} (h : eqA E a b = some r) : plainV u = true := by
  cases E with
  | no => cases a <;> cases h
  | one k => exact eq1_plain (by rintro rfl; exact hk rfl) hi hs ha (show eq1 k a b = some r by cases a <;> exact h)
  | many ks =>
    cases a with
    | agg l => obtain ⟨cs, rfl, _⟩ := ha; rfl
    | _ => cases h
theorem any_run [FX] (ht : TbOk P T) {t : TypeId} {x y : Operand} {op : BinOp} {a b : AV} {u v : Value} (hi : ∀ k n, a ≠ .int k n) (hs : ∀ l, a ≠ .str l) (ha : R e q a u) (hb : R e q b v) {r : AV} (h : anyOp op (eqOf T t (or (isC x) (isC y))) a b = some r) : ∃ z, ((do eqGuard op t x y u v; binOp op t u v : Sem Value)).run P w = .ok z w ∧ R e q r z := by
  generalize hE : eqOf T t (or (isC x) (isC y)) = E at h
  by_cases hc : E = .one .cplx
  · subst hc
    replace h : cplxOp op a b = some r := h
    have hX : ∀ {r : Bool}, eq1 .cplx a b = some r → ∃ x1 y1 x2 y2, u = .complex .f64 x1 y1 ∧ v = .complex .f64 x2 y2 ∧ r = (Op.floatEq .f64 x1 x2 && Op.floatEq .f64 y1 y2) := by
      intro r h
      generalize hk : EK.cplx = k at h
      unfold eq1 at h
      split at h <;> first | (cases h; done) | (cases hk; done) | skip
      cases h
      exact ⟨_, _, _, _, ha, hb, rfl⟩
    cases op <;> first | (cases h; done) | skip
    case eql =>
      obtain ⟨z, h1, rfl⟩ := boolO_inv h
      obtain ⟨x1, y1, x2, y2, rfl, rfl, rfl⟩ := hX h1
      refine ⟨.bool (Op.floatEq .f64 x1 x2 && Op.floatEq .f64 y1 y2), ?_, rfl⟩
      rw [Sem.run_bind, guard_one (fun x hx => by cases hx) (fun hx => by cases hx)]
      simp [binOp, Op.complexOp, Op.Complex.cmp, Op.floatCmp, asBool, Op.floatEq]
    case neq =>
      obtain ⟨z, h1, rfl⟩ := notO_inv h
      obtain ⟨x1, y1, x2, y2, rfl, rfl, rfl⟩ := hX h1
      refine ⟨.bool (!(Op.floatEq .f64 x1 x2 && Op.floatEq .f64 y1 y2)), ?_, rfl⟩
      rw [Sem.run_bind, guard_one (fun x hx => by cases hx) (fun hx => by cases hx)]
      simp [binOp, Op.complexOp, Op.Complex.cmp, Op.floatCmp, asBool, Op.floatEq]
  · cases op <;> first | (exfalso; revert h; cases E <;> first | (intro h; cases h; done) | (rename_i k; cases k <;> first | exact absurd rfl hc | (intro h; cases h))) | skip
    case eql =>
      have h1 : boolO (eqA E a b) = some r := by cases E <;> first | exact h | (rename_i k; cases k <;> first | exact absurd rfl hc | exact h)
      obtain ⟨z, h9, rfl⟩ := boolO_inv h1
      obtain ⟨h2, h3⟩ := eqA_run (w := w) (op := .eql) ht ha hb (hE ▸ h9)
      refine ⟨.bool z, ?_, rfl⟩
      rw [binOp_eql (eqA_plain hc hi hs ha h9)]
      simp only [Sem.run_bind, h2, h3, Result.andThen_ok, Sem.run_pure]
    case neq =>
      have h1 : notO (eqA E a b) = some r := by cases E <;> first | exact h | (rename_i k; cases k <;> first | exact absurd rfl hc | exact h)
      obtain ⟨z, h9, rfl⟩ := notO_inv h1
      obtain ⟨h2, h3⟩ := eqA_run (w := w) (op := .neq) ht ha hb (hE ▸ h9)
      refine ⟨.bool (!z), ?_, rfl⟩
      rw [binOp_neq (eqA_plain hc hi hs ha h9)]
      simp only [Sem.run_bind, h2, h3, Result.andThen_ok, Sem.run_pure]
/-- Two numbers, rows of bytes, or anything that is held against its like. -/
theorem binA_run [FX] (ht : TbOk P T) {t : TypeId} {x y : Operand} {op : BinOp} {a b : AV} {u v : Value} (ha : R e q a u) (hb : R e q b v) {r : AV} (h : binA a b op (eqOf T t (or (isC x) (isC y))) = some r) : ∃ z, ((do eqGuard op t x y u v; binOp op t u v : Sem Value)).run P w = .ok z w ∧ R e q r z := by
  cases a with
  | bot => cases h
  | emp => cases h
  | tup l => cases h
  | int k n =>
    cases b with
    | int k' m =>
      cases ha; cases hb
      obtain ⟨z, h1, h2⟩ := num_run (P := P) (w := w) (t := t) (e := e) (q := q) (show numOp op k n k' m = some r from h)
      exact ⟨z, by rw [Sem.run_bind, guard_one (fun x hx => by cases hx) (fun hx => by cases hx)]; exact h1, h2⟩
    | _ => cases h
  | cls k m r0 =>
    cases b with
    | int k' y =>
      obtain ⟨n, rfl, hn, hm⟩ := ha
      cases hb
      replace h : remC op k m r0 (.int k' y) = some r := h
      cases op <;> first | (cases h; done) | skip
      cases y with
      | negSucc y => cases h
      | ofNat y =>
        replace h : (if k = k' then (Bool.rec none (some (.int k (.ofNat (Nat.mod r0 y)))) (and (Nat.ble 1 y) (Nat.beq (Nat.mod m y) 0)) : Option AV) else none) = some r := h
        by_cases hk : k = k'
        · rw [if_pos hk] at h
          subst hk
          cases hc : and (Nat.ble 1 y) (Nat.beq (Nat.mod m y) 0) with
          | false => rw [hc] at h; cases h
          | true =>
            rw [hc] at h
            rw [Bool.and_eq_true] at hc
            have hy := Nat.le_of_ble_eq_true hc.1
            have hd : m % y = 0 := Nat.eq_of_beq_eq_true hc.2
            have hmod : n % y = r0 % y := by rw [← hm, Nat.mod_mod_of_dvd _ (Nat.dvd_of_mod_eq_zero hd)]
            obtain ⟨z, h1, h2⟩ := num_run (P := P) (w := w) (t := t) (e := e) (q := q) (show numOp .rem k n k y = some (.int k (.ofNat (Nat.mod r0 y))) by
              show (if k = k then intOp .rem k n y else none) = _
              rw [if_pos rfl]
              show (if (y : Int) = 0 then none else some (AV.int k ((n : Int).tmod y))) = _
              rw [if_neg (by omega)]
              have : (n : Int).tmod y = ((n % y : Nat) : Int) := by rw [Int.tmod_eq_emod_of_nonneg (by omega)]; rfl
              rw [this, hmod]
              rfl)
            cases h
            exact ⟨z, by rw [Sem.run_bind, guard_one (fun x hx => by cases hx) (fun hx => by cases hx)]; exact h1, h2⟩
        · rw [if_neg hk] at h; cases h
    | _ => cases op <;> cases h
  | str l =>
    cases b with
    | str m =>
      obtain ⟨h3, rfl⟩ := ha
      obtain ⟨h4, rfl⟩ := hb
      obtain ⟨z, h1, h2⟩ := str_run (P := P) (w := w) (t := t) (e := e) (q := q) h3 h4 (show strOp op l m = some r from h)
      exact ⟨z, by rw [Sem.run_bind, guard_one (fun x hx => by cases hx) (fun hx => by cases hx)]; exact h1, h2⟩
    | _ => cases h
  | _ => exact any_run ht (fun _ _ hh => by cases hh) (fun _ hh => by cases hh) ha hb h
theorem op_bin [FX] (ht : TbOk P T) (hr : Rep e s w) (hm : RTm e s.next ns tm a) {op : BinOp} {t : TypeId} {x y : Operand} {n : TypeId} (ho : o.op = .binOp op t x y n) (h : vl (binA (ev (mv ns x) tm) (ev (mv ns y) tm) op (eqOf T t (or (isC x) (isC y)))) 8 s = .val v s') : OkV P e s w (execOp a.eval o) v s' := by
  obtain ⟨h1, rfl⟩ := vl_inv h
  obtain ⟨z, h2, h3⟩ := binA_run (w := w) ht (ev_R hm x) (ev_R hm y) h1
  refine okV_pure hr ?_ h3
  unfold execOp
  rw [ho]
  simp only [Sem.run_bind] at h2 ⊢
  rw [h2]
  rfl
end

section
variable {P : Program} {B : Tb} {e : En} {s s' : St} {w : World} {ns : NS} {tm : Tm} {a : Act} {o : Oper} {v : AV} {q : Nat}

/-- Cells in the world. -/
theorem Rep.cells [FX] (h : Rep e s w) {b : Nat} {c : T (List AV)} {n size t : Nat} {room : Bool} (hb : s.get b = some (.cells c n size t room)) :
    ∃ cs fz, w.heap[e.σ b]? = some (.cells cs t fz) ∧ FzOk fz cs.size ∧ cs.size = (if room = true then e.κ b else n) * size ∧ (room = true → n ≤ e.κ b) ∧ ∀ i l, c.at_ i = some l → i < n ∧ l.length = size ∧ ∀ j a, l[j]? = some a → oneB a = true ∧ ∃ v, cs[i * size + j]? = some v ∧ R e s.next a v := by
  obtain ⟨_, _, r, h1, h2⟩ := h.obj b _ hb
  obtain ⟨cs, fz, rfl, h3, h4, h5, h6⟩ := h2
  exact ⟨cs, fz, h1, h3, h4, h5, h6⟩
theorem loadA_inv [FX] {p : AV} {g : Bool} {n : Nat} (h : loadA p g n s = .val v s') : ∃ b o c m size t r l, p = .ptr b o ∧ s.get b = some (.cells c m size t r) ∧ c.at_ (o / size) = some l ∧ s = s' ∧ ((g = true ∧ ∃ k, subR l (o % size) n = some k ∧ v = .agg k) ∨ (g = false ∧ atR l (o % size) = some v)) := by
  cases p <;> first | (cases h; done) | skip
  rename_i b o
  replace h : loadO (s.get b) g n o s = .val v s' := h
  cases hg : s.get b with
  | none => rw [hg] at h; cases h
  | some ob =>
    rw [hg] at h
    cases ob <;> first | (cases h; done) | skip
    rename_i c m size t r
    refine ⟨b, o, c, m, size, t, r, ?_⟩
    rw [hg]
    replace h : loadAt (c.at_ (o / size)) g (o % size) n s = .val v s' := h
    cases hl : c.at_ (o / size) with
    | none => rw [hl] at h; cases h
    | some l =>
      rw [hl] at h
      refine ⟨l, rfl, rfl, rfl, ?_⟩
      cases g with
      | true =>
        obtain ⟨h1, h2⟩ := vl_inv (show vl (aggO (subR l (o % size) n)) 101 s = .val v s' from h)
        refine ⟨h2, .inl ⟨rfl, ?_⟩⟩
        cases hs : subR l (o % size) n with
        | none => rw [hs] at h1; cases h1
        | some k => rw [hs] at h1; cases h1; exact ⟨k, rfl, rfl⟩
      | false =>
        obtain ⟨h1, h2⟩ := vl_inv (show vl (atR l (o % size)) 102 s = .val v s' from h)
        exact ⟨h2, .inr ⟨rfl, h1⟩⟩
theorem cell_of {b : Nat} {cs : Array Value} {t : TypeId} {fz : Nat × Nat} (h : w.heap[b]? = some (.cells cs t fz)) (o : Nat) : w.cell? ⟨b, o, none⟩ = cs[o]? := by
  simp [World.cell?, h]
theorem load_run [FX] (ht : TbOk P B) (hr : Rep e s w) {t : TypeId} (hk : knownT B t = true) {p : AV} {u : Value} (hp : R e s.next p u) (h : loadA p (aggT B t) (sizeT B t) s = .val v s') : s = s' ∧ ∃ z, (Instr.loadAt t u).run P w = .ok z w ∧ R e s.next v z := by
  obtain ⟨ti, d, hi, hz, hu, hg, _⟩ := ht.info hk
  obtain ⟨b, o, c, m, size, et, r, l, rfl, hb, hl, rfl, hv⟩ := loadA_inv h
  refine ⟨rfl, ?_⟩
  obtain ⟨cs, fz, h1, h2, h3, h4, h5⟩ := hr.cells hb
  obtain ⟨h6, h7, h8⟩ := h5 _ _ hl
  obtain ⟨_, rfl⟩ := hp
  have hat : ∀ j a, l[o % size + j]? = some a → oneB a = true ∧ ∃ v, cs[o + j]? = some v ∧ R e s.next a v := fun j a hj => by
    have := h8 _ _ hj
    rwa [show o / size * size + (o % size + j) = o + j by have := Nat.div_add_mod o size; rw [Nat.mul_comm] at this; omega] at this
  rcases hv with ⟨hg1, k, hs, rfl⟩ | ⟨hg1, hs⟩
  · rw [hg1] at hg
    have hs2 : takeR (l.drop (o % size)) (sizeT B t) = some k := by rw [← dropR_eq]; exact hs
    obtain ⟨rfl, hs3⟩ := takeR_eq hs2
    rw [List.length_drop] at hs3
    have hlen : ((cs.toList.drop o).take (sizeT B t)).length = sizeT B t := by
      have hlast : ∀ j, j < sizeT B t → o + j < cs.size := fun j hj => by
        have hj2 : o % size + j < l.length := by omega
        obtain ⟨_, v, hv, _⟩ := hat j _ (List.getElem?_eq_getElem hj2)
        exact (Array.getElem?_eq_some_iff.1 hv).1
      rw [List.length_take, List.length_drop, Array.length_toList]
      rcases Nat.eq_zero_or_pos (sizeT B t) with h0 | h0
      · omega
      · have := hlast (sizeT B t - 1) (by omega); omega
    refine ⟨.agg ((cs.toList.drop o).take (sizeT B t)).toArray, ?_, _, rfl, ?_⟩
    · refine run_loadAt_mid w (e.σ b) o t _ d (fun j v hj => ?_) hu (by cases d <;> first | rfl | cases hg) (by rw [hi, hlen, hz]; rfl)
      rw [cell_of h1]
      rw [List.getElem?_take] at hj
      split at hj
      · rw [List.getElem?_drop, Array.getElem?_toList] at hj; exact hj
      · cases hj
    · refine RL.mk ?_ fun j a v hj hv => ?_
      · rw [List.length_take, List.length_drop]
        have : ((cs.toList.drop o).take (sizeT B t)).toArray.toList.length = sizeT B t := hlen
        rw [this]; omega
      · rw [List.getElem?_take] at hj
        split at hj
        · rename_i hlt
          rw [List.getElem?_drop] at hj
          obtain ⟨_, v', hv', hR⟩ := hat j a hj
          have hv2 : ((cs.toList.drop o).take (sizeT B t))[j]? = some v := hv
          rw [List.getElem?_take, if_pos hlt, List.getElem?_drop, Array.getElem?_toList, hv'] at hv2
          cases hv2
          exact hR
        · cases hj
  · rw [hg1] at hg
    rw [atR_eq] at hs
    obtain ⟨_, v', hv', hR⟩ := hat 0 v hs
    refine ⟨v', ?_, hR⟩
    have hagg : (isAgg t).run P w = .ok false w := by
      unfold isAgg
      rw [Sem.run_bind, run_underlying hu w]
      cases d <;> first | rfl | cases hg
    have hc : w.cell? ⟨e.σ b, o, none⟩ = some v' := by rw [cell_of h1]; exact hv'
    simp [Instr.loadAt, Instr.sureAddr, loadVar, hagg, hc]
theorem op_load [FX] (ht : TbOk P B) (hr : Rep e s w) (hm : RTm e s.next ns tm a) {t : TypeId} {x : Operand} (ho : o.op = .load t x) (hk : knownT B t = true) (h : loadA (ev (mv ns x) tm) (aggT B t) (sizeT B t) s = .val v s') : OkV P e s w (execOp a.eval o) v s' := by
  obtain ⟨rfl, z, h1, h2⟩ := load_run ht hr hk (ev_R hm x) h
  refine okV_pure hr ?_ h2
  unfold execOp
  rw [ho]
  simp only [Sem.run_bind]
  rw [h1]
  rfl
theorem oneB_cell {x : AV} {u : Value} (hR : R e q x u) (h : oneB x = true) : u.oneCell' = true := by
  cases x <;> first | (cases h; done) | skip
  all_goals unfold R at hR
  all_goals first | (obtain ⟨_, rfl⟩ := hR) | (obtain ⟨_, _, rfl, _⟩ := hR) | (obtain ⟨_, rfl, _⟩ := hR) | (obtain ⟨_, _, rfl⟩ := hR) | (cases hR)
  all_goals first | rfl | skip
  cases u <;> first | rfl | (cases h; done)
/-- The cells of a value. -/
theorem cells_R [FX] {x : AV} {u : Value} (hR : R e q x u) (h : ∀ a ∈ cellsOf x, oneB a = true) : RL e q (cellsOf x) u.cells.toList := by
  cases x with
  | agg l => obtain ⟨cs, rfl, h1⟩ := hR; exact h1
  | _ =>
    have h1 := oneB_cell hR (h _ (List.mem_singleton.2 rfl))
    have h2 : u.cells.toList = [u] := by cases u <;> first | rfl | (cases h1; done)
    rw [h2]
    exact ⟨_, _, rfl, hR, rfl⟩
theorem oneL_all [FX] : ∀ {l : List AV}, oneL l = true → ∀ a ∈ l, oneB a = true
  | [], _, a, ha => (by cases ha)
  | b :: l, h, a, ha => by
    obtain ⟨h1, h2⟩ := and_inv (show and (oneB b) (oneL l) = true from h)
    rcases List.mem_cons.1 ha with rfl | ha
    · exact h1
    · exact oneL_all h2 a ha
/-- A row laid into a row. -/
theorem overR_at : ∀ (v l : List AV) (j : Nat), (overR v l)[j]? = if j < v.length ∧ j < l.length then v[j]? else l[j]?
  | [], l, j => by rw [show overR [] l = l from rfl]; simp
  | a :: v, [], j => by rw [show overR (a :: v) [] = [] from rfl]; simp
  | a :: v, b :: l, 0 => by rw [show overR (a :: v) (b :: l) = a :: overR v l from rfl]; simp
  | a :: v, b :: l, j + 1 => by
    rw [show overR (a :: v) (b :: l) = a :: overR v l from rfl, List.getElem?_cons_succ, overR_at v l j]
    simp
theorem overR_len : ∀ (v l : List AV), (overR v l).length = l.length
  | [], l => rfl
  | a :: v, [] => rfl
  | a :: v, b :: l => by rw [show overR (a :: v) (b :: l) = a :: overR v l from rfl, List.length_cons, overR_len v l]; rfl
theorem setR_at [FX] (v : List AV) : ∀ (o : Nat) (l : List AV) (j : Nat), (setR v o l)[j]? = if o ≤ j ∧ j < o + v.length ∧ j < l.length then v[j - o]? else l[j]?
  | 0, l, j => by rw [show setR v 0 l = overR v l from rfl, overR_at]; simp
  | o + 1, [], j => by rw [show setR v (o + 1) [] = [] from rfl]; simp
  | o + 1, a :: l, 0 => by rw [show setR v (o + 1) (a :: l) = a :: setR v o l from rfl]; simp
  | o + 1, a :: l, j + 1 => by
    rw [show setR v (o + 1) (a :: l) = a :: setR v o l from rfl, List.getElem?_cons_succ, setR_at v o l j, List.length_cons, List.getElem?_cons_succ]
    by_cases h : o ≤ j ∧ j < o + v.length ∧ j < l.length
    · rw [if_pos h, if_pos (by omega), show j + 1 - (o + 1) = j - o by omega]
    · rw [if_neg h, if_neg (by omega)]
theorem setR_len [FX] (v : List AV) : ∀ (o : Nat) (l : List AV), (setR v o l).length = l.length
  | 0, l => overR_len v l
  | o + 1, [] => rfl
  | o + 1, a :: l => by rw [show setR v (o + 1) (a :: l) = a :: setR v o l from rfl, List.length_cons, setR_len v o l]; rfl
/-- The world behind a row of stores. -/
theorem setCells_heap {b : Nat} {t : TypeId} {fz : Nat × Nat} : ∀ (vs : List Value) (o : Nat) (w : World) (cs : Array Value), w.heap[b]? = some (.cells cs t fz) →
    ∃ cs', (w.setCells b o vs).heap = w.heap.setIfInBounds b (.cells cs' t fz) ∧ cs'.size = cs.size ∧ (∀ j, cs'[j]? = if o ≤ j ∧ j < o + vs.length ∧ j < cs.size then vs[j - o]? else cs[j]?) ∧ (w.setCells b o vs).os = w.os ∧ (w.setCells b o vs).tape = w.tape ∧ (w.setCells b o vs).output = w.output
  | [], o, w, cs, h => by
    refine ⟨cs, ?_, rfl, fun j => by simp; omega, rfl, rfl, rfl⟩
    rw [World.setCells]
    apply Array.ext_getElem?
    intro i
    rw [Array.getElem?_setIfInBounds]
    split
    · rename_i hb; subst hb
      split
      · exact h
      · rename_i hlt; rw [Array.getElem?_eq_none (by omega)]
    · rfl
  | v :: vs, o, w, cs, h => by
    have h1 : (w.setCell ⟨b, o, none⟩ v).heap = w.heap.setIfInBounds b (.cells (cs.setIfInBounds o v) t fz) := by
      apply Array.ext_getElem?
      intro i
      unfold World.setCell
      rw [Array.getElem?_modify, Array.getElem?_setIfInBounds]
      by_cases hb : b = i
      · subst hb
        simp [h]
        exact (Array.getElem?_eq_some_iff.1 h).1
      · simp [hb]
    have h2 : (w.setCell ⟨b, o, none⟩ v).heap[b]? = some (.cells (cs.setIfInBounds o v) t fz) := by
      rw [h1, Array.getElem?_setIfInBounds]; simp; exact (Array.getElem?_eq_some_iff.1 h).1
    obtain ⟨cs', h3, h4, h5, h6, h7, h8⟩ := setCells_heap vs (o + 1) (w.setCell ⟨b, o, none⟩ v) _ h2
    refine ⟨cs', ?_, by rw [h4]; simp, fun j => ?_, h6, h7, h8⟩
    · rw [World.setCells, h3, h1]
      apply Array.ext_getElem?
      intro i
      simp only [Array.getElem?_setIfInBounds, Array.size_setIfInBounds]
      split <;> rfl
    · rw [h5 j, Array.size_setIfInBounds, Array.getElem?_setIfInBounds]
      by_cases hj : o = j
      · subst hj
        rw [if_neg (by omega), if_pos rfl]
        by_cases hs : o < cs.size
        · rw [if_pos hs, if_pos (by simp; omega)]; simp
        · rw [if_neg hs, if_neg (by omega)]; rw [Array.getElem?_eq_none (by omega)]
      · rw [if_neg hj]
        by_cases hc : o + 1 ≤ j ∧ j < o + 1 + vs.length ∧ j < cs.size
        · rw [if_pos hc, if_pos (by simp; omega), show j - o = (j - (o + 1)) + 1 by omega]; simp
        · rw [if_neg hc, if_neg (by simp; omega)]
theorem storeA_inv [FX] {p x : AV} {m : Nat} (h : storeA p m x s = .val v s') : ∃ b o c n size t r l, p = .ptr b o ∧ s.get b = some (.cells c n size t r) ∧ c.at_ (o / size) = some l ∧ v = und ∧ s' = s.put b (.cells (c.set (o / size) (setR (cellsOf x) (o % size) l)) n size t r) ∧ oneL (cellsOf x) = true ∧ (cellsOf x).length = m ∧ o % size + m ≤ size := by
  cases p <;> first | (cases h; done) | skip
  rename_i b o
  replace h : storeO (s.get b) m b o x s = .val v s' := h
  cases hg : s.get b with
  | none => rw [hg] at h; cases h
  | some ob =>
    rw [hg] at h
    cases ob <;> first | (cases h; done) | skip
    rename_i c n size t r
    refine ⟨b, o, c, n, size, t, r, ?_⟩
    rw [hg]
    replace h : storeE (c.at_ (o / size)) c n size t r b o (cellsOf x) m s = .val v s' := h
    cases hl : c.at_ (o / size) with
    | none => rw [hl] at h; cases h
    | some l =>
      rw [hl] at h
      replace h : Bool.rec (.bad 111) (.val und (s.put b (.cells (c.set (Nat.div o size) (setR (cellsOf x) (Nat.mod o size) l)) n size t r))) (and (oneL (cellsOf x)) (and (Nat.beq (lenR (cellsOf x)) m) (Nat.ble (Nat.add (Nat.mod o size) m) size))) = Nx.val v s' := h
      cases hc : and (oneL (cellsOf x)) (and (Nat.beq (lenR (cellsOf x)) m) (Nat.ble (Nat.add (Nat.mod o size) m) size)) with
      | false => rw [hc] at h; cases h
      | true =>
        rw [hc] at h
        obtain ⟨h1, h2⟩ := and_inv hc
        obtain ⟨h2, h3⟩ := and_inv h2
        have h2 := Nat.eq_of_beq_eq_true h2
        rw [lenR_eq] at h2
        injection h with h4 h5
        exact ⟨l, rfl, rfl, rfl, h4.symm, h5.symm, h1, h2, Nat.le_of_ble_eq_true h3⟩
theorem FzOk.free {fz : Nat × Nat} {n : Nat} (h : FzOk fz n) {o : Nat} (ho : o < n) : (decide (fz.1 ≤ o) && decide (o < fz.2)) = false := by
  rcases h with rfl | rfl
  · simp
  · simp; omega
theorem store_run [FX] (ht : TbOk P B) (hr : Rep e s w) {t : TypeId} (hk : knownT B t = true) {p x : AV} {u z : Value} (hp : R e s.next p u) (hx : R e s.next x z) (h : storeA p (sizeT B t) x s = .val v s') : v = und ∧ ∃ w', (Instr.storeAt t u z).run P w = .ok () w' ∧ Stp e s w e s' w' := by
  obtain ⟨ti, d, hi, hz, hu, hg, _⟩ := ht.info hk
  obtain ⟨b, o, c, m, size, et, r, l, rfl, hb, hl, rfl, rfl, hone, hlen, hfit⟩ := storeA_inv h
  refine ⟨rfl, ?_⟩
  obtain ⟨cs, fz, h1, h2, h3, h4, h5⟩ := hr.cells hb
  obtain ⟨h6, h7, h8⟩ := h5 _ _ hl
  obtain ⟨hbk, rfl⟩ := hp
  have hone := oneL_all hone
  have hcs := cells_R hx hone
  have hcl : z.cells.toList.length = sizeT B t := by rw [hcs.len, hlen]
  have hdm : o / size * size + o % size = o := by have := Nat.div_add_mod o size; rw [Nat.mul_comm] at this; omega
  have hsz : ∀ j, j < sizeT B t → o + j < cs.size := fun j hj => by
    have hj2 : o % size + j < l.length := by omega
    obtain ⟨_, v, hv, _⟩ := h8 _ _ (List.getElem?_eq_getElem hj2)
    have := (Array.getElem?_eq_some_iff.1 hv).1
    omega
  obtain ⟨cs', h9, h10, h11, h12, h13, h14⟩ := setCells_heap z.cells.toList o w cs h1
  refine ⟨w.setCells (e.σ b) o z.cells.toList, ?_, Stp.put hr hb _ _ ?_ h9 h12 h13 h14⟩
  · have hst := run_storeCells_cells (P := P) (e.σ b) o z.cells.toList 0 w (fun j hj => by rw [Nat.add_zero, cell_of h1, Array.getElem?_eq_getElem (hsz j (by omega))]; rfl)
      (fun j hj => by
        have := h2.free (hsz j (by omega))
        rw [Nat.add_zero]
        unfold World.frozen?
        simp only [h1]
        exact this)
      (fun v hv => by
        obtain ⟨j, hj, hjv⟩ := List.mem_iff_getElem.1 hv
        obtain ⟨v', hv', hR⟩ := hcs.at (List.getElem?_eq_getElem (show j < (cellsOf x).length by rw [hcl] at hj; omega))
        rw [List.getElem?_eq_getElem hj, hjv] at hv'
        cases hv'
        exact oneB_cell hR (hone _ (List.getElem_mem _)))
    rw [Nat.add_zero] at hst
    have hcs2 : z.cells.size = ti.size := by rw [← hz, ← hcl]; simp
    simp [Instr.storeAt, Instr.sureAddr, storeVar, sizeOf, typeInfo, hi, hcs2]
    rw [← hst]
  · refine ⟨cs', fz, rfl, by rw [h10]; exact h2, by rw [h10]; exact h3, h4, fun i k hik => ?_⟩
    rw [T.at_set] at hik
    by_cases hii : o / size = i
    · subst hii
      rw [if_pos rfl] at hik
      cases hik
      refine ⟨h6, by rw [setR_len]; exact h7, fun j a hj => ?_⟩
      rw [setR_at] at hj
      by_cases hc : o % size ≤ j ∧ j < o % size + (cellsOf x).length ∧ j < l.length
      · rw [if_pos hc] at hj
        obtain ⟨v', hv', hR⟩ := hcs.at hj
        refine ⟨hone _ (List.mem_of_getElem? hj), v', ?_, hR⟩
        have := hsz (j - o % size) (by omega)
        rw [h11, if_pos (by omega), show o / size * size + j - o = j - o % size by omega]
        exact hv'
      · rw [if_neg hc] at hj
        obtain ⟨h15, v', hv', hR⟩ := h8 j a hj
        refine ⟨h15, v', ?_, hR⟩
        have := (List.getElem?_eq_some_iff.1 hj).1
        rw [h11, if_neg (by omega)]
        exact hv'
    · rw [if_neg hii] at hik
      obtain ⟨h15, h16, h17⟩ := h5 i k hik
      refine ⟨h15, h16, fun j a hj => ?_⟩
      obtain ⟨h18, v', hv', hR⟩ := h17 j a hj
      refine ⟨h18, v', ?_, hR⟩
      have hjl := (List.getElem?_eq_some_iff.1 hj).1
      rw [h11, if_neg ?_]
      · exact hv'
      · rintro ⟨h19, h20, h21⟩
        rw [hcl] at h20
        rcases Nat.lt_trichotomy i (o / size) with hlt | heq | hgt
        · have : (i + 1) * size ≤ o / size * size := Nat.mul_le_mul_right _ hlt
          rw [Nat.succ_mul] at this; omega
        · exact hii heq.symm
        · have : (o / size + 1) * size ≤ i * size := Nat.mul_le_mul_right _ hgt
          rw [Nat.succ_mul] at this; omega
theorem op_store [FX] (ht : TbOk P B) (hr : Rep e s w) (hm : RTm e s.next ns tm a) {t : TypeId} {x y : Operand} (ho : o.op = .store t x y) (hk : knownT B t = true) (h : storeA (ev (mv ns x) tm) (sizeT B t) (ev (mv ns y) tm) s = .val v s') : OkV P e s w (execOp a.eval o) v s' := by
  obtain ⟨rfl, w', h1, h2⟩ := store_run ht hr hk (ev_R hm x) (ev_R hm y) h
  refine ⟨e, w', .skip, ?_, h2, .inr ⟨rfl, rfl⟩⟩
  unfold execOp
  rw [ho]
  simp only [Sem.run_bind]
  rw [h1]
  rfl
end
end Go.Proofs.YtiibijhldlillaaGreat.Eng
