/- A region's operations in two parts; a map's entries in another order. No condition beyond what each theorem says. -/
import Derived.Test.YtiibijhldlillaaGreatEg
import Derived.Maps.RangeRun
import Derived.Lib.IndexMore
import Derived.Sort.KeysCollected
import Derived.Sort.EncStr
namespace Go.Proofs.YtiibijhldlillaaGreat.Eng
/-- The region's first part leaves to the second; every other exit is the region's own. -/
def Cut (Q : Exit → Act → World → Prop) (K : Act → World → Prop) : Exit → Act → World → Prop
  | .normal, a, w => K a w
  | ex, a, w => Q ex a w
section
variable {P : Program} {ops : Array Oper} {Q : Exit → Act → World → Prop} {K : Act → World → Prop}
theorem Cut.lets (h : LetsOut (Cut Q K)) : LetsOut Q := let ⟨a, w, q⟩ := h; ⟨a, w, q⟩
theorem Oper.wp_cut [FX] {o : Oper} {a : Act} {w : World} {N N' : Act → World → Prop} (h : ∀ a w, N a w → N' a w) (hh : o.wp P a w N (Cut Q K)) : o.wp P a w N' Q := by
  unfold Oper.wp at *
  generalize (execOp a.eval o).run P w = r at *
  cases r with
  | ok n w' =>
    cases n <;> simp only [Oper.upon] at hh ⊢ <;>
      first
        | exact h _ _ hh
        | exact Calls.mono hh (fun e w'' he => by cases e <;> first | exact h _ _ he | exact Cut.lets he | exact he)
        | exact Rows.mono hh (fun _ _ he => h _ _ he)
  | halt x w' => cases x <;> simp only [Oper.upon] at hh ⊢ <;> exact hh
/-- **A region's operations in two parts.** -/
theorem wpList_app [FX] : ∀ (l l' : List Oper) {a : Act} {w : World}, wpList P ops (Cut Q (wpList P ops Q l')) l a w → wpList P ops Q (l ++ l') a w
  | [], l', a, w, h => h
  | o :: l, l', a, w, h => by
    rw [List.cons_append]
    unfold wpList at h ⊢
    split
    · rename_i hw
      rw [if_pos hw] at h
      exact h.imp (Oper.wp_cut fun a w => wpList_app l l') fun q => ⟨q.1, Cut.lets q.2⟩
    · rename_i hw
      rw [if_neg hw] at h
      exact wpList_app l l' h
theorem wpList_cut [FX] {l l' : List Oper} (e : ops.toList = l ++ l') {a : Act} {w : World} (h : wpList P ops (Cut Q (wpList P ops Q l')) l a w) : wpList P ops Q ops.toList a w := by
  rw [e]; exact wpList_app l l' h
end
/-- A map's entries may be told in another order. -/
theorem RO.perm {e : En} {k b : Nat} {kk : KK} {es es' : List (AV × AV)} {r : Obj} (hp : es'.Perm es) (h : RO e k b (.map kk es) r) : RO e k b (.map kk es') r := by
  obtain ⟨ents, clock, l, h1, h2, h3⟩ := h
  exact ⟨ents, clock, l, h1, h2, ⟨hp.trans h3.1.1, h3.1.2⟩, h3.2⟩
theorem Rep.perm [FX] {e : En} {s : St} {w : World} (h : Rep e s w) {b : Nat} {kk : KK} {es es' : List (AV × AV)} (hb : s.heap.at_ b = some (.map kk es)) (hp : es'.Perm es) {s' : St} (hn : s'.next = s.next) (hs : ∀ c, s'.heap.at_ c = if b = c then some (.map kk es') else s.heap.at_ c) : Rep e s' w := by
  have hold : ∀ c o, s'.heap.at_ c = some o → ∃ o', s.heap.at_ c = some o' ∧ ∀ r, RO e s.next c o' r → RO e s.next c o r := fun c o hc => by
    rw [hs] at hc
    by_cases hbc : b = c
    · subst hbc
      rw [if_pos rfl] at hc
      cases hc
      exact ⟨_, hb, fun r q => q.perm hp⟩
    · rw [if_neg hbc] at hc
      exact ⟨o, hc, fun r q => q⟩
  refine ⟨fun c o hc => ?_, fun c o c' o' hc hc' he => ?_, fun g o hg => ⟨(h.fx g o hg).1, fun c o' hc => ?_⟩⟩
  · obtain ⟨o', h1, h2⟩ := hold c o hc
    obtain ⟨q1, q2, r, q3, q4⟩ := h.obj c o' h1
    rw [hn]
    exact ⟨q1, q2, r, q3, h2 r q4⟩
  · obtain ⟨o1, h1, _⟩ := hold c o hc
    obtain ⟨o2, h2, _⟩ := hold c' o' hc'
    exact h.inj c o1 c' o2 h1 h2 he
  · obtain ⟨o1, h1, _⟩ := hold c o' hc
    exact (h.fx g o hg).2 c o1 h1

open Go.ChangeMaps (setBlock)
/-- The worlds are alike but for one block. -/
structure But (k : Nat) (w w' : World) : Prop where
  os : w'.os = w.os
  tape : w'.tape = w.tape
  output : w'.output = w.output
  size : w'.heap.size = w.heap.size
  at_ : ∀ j, j ≠ k → w'.heap[j]? = w.heap[j]?
theorem But.of {k : Nat} {w w1 : World} (h : w1 = w ∨ w1 = w.drew) (o : Obj) : But k w (setBlock w1 k o) := by
  rcases h with rfl | rfl
  · exact ⟨rfl, rfl, rfl, Array.size_setIfInBounds, fun j hj => Array.getElem?_setIfInBounds_ne (Ne.symm hj)⟩
  · exact ⟨rfl, rfl, rfl, Array.size_setIfInBounds, fun j hj => Array.getElem?_setIfInBounds_ne (Ne.symm hj)⟩
/-- A block that is none of the run's own turns. -/
theorem Stp.side [FX] {e0 e : En} {s0 s : St} {w0 w w' : World} (h : Stp e0 s0 w0 e s w) {k : Nat} (hk : w0.heap.size ≤ k) (hn : ∀ b o, s.heap.at_ b = some o → e.σ b ≠ k) (hf : ∀ g o, FX.F g = some o → g ≠ k) (hb : But k w w') : Stp e0 s0 w0 e s w' where
  rep := ⟨fun b o h1 => by
    obtain ⟨q1, q2, r, q3, q4⟩ := h.rep.obj b o h1
    exact ⟨q1, by rw [hb.size]; exact q2, r, by rw [hb.at_ _ (hn b o h1)]; exact q3, q4⟩, h.rep.inj, fun g o hg => ⟨by rw [hb.at_ _ (hf g o hg)]; exact (h.rep.fx g o hg).1, (h.rep.fx g o hg).2⟩⟩
  ext := h.ext
  nx := h.nx
  own := h.own
  os := hb.os.trans h.os
  tape := hb.tape.trans h.tape
  output := hb.output.trans h.output
  size := by rw [hb.size]; exact h.size
  kp := fun j hj hj' => by rw [hb.at_ _ (by omega)]; exact h.kp j hj hj'
  lg := h.lg
  fx := h.fx
/-- A block more, that is none of the run's own. -/
theorem Stp.more [FX] {e0 e : En} {s0 s : St} {w0 w : World} (h : Stp e0 s0 w0 e s w) (o : Obj) : Stp e0 s0 w0 e s (w.alloc o) where
  rep := ⟨fun b o' h1 => by
    obtain ⟨q1, q2, r, q3, q4⟩ := h.rep.obj b o' h1
    exact ⟨q1, by show _ < (w.heap.push o).size; simp; omega, r, by show (w.heap.push o)[_]? = _; rw [Array.getElem?_push, if_neg (by omega)]; exact q3, q4⟩, h.rep.inj, fun g o' hg => ⟨by
      have q := (h.rep.fx g o' hg).1
      have : g < w.heap.size := (Array.getElem?_eq_some_iff.1 q).1
      show (w.heap.push o)[_]? = _
      rw [Array.getElem?_push, if_neg (by omega)]; exact q, (h.rep.fx g o' hg).2⟩⟩
  ext := h.ext
  nx := h.nx
  own := h.own
  os := h.os
  tape := h.tape
  output := h.output
  size := by show _ ≤ (w.heap.push o).size; simp; have := h.size; omega
  kp := fun j hj hj' => by
    have := h.size
    show (w.heap.push o)[_]? = _
    rw [Array.getElem?_push, if_neg (by omega)]; exact h.kp j hj hj'
  lg := h.lg
  fx := h.fx
/-- A block that is none of the run's own stands, and stays none of its own. -/
def Off (e : En) (s : St) (w : World) (k : Nat) : Prop := k < w.heap.size ∧ ∀ b o, s.heap.at_ b = some o → e.σ b ≠ k
theorem Off.step [FX] {e e' : En} {s s' : St} {w w' : World} {k : Nat} (h : Off e s w k) (st : Stp e s w e' s' w') : Off e' s' w' k ∧ w'.heap[k]? = w.heap[k]? :=
  ⟨⟨Nat.lt_of_lt_of_le h.1 st.size, fun b o hb he => by
    rcases st.own b o hb with ⟨b0, o0, h1, h2⟩ | h1
    · exact h.2 b0 o0 h1 (h2.trans he)
    · have := h.1; omega⟩, st.kp k h.1 h.2⟩
/-- **A map is gone through**: what has come of it. -/
def Wk (q it : Nat) (es xs : List MapEntry) (w : World) : Prop :=
  ∃ ents clock seen, w.heap[q]? = some (.map ents clock) ∧ ents.toList = es ∧ Bo es clock ∧ w.heap[it]? = some (.mapIter (some q) clock seen clock) ∧ xs.Perm (es.filter fun x => seen.contains x.born)
theorem Wk.keep {q it : Nat} {es xs : List MapEntry} {w w' : World} (h : Wk q it es xs w) (h1 : w'.heap[q]? = w.heap[q]?) (h2 : w'.heap[it]? = w.heap[it]?) : Wk q it es xs w' := by
  obtain ⟨ents, clock, seen, a, b, c, d, f⟩ := h
  exact ⟨ents, clock, seen, h1.trans a, b, c, h2.trans d, f⟩
theorem wk_range {P : Program} {w : World} {t k e : TypeId} (ht : P.underlying t = some (.map k e)) {q clock : Nat} {ents : Array MapEntry} (hq : w.heap[q]? = some (.map ents clock)) (hb : Bo ents.toList clock) :
    (Instr.range t (.map (some q))).run P w = .ok (.pointer (some ⟨w.heap.size, 0, none⟩)) (w.alloc (.mapIter (some q) clock #[] clock)) ∧ Wk q w.heap.size ents.toList [] (w.alloc (.mapIter (some q) clock #[] clock)) := by
  refine ⟨run_range_map w t k e q ents clock ht hq, ents, clock, #[], ?_, rfl, hb, ?_, by simp⟩
  · have := (Array.getElem?_eq_some_iff.1 hq).1
    show (w.heap.push _)[_]? = _
    rw [Array.getElem?_push, if_neg (by omega)]; exact hq
  · show (w.heap.push _)[_]? = _
    simp
theorem pw_nodup {l : List MapEntry} (h : l.Pairwise (fun a b => a.born < b.born)) : (l.map (·.born)).Nodup := by
  rw [List.nodup_iff_pairwise_ne, List.pairwise_map]
  exact h.imp (fun h => Nat.ne_of_lt h)
theorem filter_push (seen : Array Nat) (e : MapEntry) : ∀ (l : List MapEntry), (l.map (·.born)).Nodup → e ∈ l → seen.contains e.born = false → (l.filter fun x => (seen.push e.born).contains x.born).Perm (l.filter (fun x => seen.contains x.born) ++ [e])
  | [], _, he, _ => by cases he
  | x :: l, hn, he, hs => by
    rw [List.map_cons, List.nodup_cons] at hn
    by_cases hx : x = e
    · subst hx
      have h1 : (seen.push x.born).contains x.born = true := by rw [contains_push, beq_self_eq_true, Bool.or_true]
      rw [List.filter_cons_of_pos (by simp), List.filter_cons_of_neg (p := fun y : MapEntry => seen.contains y.born) (by rw [hs]; simp)]
      have h2 : l.filter (fun y => (seen.push x.born).contains y.born) = l.filter (fun y => seen.contains y.born) := by
        apply List.filter_congr
        intro y hy
        rw [contains_push]
        have : (y.born == x.born) = false := beq_eq_false_iff_ne.2 (fun e => hn.1 (e ▸ List.mem_map.2 ⟨y, hy, rfl⟩))
        rw [this, Bool.or_false]
      rw [h2]
      exact (List.perm_append_singleton _ _).symm
    · have hel : e ∈ l := (List.mem_cons.1 he).resolve_left (fun h => hx h.symm)
      have ih := filter_push seen e l hn.2 hel hs
      have hne : (x.born == e.born) = false := beq_eq_false_iff_ne.2 (fun h => hn.1 (h ▸ List.mem_map.2 ⟨e, hel, rfl⟩))
      have h1 : (seen.push e.born).contains x.born = seen.contains x.born := by rw [contains_push, hne, Bool.or_false]
      cases hc : seen.contains x.born with
      | true =>
        rw [List.filter_cons_of_pos (p := fun y : MapEntry => (seen.push e.born).contains y.born) (by rw [h1, hc]), List.filter_cons_of_pos (p := fun y : MapEntry => seen.contains y.born) hc]
        exact ih.cons x
      | false =>
        rw [List.filter_cons_of_neg (p := fun y : MapEntry => (seen.push e.born).contains y.born) (by rw [h1, hc]; simp), List.filter_cons_of_neg (p := fun y : MapEntry => seen.contains y.born) (by rw [hc]; simp)]
        exact ih
/-- The step: nothing is left, or an entry comes that had not come. -/
theorem wk_next [FX] {P : Program} {q it : Nat} {es xs : List MapEntry} {w : World} (h : Wk q it es xs w) (hne : q ≠ it) (ty : TypeId) :
    (xs.Perm es ∧ (Instr.next (.pointer (some ⟨it, 0, none⟩)) false ty).run P w = .ok (.tuple #[.bool false]) w) ∨
    ∃ x ∈ es, x ∉ xs ∧ ∃ w', (Instr.next (.pointer (some ⟨it, 0, none⟩)) false ty).run P w = .ok (.tuple #[.bool true, x.key, x.val]) w' ∧ Wk q it es (xs ++ [x]) w' ∧ But it w w' ∧ ∀ w2 : World, w2.heap[q]? = w'.heap[q]? → w2.heap[it]? = w'.heap[it]? → (Instr.entry (.pointer (some ⟨it, 0, none⟩))).run P w2 = .ok (.tuple #[x.key, x.val]) w2 := by
  obtain ⟨ents, clock, seen, h1, rfl, h3, h4, h5⟩ := h
  have hnd := pw_nodup h3.2
  rcases run_next_at (P := P) w ty it q clock clock seen ents clock h4 h1 h3.1 (Nat.le_refl _) with ⟨h6, h7⟩ | ⟨x, hx, w1, hw1, h7⟩
  · refine .inl ⟨?_, h7⟩
    have hall : ents.toList.filter (fun x => seen.contains x.born) = ents.toList := by
      rw [List.filter_eq_self]
      intro y hy
      cases hc : seen.contains y.born with
      | true => rfl
      | false =>
        have : y ∈ leftOf ents seen := by
          unfold leftOf
          exact Array.mem_filter.2 ⟨Array.mem_toList_iff.1 hy, by rw [hc]; rfl⟩
        obtain ⟨i, hi, _⟩ := Array.mem_iff_getElem.1 this
        omega
    rw [hall] at h5
    exact h5
  · obtain ⟨hm, hc⟩ := mem_left hx
    have hit : it < w.heap.size := (Array.getElem?_eq_some_iff.1 h4).1
    have hq' : ∀ o, (setBlock w1 it o).heap[q]? = some (.map ents clock) := fun o => by rw [(But.of hw1 o).at_ _ hne]; exact h1
    have hit' : ∀ o, (setBlock w1 it o).heap[it]? = some o := fun o => by rcases hw1 with rfl | rfl <;> exact Array.getElem?_setIfInBounds_self_of_lt hit
    refine .inr ⟨x, hm, fun hx' => ?_, _, h7, ⟨ents, clock, seen.push x.born, hq' _, rfl, h3, hit' _, ?_⟩, But.of hw1 _, fun w2 h8 h9 => run_entry_at w2 it q clock seen ents clock x (h9.trans (hit' _)) (h8.trans (hq' _)) hm hnd⟩
    · have := (List.mem_filter.1 (h5.mem_iff.1 hx')).2
      rw [hc] at this
      cases this
    · exact (h5.append_right [x]).trans (filter_push seen x _ hnd hm hc).symm

/-- Objects laid into the memory. -/
noncomputable def layA (l : List (Nat × AObj)) (h : T AObj) : T AObj := List.rec h (fun p _ ih => ih.set p.1 p.2) l
theorem layA_at {h : T AObj} : ∀ (l : List (Nat × AObj)) {b : Nat} {o : AObj}, (layA l h).at_ b = some o → (∃ x ∈ l, x.1 = b ∧ o = x.2) ∨ ((∀ x ∈ l, x.1 ≠ b) ∧ h.at_ b = some o)
  | [], b, o, hb => .inr ⟨fun x hx => by simp at hx, hb⟩
  | x :: l, b, o, hb => by
    replace hb : ((layA l h).set x.1 x.2).at_ b = some o := hb
    rw [T.at_set] at hb
    by_cases hx : x.1 = b
    · rw [if_pos hx] at hb
      cases hb
      exact .inl ⟨x, by simp, hx, rfl⟩
    · rw [if_neg hx] at hb
      rcases layA_at l hb with ⟨y, h1, h2⟩ | ⟨h1, h2⟩
      · exact .inl ⟨y, by simp [h1], h2⟩
      · refine .inr ⟨fun y hy => ?_, h2⟩
        rcases List.mem_cons.1 hy with rfl | hy
        · exact hx
        · exact h1 y hy
theorem layA_ne {h : T AObj} : ∀ (l : List (Nat × AObj)) {b : Nat}, (∀ x ∈ l, x.1 ≠ b) → (layA l h).at_ b = h.at_ b
  | [], b, _ => rfl
  | x :: l, b, hn => by
    show ((layA l h).set x.1 x.2).at_ b = _
    rw [T.at_set, if_neg (hn x (by simp)), layA_ne l fun y hy => hn y (by simp [hy])]
/-- Objects that are there, as they are told. -/
def Lies (e : En) (c0 : Nat) (h : T AObj) (l : List (Nat × AObj)) : Prop := ∀ x ∈ l, c0 ≤ x.1 ∧ ∃ oG, h.at_ x.1 = some oG ∧ ∀ k r, RO e k x.1 oG r → RO e k x.1 x.2 r
/-- What a call leaves, from the empty memory on. -/
def Loc [FX] (P : Program) (f : Nat) (args : List AV) (c0 c1 : Nat) (v : AV) (l : List (Nat × AObj)) : Prop := ∀ (e : En) (w : World) (vs : Array Value), Rep e ⟨.leaf, c0, []⟩ w → Gl e c0 → RL e c0 args vs.toList →
  ∀ {o : Oper} {a : Act} {K : Act → World → Prop} {Q : Exit → Act → World → Prop}, (∀ e' w' u g, Stp e ⟨.leaf, c0, []⟩ w e' g w' → g.next ≤ c1 → Lies e' c0 g.heap l → R e' c1 v u → K (a.put o.dst u) w') → o.upon P a K Q ((callFunc f vs).run P w)
/-- **At the empty memory, so at any**: where the numbers have not come to those that it takes. -/
theorem loc_ok [FX] {P : Program} {f : Nat} {args : List AV} {c0 c1 : Nat} {v : AV} {l : List (Nat × AObj)} (hL : Loc P f args c0 c1 v l) {s : St} {e : En} {w : World} {vs : Array Value} (hle : s.next ≤ c0) (hr : Rep e s w) (hgl : Gl e s.next) (hl : RL e s.next args vs.toList)
    {o : Oper} {a : Act} {K : Act → World → Prop} {Q : Exit → Act → World → Prop} (hK : ∀ e' w' u, Stp e s w e' ⟨layA l s.heap, c1, s.wr⟩ w' → R e' c1 v u → K (a.put o.dst u) w') : o.upon P a K Q ((callFunc f vs).run P w) := by
  have hr0 : Rep e ⟨.leaf, c0, []⟩ w := Rep.none (fun g o hg => (hr.fx g o hg).1) c0
  refine hL e w vs hr0 (hgl.ext (Ext.refl _ _) hle) (hl.ext (Ext.refl _ _) hle) fun e' w' u g st hg1 hob hu => ?_
  have hnx : c0 ≤ g.next := st.nx
  have hext : Ext c0 e e' := st.ext
  have hlit : ∀ x ∈ l, ∃ oG, g.heap.at_ x.1 = some oG ∧ ∀ k r, RO e' k x.1 oG r → RO e' k x.1 x.2 r := fun x hx => (hob x hx).2
  have hnone : ∀ b o, (⟨.leaf, c0, []⟩ : St).heap.at_ b = some o → False := fun b o hb => by rw [show (⟨.leaf, c0, []⟩ : St).heap = .leaf from rfl, T.at_leaf] at hb; cases hb
  have hfar : ∀ {b oG}, g.heap.at_ b = some oG → w.heap.size ≤ e'.σ b := fun {b oG} hb => by
    rcases st.own b oG hb with ⟨b0, o0, q, _⟩ | q
    · exact (hnone b0 o0 q).elim
    · exact q
  have hold : ∀ {b o}, s.heap.at_ b = some o → b < s.next ∧ e'.σ b = e.σ b ∧ e.σ b < w.heap.size ∧ ∃ r, w'.heap[e'.σ b]? = some r ∧ RO e' c1 b o r := fun {b o} hb => by
    obtain ⟨q1, q2, r, q3, q4⟩ := hr.obj b o hb
    have q5 := (hext b (by omega)).1
    refine ⟨q1, q5, q2, r, ?_, q4.ext (fun b' hb' => hext b' (by omega)) (by omega) q1⟩
    rw [q5, st.kp _ q2 fun b1 o1 hb1 => (hnone b1 o1 hb1).elim]
    exact q3
  refine hK e' w' u ?_ hu
  exact {
    rep := ⟨fun b o hb => by
      rcases layA_at l hb with ⟨x, hx, rfl, rfl⟩ | ⟨_, hb2⟩
      · obtain ⟨oG, q1, q2⟩ := hlit x hx
        obtain ⟨q3, q4, r, q5, q6⟩ := st.rep.obj x.1 oG q1
        exact ⟨show x.1 < c1 by omega, q4, r, q5, (q2 _ _ q6).mono hg1⟩
      · obtain ⟨q1, q2, q3, r, q4, q5⟩ := hold hb2
        exact ⟨show b < c1 by omega, by rw [q2]; exact Nat.lt_of_lt_of_le q3 st.size, r, q4, q5⟩, fun b o b' o' hb hb' he => by
      rcases layA_at l hb with ⟨x, hx, rfl, rfl⟩ | ⟨_, hb2⟩ <;> rcases layA_at l hb' with ⟨x', hx', rfl, rfl⟩ | ⟨_, hb2'⟩
      · obtain ⟨oG, q1, _⟩ := hlit x hx
        obtain ⟨oG', q1', _⟩ := hlit x' hx'
        exact st.rep.inj _ _ _ _ q1 q1' he
      · obtain ⟨oG, q1, _⟩ := hlit x hx
        obtain ⟨_, q2, q3, _⟩ := hold hb2'
        have := hfar q1
        omega
      · obtain ⟨oG, q1, _⟩ := hlit x' hx'
        obtain ⟨_, q2, q3, _⟩ := hold hb2
        have := hfar q1
        omega
      · obtain ⟨_, q2, _⟩ := hold hb2
        obtain ⟨_, q2', _⟩ := hold hb2'
        exact hr.inj _ _ _ _ hb2 hb2' (by rw [← q2, ← q2']; exact he), fun g o hg => by
      have q := st.rep.fx g o hg
      refine ⟨q.1, fun b o' hb => ?_⟩
      rcases layA_at l hb with ⟨x, hx, rfl, rfl⟩ | ⟨_, hb2⟩
      · obtain ⟨oG, q1, _⟩ := hlit x hx
        exact q.2 x.1 oG q1
      · rw [(hold hb2).2.1]
        exact (hr.fx g o hg).2 b o' hb2⟩
    fx := st.fx
    ext := fun b hb => hext b (by omega)
    nx := show s.next ≤ c1 by omega
    own := fun b o hb => by
      rcases layA_at l hb with ⟨x, hx, rfl, rfl⟩ | ⟨_, hb2⟩
      · obtain ⟨oG, q1, _⟩ := hlit x hx
        exact .inr (hfar q1)
      · exact .inl ⟨b, o, hb2, (hold hb2).2.1.symm⟩
    os := st.os
    tape := st.tape
    output := st.output
    size := st.size
    kp := fun k hk _ => st.kp k hk fun b o hb => (hnone b o hb).elim
    lg := ⟨[], rfl, fun b hb _ => layA_ne l fun x hx he => by
      have := (hob x hx).1
      omega⟩ }

/-- Does one list begin the other? -/
noncomputable def pre (p : List Nat) : List Nat → Bool := List.rec (fun _ => true) (fun a _ ih l => List.rec false (fun b l _ => Bool.rec false (ih l) (Nat.beq a b)) l) p
noncomputable def cont (p l : List Nat) : Bool := List.rec (pre p []) (fun b l ih => Bool.rec ih true (pre p (b :: l))) l
theorem ofNat_beq {a b : Nat} (ha : a < 256) (hb : b < 256) : (UInt8.ofNat a == UInt8.ofNat b) = Nat.beq a b := by
  cases h : Nat.beq a b with
  | true => rw [Nat.eq_of_beq_eq_true h]; exact beq_self_eq_true _
  | false =>
    refine beq_eq_false_iff_ne.2 fun he => ?_
    have h1 := congrArg UInt8.toNat he
    rw [UInt8.toNat_ofNat_of_lt' ha, UInt8.toNat_ofNat_of_lt' hb] at h1
    rw [h1] at h
    exact absurd (Nat.beq_refl b) (by rw [h]; decide)
theorem pre_eq [FX] : ∀ {p l : List Nat}, (∀ b ∈ p, b < 256) → (∀ b ∈ l, b < 256) → pre p l = (p.map UInt8.ofNat).isPrefixOf (l.map UInt8.ofNat)
  | [], _, _, _ => rfl
  | _ :: _, [], _, _ => rfl
  | a :: p, b :: l, hp, hl => by
    show (Bool.rec false (pre p l) (Nat.beq a b) : Bool) = (UInt8.ofNat a == UInt8.ofNat b && (p.map UInt8.ofNat).isPrefixOf (l.map UInt8.ofNat))
    rw [pre_eq (fun b hb => hp b (by simp [hb])) (fun b hb => hl b (by simp [hb])), ofNat_beq (hp a (by simp)) (hl b (by simp))]
    cases Nat.beq a b <;> rfl
theorem cont_eq [FX] {p : List Nat} (hp : ∀ b ∈ p, b < 256) : ∀ {l : List Nat}, (∀ b ∈ l, b < 256) → cont p l = Lib.contains (l.map UInt8.ofNat) (p.map UInt8.ofNat)
  | [], _ => by cases p <;> rfl
  | b :: l, hl => by
    have ih := cont_eq hp (l := l) (fun b hb => hl b (by simp [hb]))
    have hpre := pre_eq hp hl
    show (Bool.rec (cont p l) true (pre p (b :: l)) : Bool) = _
    rw [ih, hpre]
    unfold Lib.contains
    rw [List.map_cons, Lib.index]
    cases h : (p.map UInt8.ofNat).isPrefixOf (UInt8.ofNat b :: l.map UInt8.ofNat) with
    | true => rfl
    | false =>
      show decide _ = _
      by_cases h2 : Lib.index (l.map UInt8.ofNat) (p.map UInt8.ofNat) = -1
      · simp [h2]
      · have hge : -1 ≤ Lib.index (l.map UInt8.ofNat) (p.map UInt8.ofNat) := Lib.index_ge _ _
        simp [h2]
        omega
/-- A hook: whether the first string holds the second. -/
noncomputable def contX (s : St) : List AV → Option (AV × St)
  | [.str a, .str b] => Bool.rec none (some (.bool (cont b a), s)) (Nat.ble (lenR a) 4294967280)
  | _ => none
theorem contX_inv {s s' : St} {v : AV} {l : List AV} (h : contX s l = some (v, s')) : ∃ a b, l = [.str a, .str b] ∧ lenR a < 4294967281 ∧ v = .bool (cont b a) ∧ s' = s := by
  unfold contX at h
  split at h
  · rename_i a b
    cases hb : Nat.ble (lenR a) 4294967280 with
    | false => rw [hb] at h; cases h
    | true =>
      rw [hb] at h
      have h1 := Nat.le_of_ble_eq_true hb
      injection (show some (AV.bool (cont b a), s) = some (v, s') from h) with h
      injection h with h2 h3
      exact ⟨a, b, rfl, by omega, h2.symm, h3.symm⟩
  · cases h
/-- Two strings, as they lie. -/
theorem two_strs {e : En} {k : Nat} {a b : List Nat} {vs : Array Value} (h : RL e k [.str a, .str b] vs.toList) : (∀ c ∈ a, c < 256) ∧ (∀ c ∈ b, c < 256) ∧ vs = #[.string (bys a), .string (bys b)] := by
  obtain ⟨v, us, h1, ⟨h2, rfl⟩, v', us', rfl, ⟨h3, rfl⟩, h4⟩ := h
  refine ⟨h2, h3, ?_⟩
  have : us' = [] := h4
  subst this
  exact Array.toList_inj.1 h1
/-- A call that answers and leaves the world: the hook's promise. -/
theorem pure_upon [FX] {P : Program} {f : Nat} {vs : Array Value} {e : En} {s : St} {w : World} (hr : Rep e s w) {v : AV} {u : Value} (hen : (callFunc f vs).run P w = .ok (.enter f vs) w) (hc : Calls P f vs w fun en w' => en = .returned u ∧ w' = w) (hu : R e s.next v u)
    {o : Oper} {a : Act} {K : Act → World → Prop} {Q : Exit → Act → World → Prop} (hK : ∀ e' w' u, Stp e s w e' s w' → R e' s.next v u → K (a.put o.dst u) w') : o.upon P a K Q ((callFunc f vs).run P w) := by
  rw [hen, Oper.upon_enter]
  refine hc.mono fun en w' h => ?_
  obtain ⟨rfl, rfl⟩ := h
  exact hK e _ u (Stp.refl hr) hu

open Go.RowKit (Below)
open Go.Proofs (encStr)
open Go.WideElems (Fit rd rg)
/-- A new object at a block that a call has made. -/
theorem Stp.far [FX] {e : En} {s : St} {w w' : World} (h : Rep e s w) (hb : Below w.heap.size w w') (o : AObj) (r : Obj) (c g : Nat) (hg : w.heap.size ≤ g) (hr : w'.heap[g]? = some r) (ho : RO (e.up s.next g c) (s.next + 1) s.next o r) : Stp e s w (e.up s.next g c) (s.add o) w' where
  rep := by
    have hgl : g < w'.heap.size := (Array.getElem?_eq_some_iff.1 hr).1
    refine ⟨fun b o' hb' => ?_, fun b o1 b' o2 hb1 hb2 he => ?_, fun g' o' hg' => ?_⟩
    · change (s.heap.set s.next o).at_ b = some o' at hb'
      rw [T.at_set] at hb'
      by_cases hk : s.next = b
      · rw [if_pos hk] at hb'
        cases hb'
        subst hk
        refine ⟨Nat.lt_succ_self _, by simpa [En.up] using hgl, r, by simpa [En.up] using hr, ho⟩
      · rw [if_neg hk] at hb'
        obtain ⟨h1, h2, r', h3, h4⟩ := h.obj b o' hb'
        have hσ : (e.up s.next g c).σ b = e.σ b := (En.up_ext e _ _ _ b h1).1
        rw [hσ]
        exact ⟨Nat.lt_succ_of_lt h1, Nat.lt_of_lt_of_le h2 hb.size, r', by rw [hb.block _ h2]; exact h3, h4.ext (En.up_ext e _ _ _) (Nat.le_succ _) h1⟩
    · change (s.heap.set s.next o).at_ b = some o1 at hb1
      change (s.heap.set s.next o).at_ b' = some o2 at hb2
      rw [T.at_set] at hb1 hb2
      by_cases hk : s.next = b <;> by_cases hk' : s.next = b'
      · omega
      · rw [if_neg hk'] at hb2
        obtain ⟨h1, h2, _⟩ := h.obj b' o2 hb2
        rw [(En.up_ext e _ _ _ b' h1).1, ← hk] at he
        simp [En.up] at he
        omega
      · rw [if_neg hk] at hb1
        obtain ⟨h1, h2, _⟩ := h.obj b o1 hb1
        rw [(En.up_ext e _ _ _ b h1).1, ← hk'] at he
        simp [En.up] at he
        omega
      · rw [if_neg hk] at hb1
        rw [if_neg hk'] at hb2
        obtain ⟨h1, _⟩ := h.obj b o1 hb1
        obtain ⟨h2, _⟩ := h.obj b' o2 hb2
        rw [(En.up_ext e _ _ _ b h1).1, (En.up_ext e _ _ _ b' h2).1] at he
        exact h.inj b o1 b' o2 hb1 hb2 he
    · obtain ⟨q1, q2⟩ := h.fx g' o' hg'
      have hlt := (Array.getElem?_eq_some_iff.1 q1).1
      refine ⟨by rw [hb.block _ hlt]; exact q1, fun b o2 hb2 => ?_⟩
      change (s.heap.set s.next o).at_ b = some o2 at hb2
      rw [T.at_set] at hb2
      by_cases hk : s.next = b
      · subst hk
        simp only [En.up, if_true]
        omega
      · rw [if_neg hk] at hb2
        rw [(En.up_ext e _ _ _ b (h.obj b o2 hb2).1).1]
        exact q2 b o2 hb2
  ext := En.up_ext e _ _ _
  nx := Nat.le_succ _
  own := fun b o' hb' => by
    change (s.heap.set s.next o).at_ b = some o' at hb'
    rw [T.at_set] at hb'
    by_cases hk : s.next = b
    · subst hk; right; simpa [En.up] using hg
    · rw [if_neg hk] at hb'
      exact .inl ⟨b, o', hb', ((En.up_ext e _ _ _ b (h.obj b o' hb').1).1).symm⟩
  os := hb.os
  tape := hb.tape
  output := hb.output
  size := hb.size
  kp := fun k hk _ => hb.block k hk
  lg := ⟨[], rfl, fun b hb' _ => by
    show (s.heap.set s.next o).at_ b = _
    rw [T.at_set, if_neg (by omega)]⟩
  fx := rfl

/-- Into a sorted row. -/
noncomputable def insS (a : List Nat) (l : List (List Nat)) : List (List Nat) := List.rec [a] (fun b l ih => Bool.rec (a :: b :: l) (b :: ih) (ltL b a)) l
noncomputable def sortR (l : List (List Nat)) : List (List Nat) := List.rec [] (fun a _ ih => insS a ih) l
noncomputable def allLt (a : List Nat) (l : List (List Nat)) : Bool := List.rec true (fun b _ ih => and (ltL a b) ih) l
/-- Each below all that come behind it. -/
noncomputable def upB (l : List (List Nat)) : Bool := List.rec true (fun a l ih => and (allLt a l) ih) l
def keyS : AV → Option (List Nat)
  | .str l => some l
  | _ => none
noncomputable def keysR (es : List (AV × AV)) : Option (List (List Nat)) := List.rec (some []) (fun e _ ih => Option.rec none (fun k => Option.rec none (fun r => some (k :: r)) ih) (keyS e.1)) es
noncomputable def shortR (l : List (List Nat)) : Bool := List.rec true (fun a _ ih => and (Nat.ble (lenR a) 1000000) ih) l
def strC (l : List Nat) : List AV := [.str l]
noncomputable def sortL (tk : Nat) (r : List (List Nat)) (s : St) : Option (AV × St) := Bool.rec none (some (.slc s.next 0 (lenR r) (.gap 0), s.add (.cells (putE (mapR strC r) 0 .leaf) (lenR r) 1 tk true))) (and (and (upB r) (shortR r)) (Nat.ble (lenR r) 1000000))
noncomputable def sortK (tk : Nat) : Option (List (List Nat)) → St → Option (AV × St)
  | some (k :: ks) => fun s => sortL tk (sortR (k :: ks)) s
  | _ => fun _ => none
noncomputable def sortO (tk : Nat) : Option AObj → St → Option (AV × St)
  | some (.map .str es) => fun s => sortK tk (keysR es) s
  | _ => fun _ => none
noncomputable def sortM (tk : Nat) : Option (List AV) → St → Option (AV × St)
  | some [.map q] => fun s => sortO tk (s.get q) s
  | _ => fun _ => none
noncomputable def sortC (tk : Nat) : Option AObj → St → Option (AV × St)
  | some (.cells c _ 1 _ _) => fun s => sortM tk (c.at_ 0) s
  | _ => fun _ => none
/-- A hook: the keys of a map, sorted. -/
noncomputable def sortX (g tk : Nat) (s : St) : List AV → Option (AV × St)
  | [.fn f [] [.ptr b 0]] => Bool.rec none (sortC tk (s.get b) s) (Nat.beq f g)
  | _ => none
theorem sortK_inv {tk : Nat} {x : Option (List (List Nat))} {s : St} {r : AV × St} (h : sortK tk x s = some r) : ∃ k ks, x = some (k :: ks) ∧ sortL tk (sortR (k :: ks)) s = some r := by
  rcases x with _ | _ | ⟨k, ks⟩
  · cases h
  · cases h
  · exact ⟨k, ks, rfl, h⟩
theorem sortO_inv {tk : Nat} {x : Option AObj} {s : St} {r : AV × St} (h : sortO tk x s = some r) : ∃ es, x = some (.map .str es) ∧ sortK tk (keysR es) s = some r := by
  rcases x with _ | ⟨_ | ⟨kk, es⟩ | _⟩
  · cases h
  · cases h
  · cases kk <;> first | (cases h; done) | exact ⟨es, rfl, h⟩
  · cases h
theorem sortM_inv {tk : Nat} {x : Option (List AV)} {s : St} {r : AV × St} (h : sortM tk x s = some r) : ∃ q, x = some [.map q] ∧ sortO tk (s.get q) s = some r := by
  unfold sortM at h
  split at h
  · exact ⟨_, rfl, h⟩
  · cases h
theorem sortC_inv {tk : Nat} {x : Option AObj} {s : St} {r : AV × St} (h : sortC tk x s = some r) : ∃ c n t rm, x = some (.cells c n 1 t rm) ∧ sortM tk (c.at_ 0) s = some r := by
  unfold sortC at h
  split at h
  · exact ⟨_, _, _, _, rfl, h⟩
  · cases h
theorem sortX_inv [FX] {g tk : Nat} {s s' : St} {args : List AV} {v : AV} (h : sortX g tk s args = some (v, s')) : ∃ b c n t rm q es k ks, args = [.fn g [] [.ptr b 0]] ∧ s.get b = some (.cells c n 1 t rm) ∧ c.at_ 0 = some [.map q] ∧ s.get q = some (.map .str es) ∧ keysR es = some (k :: ks) ∧ upB (sortR (k :: ks)) = true ∧ shortR (sortR (k :: ks)) = true ∧ (sortR (k :: ks)).length ≤ 1000000 ∧ v = .slc s.next 0 (sortR (k :: ks)).length (.gap 0) ∧ s' = s.add (.cells (putE (mapR strC (sortR (k :: ks))) 0 .leaf) (sortR (k :: ks)).length 1 tk true) := by
  unfold sortX at h
  split at h <;> first | (cases h; done) | skip
  rename_i f b
  cases hg : Nat.beq f g with
  | false => rw [hg] at h; cases h
  | true =>
    rw [hg] at h
    have hg := Nat.eq_of_beq_eq_true hg
    subst hg
    obtain ⟨c, n, t, rm, h1, h⟩ := sortC_inv (show sortC tk (s.get b) s = some (v, s') from h)
    obtain ⟨q, h2, h⟩ := sortM_inv h
    obtain ⟨es, h3, h⟩ := sortO_inv h
    obtain ⟨k, ks, h4, h⟩ := sortK_inv h
    unfold sortL at h
    cases h5 : and (and (upB (sortR (k :: ks))) (shortR (sortR (k :: ks)))) (Nat.ble (lenR (sortR (k :: ks))) 1000000) with
    | false => rw [h5] at h; cases h
    | true =>
      rw [h5] at h
      have h5 := (Bool.and_eq_true _ _).mp h5
      have h6 := (Bool.and_eq_true _ _).mp h5.1
      have h7 := Nat.le_of_ble_eq_true h5.2
      rw [lenR_eq] at h7
      injection (show some (AV.slc s.next 0 (lenR (sortR (k :: ks))) (.gap 0), s.add (.cells (putE (mapR strC (sortR (k :: ks))) 0 .leaf) (lenR (sortR (k :: ks))) 1 tk true)) = some (v, s') from h) with h
      injection h with h8 h9
      rw [lenR_eq] at h8 h9
      exact ⟨b, c, n, t, rm, q, es, k, ks, rfl, h1, h2, h3, h4, h6.1, h6.2, h7, h8.symm, h9.symm⟩
theorem insS_perm (a : List Nat) : ∀ l, (insS a l).Perm (a :: l)
  | [] => .refl _
  | b :: l => by
    show (Bool.rec (a :: b :: l) (b :: insS a l) (ltL b a) : List (List Nat)).Perm _
    cases ltL b a with
    | false => exact .refl _
    | true => exact ((insS_perm a l).cons b).trans (.swap a b l)
theorem sortR_perm [FX] : ∀ l, (sortR l).Perm l
  | [] => .refl _
  | a :: l => (insS_perm a (sortR l)).trans ((sortR_perm l).cons a)
theorem allLt_mem {a : List Nat} : ∀ {l : List (List Nat)}, allLt a l = true → ∀ b ∈ l, ltL a b = true
  | [], _, b, hb => by cases hb
  | x :: l, h, b, hb => by
    have h := (Bool.and_eq_true _ _).mp (show and (ltL a x) (allLt a l) = true from h)
    rcases List.mem_cons.1 hb with rfl | hb
    · exact h.1
    · exact allLt_mem h.2 b hb
theorem upB_pw [FX] : ∀ {l : List (List Nat)}, upB l = true → l.Pairwise fun a b => ltL a b = true
  | [], _ => .nil
  | x :: l, h => by
    have h := (Bool.and_eq_true _ _).mp (show and (allLt x l) (upB l) = true from h)
    exact .cons (allLt_mem h.1) (upB_pw h.2)
theorem shortR_mem : ∀ {l : List (List Nat)}, shortR l = true → ∀ b ∈ l, b.length ≤ 1000000
  | [], _, b, hb => by cases hb
  | x :: l, h, b, hb => by
    have h := (Bool.and_eq_true _ _).mp (show and (Nat.ble (lenR x) 1000000) (shortR l) = true from h)
    rcases List.mem_cons.1 hb with rfl | hb
    · have := Nat.le_of_ble_eq_true h.1
      rwa [lenR_eq] at this
    · exact shortR_mem h.2 b hb
theorem keysR_inv : ∀ {es : List (AV × AV)} {ks : List (List Nat)}, keysR es = some ks → es.map Prod.fst = ks.map AV.str
  | [], ks, h => by cases h; rfl
  | p :: es, ks, h => by
    replace h : (Option.rec none (fun k => Option.rec none (fun r => some (k :: r)) (keysR es)) (keyS p.1) : Option (List (List Nat))) = some ks := h
    cases h1 : keyS p.1 with
    | none => rw [h1] at h; cases h
    | some k =>
      rw [h1] at h
      replace h : (Option.rec none (fun r => some (k :: r)) (keysR es) : Option (List (List Nat))) = some ks := h
      cases h2 : keysR es with
      | none => rw [h2] at h; cases h
      | some r =>
        rw [h2] at h
        injection (show some (k :: r) = some ks from h) with h
        subst h
        have h3 : p.1 = .str k := by
          cases hp : p.1 <;> rw [hp] at h1 <;> first | (cases h1; done) | skip
          cases h1; rfl
        rw [List.map_cons, List.map_cons, keysR_inv h2, h3]
/-- Bytes as the program has them. -/
def mo (l : List Nat) : List UInt8 := l.map UInt8.ofNat
theorem bys_enc (l : List Nat) : Value.string (bys l) = encStr (mo l) := rfl
theorem mo_inj [FX] : ∀ {a b : List Nat}, (∀ x ∈ a, x < 256) → (∀ x ∈ b, x < 256) → mo a = mo b → a = b
  | [], [], _, _, _ => rfl
  | [], _ :: _, _, _, h => by cases h
  | _ :: _, [], _, _, h => by cases h
  | x :: a, y :: b, ha, hb, h => by
    injection (show UInt8.ofNat x :: mo a = UInt8.ofNat y :: mo b from h) with h1 h2
    rw [(u8_inj (ha x (by simp)) (hb y (by simp))).1 h1, mo_inj (fun z hz => ha z (by simp [hz])) (fun z hz => hb z (by simp [hz])) h2]
theorem ltL_lt : ∀ {a b : List Nat}, (∀ x ∈ a, x < 256) → (∀ x ∈ b, x < 256) → ltL a b = true → mo a < mo b
  | [], [], _, _, h => by cases h
  | [], _ :: _, _, _, _ => List.nil_lt_cons _ _
  | _ :: _, [], _, _, h => by cases h
  | x :: a, y :: b, ha, hb, h => by
    have hx := ha x (by simp)
    have hy := hb y (by simp)
    replace h : (Bool.rec (Bool.rec false (ltL a b) (Nat.beq x y)) true (Nat.ble (x + 1) y) : Bool) = true := h
    show UInt8.ofNat x :: mo a < UInt8.ofNat y :: mo b
    rw [List.cons_lt_cons_iff]
    cases h1 : Nat.ble (x + 1) y with
    | true =>
      have := Nat.le_of_ble_eq_true h1
      left
      rw [UInt8.lt_iff_toNat_lt, UInt8.toNat_ofNat_of_lt' hx, UInt8.toNat_ofNat_of_lt' hy]
      omega
    | false =>
      rw [h1] at h
      replace h : (Bool.rec false (ltL a b) (Nat.beq x y) : Bool) = true := h
      cases h2 : Nat.beq x y with
      | false => rw [h2] at h; cases h
      | true =>
        rw [h2] at h
        right
        exact ⟨by rw [Nat.eq_of_beq_eq_true h2], ltL_lt (fun z hz => ha z (by simp [hz])) (fun z hz => hb z (by simp [hz])) h⟩
theorem RKV.strs {e : En} {k : Nat} : ∀ {ps : List (AV × AV)} {l : List (Value × Value)}, RKV e k ps l → (∀ p ∈ ps, fits .str p.1 = true) → ∃ ks : List (List Nat), ps.map Prod.fst = ks.map AV.str ∧ (∀ x ∈ ks, ∀ b ∈ x, b < 256) ∧ l.map Prod.fst = ks.map fun x => Value.string (bys x)
  | [], l, h, _ => by
    rw [show l = [] from h]
    exact ⟨[], rfl, fun x hx => (by cases hx), rfl⟩
  | p :: ps, l, h, hf => by
    obtain ⟨u, v, r, rfl, h1, _, h3⟩ := h
    obtain ⟨ks, h4, h5, h6⟩ := RKV.strs h3 (fun q hq => hf q (by simp [hq]))
    have h7 := hf p (by simp)
    cases hp : p.1 <;> rw [hp] at h7 <;> first | (cases h7; done) | skip
    rename_i x
    rw [hp] at h1
    obtain ⟨h8, rfl⟩ := h1
    refine ⟨x :: ks, by rw [List.map_cons, List.map_cons, h4, hp], fun y hy => ?_, by rw [List.map_cons, List.map_cons, h6]⟩
    rcases List.mem_cons.1 hy with rfl | hy
    · exact h8
    · exact h5 y hy
def unS : AV → List Nat
  | .str l => l
  | _ => []
theorem unS_map (ks : List (List Nat)) : (ks.map AV.str).map unS = ks := by
  rw [List.map_map]
  exact (List.map_congr_left fun x _ => rfl).trans (List.map_id ks)
/-- What slices.Sorted promises of maps.Keys' iterator. -/
def SortedOk (P : Program) (f g tk : Nat) : Prop := ∀ (Bm b nn : Nat) (D0 : DataW Unit) (R : Value → Option (DataW Unit × List MemPlace)) (w : World), Bm < w.heap.size → w.cell? ⟨Bm, 0, none⟩ = some (.map (some b)) → w.ownsMap P tk R b nn D0 → Maps.size D0 ≤ maxLen → Maps.size D0 * 16 ≤ 140737488355328 →
  Calls P f #[.func (.func g) #[] #[.pointer (some ⟨Bm, 0, none⟩)]] w fun e w' => ∃ (v : Value) (ss : List (List UInt8)), e = .returned v ∧ ss.Perm (strKeys D0) ∧ w'.ownsRow w.heap.size tk 1 v ss.length ((ss.mergeSort (fun x y => decide (x ≤ y))).map encStr) ∧ (v = .slice none 0 0 ↔ ss = []) ∧ Below w.heap.size w w'
/-- **The keys of a map, sorted, as the run tells it.** -/
theorem sorted_hook [FX] {P : Program} {f g tk : Nat} (hc : SortedOk P f g tk) (hk : P.underlying tk = some .string) (hen : ∀ args w, (callFunc f args).run P w = .ok (.enter f args) w) {s s' : St} {e : En} {w : World} {args : List AV} {v : AV} {vs : Array Value} (hx : sortX g tk s args = some (v, s')) (hr : Rep e s w) (hl : RL e s.next args vs.toList)
    {o : Oper} {a : Act} {K : Act → World → Prop} {Q : Exit → Act → World → Prop} (hK : ∀ e' w' u, Stp e s w e' s' w' → R e' s'.next v u → K (a.put o.dst u) w') : o.upon P a K Q ((callFunc f vs).run P w) := by
  obtain ⟨b, c, n, t, rm, q, es, k0, ks0, rfl, h1, h2, h3, h4, h5, h6, h7, rfl, rfl⟩ := sortX_inv hx
  obtain ⟨u, us, e1, ⟨x, y, rfl, hx1, u2, us2, hy1, ⟨⟨_, _⟩, rfl⟩, hy2⟩, e2⟩ := hl
  have hvs : vs = #[.func (.func g) #[] #[.pointer (some ⟨e.σ b, 0, none⟩)]] := by
    rw [show us = [] from e2] at e1
    rw [show us2 = [] from hy2] at hy1
    have hxe : x = #[] := Array.toList_inj.1 (show x.toList = [] from hx1)
    have hye : y = #[.pointer (some ⟨e.σ b, 0, none⟩)] := Array.toList_inj.1 hy1
    rw [hxe, hye] at e1
    exact Array.toList_inj.1 e1
  subst hvs
  obtain ⟨_, hBm, r1, hr1, cs, fz, rfl, hfz, hcs, _, hcell⟩ := hr.obj b _ h1
  obtain ⟨hn0, _, hcl⟩ := hcell 0 _ h2
  obtain ⟨_, z, hz, _, hzR⟩ := hcl 0 _ rfl
  subst hzR
  obtain ⟨_, hqs, r2, hr2, ents, clock, es', rfl, hkv, hmp, hbo⟩ := hr.obj q _ h3
  obtain ⟨ks, g1, g2, g3⟩ := hkv.strs hmp.2.1
  have g0 := keysR_inv h4
  have hperm : (k0 :: ks0).Perm ks := by
    have := (hmp.1.map Prod.fst).map unS
    rwa [g0, g1, unS_map, unS_map] at this
  have hsp : (sortR (k0 :: ks0)).Perm ks := (sortR_perm _).trans hperm
  have hnd : ks.Nodup := by
    have := hmp.2.2
    rw [g1] at this
    exact (List.pairwise_map.1 this).imp fun h e => h (congrArg _ e)
  have hkeys : ents.toList.map (·.key) = ks.map fun x => Value.string (bys x) := by
    rw [← g3, List.map_map]; rfl
  have hlen : ents.size = ks.length := by
    have := congrArg List.length hkeys
    simpa using this
  have hslen := hsp.length_eq
  have hshort : ∀ x ∈ ks, x.length ≤ 1000000 := fun x hx => shortR_mem h6 x (hsp.mem_iff.2 hx)
  let RR : Value → Option (DataW Unit × List MemPlace) := fun _ => some (.nil, [])
  have hko : ∀ x ∈ ents.toList, ∃ y ∈ ks, x.key = .string (bys y) ∧ rd P tk RR x = some (.string (mo y), .nil) := fun x hx => by
    have hm : x.key ∈ ks.map fun x => Value.string (bys x) := by rw [← hkeys]; exact List.mem_map.2 ⟨x, hx, rfl⟩
    obtain ⟨y, hy, he⟩ := List.mem_map.1 hm
    refine ⟨y, hy, he.symm, ?_⟩
    have hsz : (bys y).size ≤ maxLen := by rw [bys_size]; have := hshort y hy; unfold maxLen; omega
    unfold rd
    rw [← he, Go.WideMaps.keyOf_string_mk hk hsz]
    rfl
  have hfit : Fit P tk RR ents clock := ⟨by unfold maxLen; omega, ⟨hbo.1, pw_nodup hbo.2, by
    rw [hkeys]
    refine List.pairwise_map.2 (hnd.imp_of_mem fun {a b} ha hb hne he => hne ?_)
    injection he with he
    have he2 : mo a = mo b := by
      have h1 := congrArg (fun z : ByteArray => z.data.toList) he
      simpa [bys, mo] using h1
    exact mo_inj (g2 a ha) (g2 b hb) he2⟩, fun x hx => by
    obtain ⟨y, _, _, h⟩ := hko x hx
    exact ⟨_, h⟩⟩
  let D0 : DataW Unit := .map ((ents.toList.map (rg P tk RR)).foldr DataW.insert [])
  have hown : w.ownsMap P tk RR (e.σ q) ents.size D0 := ⟨ents, clock, hr2, hfit, Nat.le_refl _, rfl⟩
  have hD : Maps.size D0 = ks.length := by
    show ((ents.toList.map (rg P tk RR)).foldr DataW.insert []).length = _
    rw [Go.length_sorted]
    simp [hlen]
  have hstr : (strKeys D0).Perm (ks.map mo) := by
    show (((ents.toList.map (rg P tk RR)).foldr DataW.insert []).map fun p => strOf p.1).Perm _
    refine ((Go.WideShapes.sorted_perm _).map _).trans ?_
    rw [List.map_map]
    have : ents.toList.map ((fun p : Lit × DataW Unit => strOf p.1) ∘ rg P tk RR) = ents.toList.map fun x => match x.key with | .string b => b.data.toList | _ => [] := by
      refine List.map_congr_left fun x hx => ?_
      obtain ⟨y, _, h8, h9⟩ := hko x hx
      show strOf (rg P tk RR x).1 = _
      rw [show rg P tk RR x = (.string (mo y), .nil) from by unfold rg; rw [h9]; rfl, h8]
      simp [strOf, bys, mo]
    rw [this]
    have h2 : (ents.toList.map fun x => match x.key with | .string b => b.data.toList | _ => []) = (ents.toList.map (·.key)).map fun v => match v with | .string b => b.data.toList | _ => [] := by rw [List.map_map]; rfl
    rw [h2, hkeys, List.map_map]
    exact .of_eq (List.map_congr_left fun y _ => by simp [bys, mo])
  rw [hen, Oper.upon_enter]
  refine (hc (e.σ b) (e.σ q) ents.size D0 RR w hBm ?_ hown (by rw [hD]; unfold maxLen; omega) (by rw [hD]; omega)).mono fun en w' hh => ?_
  · rw [World.cell?]
    simp only [hr1]
    simpa using hz
  obtain ⟨v, ss, rfl, hss, hrow, hnil, hb⟩ := hh
  have hss2 : ss.Perm ((sortR (k0 :: ks0)).map mo) := hss.trans (hstr.trans (hsp.symm.map mo))
  have hg2 : ∀ x ∈ sortR (k0 :: ks0), ∀ b ∈ x, b < 256 := fun x hx => g2 x (hsp.mem_iff.1 hx)
  have hms : ss.mergeSort (fun x y => decide (x ≤ y)) = (sortR (k0 :: ks0)).map mo := by
    rw [show ss.mergeSort (fun x y => decide (x ≤ y)) = ((sortR (k0 :: ks0)).map mo).mergeSort leB from mergeSort_of_perm hss2]
    refine List.mergeSort_of_pairwise ?_
    refine List.pairwise_map.2 ((upB_pw h5).imp_of_mem fun {a b} ha hb h => ?_)
    exact decide_eq_true (List.le_of_lt (ltL_lt (hg2 a ha) (hg2 b hb) h))
  have hsl : ss.length = (sortR (k0 :: ks0)).length := by rw [hss2.length_eq, List.length_map]
  rw [hms] at hrow
  rcases hrow.2 with ⟨rfl, hz0⟩ | ⟨gb, cap, cur, rfl, hbase, hgb, p1, p2, p3, p4⟩
  · have : (sortR (k0 :: ks0)).length = (k0 :: ks0).length := (sortR_perm _).length_eq
    rw [hsl, this] at hz0
    cases hz0
  · refine hK _ w' _ (Stp.far hr hb _ _ cap gb hbase hgb ?_) ?_
    · refine ⟨cur, (0, 0), rfl, .inl rfl, by rw [if_pos rfl, p3]; simp [En.up], fun _ => by simp [En.up]; omega, fun i l hi => ?_⟩
      rw [putE_at, mapR_eq, List.length_map, Nat.zero_add, Nat.sub_zero] at hi
      by_cases hc2 : 0 ≤ i ∧ i < (sortR (k0 :: ks0)).length
      · rw [if_pos hc2, List.getElem?_map] at hi
        cases hi2 : (sortR (k0 :: ks0))[i]? with
        | none => rw [hi2] at hi; cases hi
        | some x =>
          rw [hi2] at hi
          cases hi
          refine ⟨hc2.2, rfl, fun j a ha => ?_⟩
          cases j with
          | succ j => cases ha
          | zero =>
            cases ha
            refine ⟨rfl, .string (bys x), ?_, hg2 x (List.mem_of_getElem? hi2), rfl⟩
            have h8 : (cur.toList.take (ss.length * 1))[i]? = some (encStr (mo x)) := by rw [p4, List.getElem?_map, List.getElem?_map, hi2]; rfl
            rw [List.getElem?_take_of_lt (by omega), Array.getElem?_toList] at h8
            rw [Nat.mul_one, Nat.add_zero, h8]
            rfl
      · rw [if_neg hc2, T.at_leaf] at hi; cases hi
    · refine ⟨⟨⟨Nat.lt_succ_self _, by simp [En.up]⟩, ?_⟩, ?_⟩
      · show (sortR (k0 :: ks0)).length + 0 ≤ (e.up s.next gb cap).κ s.next
        simp [En.up]; omega
      · rw [hsl]
        simp [En.up, Cp.cap]

open Go.RowKit (Below)
/-- All that the run has lies behind what was there at the start. -/
structure Far [FX] (e0 : En) (c0 : Nat) (w0 : World) (e : En) (s : St) (w : World) : Prop where
  rep : Rep e s w
  ext : Ext c0 e0 e
  nx : c0 ≤ s.next
  far : ∀ b o, s.heap.at_ b = some o → w0.heap.size ≤ e.σ b
  below : Below w0.heap.size w0 w
  fxl : ∀ g o, FX.F g = some o → g < w0.heap.size
  fx : e.fx = e0.fx
theorem leaf_none {c0 : Nat} {b : Nat} {o : AObj} (h : (⟨.leaf, c0, []⟩ : St).heap.at_ b = some o) : False := by
  rw [show (⟨.leaf, c0, []⟩ : St).heap = .leaf from rfl, T.at_leaf] at h; cases h
theorem Far.start [FX] {e : En} {c0 : Nat} {w : World} (h : Rep e ⟨.leaf, c0, []⟩ w) : Far e c0 w e ⟨.leaf, c0, []⟩ w :=
  ⟨h, Ext.refl _ _, Nat.le_refl _, fun _ _ hb => (leaf_none hb).elim, Below.refl _ _, fun g o hg => (Array.getElem?_eq_some_iff.1 (h.fx g o hg).1).1, rfl⟩
section
variable {e0 e e' : En} {c0 : Nat} {w0 w w' : World} {s s' : St}
theorem Far.step [FX] (h : Far e0 c0 w0 e s w) (st : Stp e s w e' s' w') : Far e0 c0 w0 e' s' w' where
  rep := st.rep
  ext := h.ext.trans st.ext h.nx
  nx := Nat.le_trans h.nx st.nx
  far := fun b o hb => by
    rcases st.own b o hb with ⟨b0, o0, h1, h2⟩ | h1
    · rw [← h2]; exact h.far b0 o0 h1
    · exact Nat.le_trans h.below.size h1
  below := ⟨st.os.trans h.below.os, st.tape.trans h.below.tape, st.output.trans h.below.output, Nat.le_trans h.below.size st.size, fun k hk => by
    rw [st.kp k (Nat.lt_of_lt_of_le hk h.below.size) fun b o hb he => by have := h.far b o hb; omega]
    exact h.below.block k hk⟩
  fxl := h.fxl
  fx := st.fx.trans h.fx
theorem Far.drop [FX] (h : Far e0 c0 w0 e s w) (hs : ∀ b o, s'.heap.at_ b = some o → s.heap.at_ b = some o) (hn : s.next ≤ s'.next) : Far e0 c0 w0 e s' w where
  rep := ⟨fun b o hb => by
    obtain ⟨h1, h2, r, h3, h4⟩ := h.rep.obj b o (hs b o hb)
    exact ⟨Nat.lt_of_lt_of_le h1 hn, h2, r, h3, h4.mono hn⟩, fun b o b' o' hb hb' he => h.rep.inj b o b' o' (hs b o hb) (hs b' o' hb') he, fun g o hg => ⟨(h.rep.fx g o hg).1, fun b o' hb => (h.rep.fx g o hg).2 b o' (hs b o' hb)⟩⟩
  ext := h.ext
  nx := Nat.le_trans h.nx hn
  far := fun b o hb => h.far b o (hs b o hb)
  below := h.below
  fxl := h.fxl
  fx := h.fx
theorem Far.perm [FX] (h : Far e0 c0 w0 e s w) {b : Nat} {kk : KK} {es es' : List (AV × AV)} (hb : s.heap.at_ b = some (.map kk es)) (hp : es'.Perm es) (hn : s'.next = s.next) (hs : ∀ c, s'.heap.at_ c = if b = c then some (.map kk es') else s.heap.at_ c) : Far e0 c0 w0 e s' w where
  rep := h.rep.perm hb hp hn hs
  ext := h.ext
  nx := by rw [hn]; exact h.nx
  far := fun c o hc => by
    rw [hs] at hc
    by_cases hbc : b = c
    · subst hbc; exact h.far b _ hb
    · rw [if_neg hbc] at hc; exact h.far c o hc
  below := h.below
  fxl := h.fxl
  fx := h.fx
theorem Far.side [FX] (h : Far e0 c0 w0 e s w) {k : Nat} (hk : w0.heap.size ≤ k) (hn : ∀ b o, s.heap.at_ b = some o → e.σ b ≠ k) (hb : But k w w') : Far e0 c0 w0 e s w' where
  rep := ⟨fun b o h1 => by
    obtain ⟨q1, q2, r, q3, q4⟩ := h.rep.obj b o h1
    exact ⟨q1, by rw [hb.size]; exact q2, r, by rw [hb.at_ _ (hn b o h1)]; exact q3, q4⟩, h.rep.inj, fun g o hg => ⟨by rw [hb.at_ _ (by have := h.fxl g o hg; omega)]; exact (h.rep.fx g o hg).1, (h.rep.fx g o hg).2⟩⟩
  ext := h.ext
  nx := h.nx
  far := h.far
  below := ⟨hb.os.trans h.below.os, hb.tape.trans h.below.tape, hb.output.trans h.below.output, by rw [hb.size]; exact h.below.size, fun j hj => by rw [hb.at_ _ (by omega)]; exact h.below.block j hj⟩
  fxl := h.fxl
  fx := h.fx
theorem Far.more [FX] (h : Far e0 c0 w0 e s w) (o : Obj) : Far e0 c0 w0 e s (w.alloc o) where
  rep := ⟨fun b o' h1 => by
    obtain ⟨q1, q2, r, q3, q4⟩ := h.rep.obj b o' h1
    exact ⟨q1, by show _ < (w.heap.push o).size; simp; omega, r, by show (w.heap.push o)[_]? = _; rw [Array.getElem?_push, if_neg (by omega)]; exact q3, q4⟩, h.rep.inj, fun g o' hg => ⟨by
      have q := (h.rep.fx g o' hg).1
      have : g < w.heap.size := (Array.getElem?_eq_some_iff.1 q).1
      show (w.heap.push o)[_]? = _
      rw [Array.getElem?_push, if_neg (by omega)]; exact q, (h.rep.fx g o' hg).2⟩⟩
  ext := h.ext
  nx := h.nx
  far := h.far
  below := h.below.alloc h.below.size o
  fxl := h.fxl
  fx := h.fx
/-- At the end: a step from the empty memory. -/
theorem Far.stp [FX] (h : Far e0 c0 w0 e s w) (hw : s.wr = []) (hs : ∀ b, b < c0 → s.heap.at_ b = none) : Stp e0 ⟨.leaf, c0, []⟩ w0 e s w where
  rep := h.rep
  ext := h.ext
  nx := h.nx
  own := fun b o hb => .inr (h.far b o hb)
  os := h.below.os
  tape := h.below.tape
  output := h.below.output
  size := h.below.size
  kp := fun k hk _ => h.below.block k hk
  lg := ⟨[], hw, fun b hb _ => by rw [hs b hb]; rfl⟩
  fx := h.fx
end
theorem RTm.two {e : En} {k : Nat} {ns : NS} {a : Act} {t1 t2 : Nat} {v1 v2 : AV} (hg : Gl e k) (h1 : R e k v1 (a.tmps.getD t1 undef)) (h2 : R e k v2 (a.tmps.getD t2 undef)) : RTm e k ns ⟨(T.set .leaf t1 v1).set t2 v2, .nil⟩ a := ⟨hg, fun t => by
  unfold mvT
  cases hd : ns.at_ t with
  | none => exact trivial
  | some u =>
    show R e k (orUnd (((T.set .leaf t1 v1).set t2 v2).at_ t)) _
    rw [T.at_set, T.at_set]
    by_cases ht2 : t2 = t
    · subst ht2; rw [if_pos rfl]; exact h2
    · rw [if_neg ht2]
      by_cases ht1 : t1 = t
      · subst ht1; rw [if_pos rfl]; exact h1
      · rw [if_neg ht1, T.at_leaf]; exact trivial⟩
theorem RTm.none {e : En} {k : Nat} {ns : NS} {a : Act} (hg : Gl e k) : RTm e k ns ⟨.leaf, .nil⟩ a := ⟨hg, fun t => by
  unfold mvT
  cases ns.at_ t <;> exact trivial⟩
/-- **A loop over a map's entries.** -/
theorem wp_walk {P : Program} {N : Nat} {body : Code} {Q : Exit → Act → World → Prop} {I : List MapEntry → Act → World → Prop}
    (hI : ∀ xs a w, I xs a w → xs.length ≤ N)
    (hround : ∀ xs a w, I xs a w → body.wp P (Exit.then (fun a' w' => ∃ x, I (xs ++ [x]) a' w') Q) a w) {a : Act} {w : World} (h0 : I [] a w) : (Code.loop body).wp P Q a w := by
  have key : ∀ n xs a w, I xs a w → N - xs.length < n → Code.rounds P body Q n a w := by
    intro n
    induction n with
    | zero => intro xs a w _ h; omega
    | succ n ih =>
      intro xs a w h hn
      rw [rounds_succ]
      refine wp_mono (hround xs a w h) fun ex a' w' hq => ?_
      cases ex <;> first | exact hq | skip
      obtain ⟨x, hx⟩ := hq
      refine ih (xs ++ [x]) a' w' hx ?_
      have := hI _ _ _ hx
      rw [List.length_append, List.length_singleton] at *
      omega
  exact wp_loop_rounds (N + 1) (key (N + 1) [] a w h0 (by omega))
/-- A string or a number, as it lies. -/
theorem R_back {e : En} {k : Nat} : ∀ {p : AV} {v : Value}, (match p with | .str _ => True | .int _ _ => True | _ => False) → R e k p v → ofV1 v = p
  | .str l, v, _, h => by
    obtain ⟨h1, rfl⟩ := h
    show strV (bys l) = .str l
    unfold strV
    rw [mapR_eq]
    show AV.str ((((l.map UInt8.ofNat).toArray).toList).map UInt8.toNat) = _
    rw [List.toList_toArray, List.map_map]
    congr 1
    refine (List.map_congr_left fun x hx => ?_).trans (List.map_id l)
    show (UInt8.ofNat x).toNat = id x
    rw [UInt8.toNat_ofNat_of_lt' (h1 x hx)]; rfl
  | .int kd n, v, _, h => by
    rw [show v = .int kd n from h]; rfl
/-- A map's entries, as the run tells them. -/
noncomputable def pOf (x : MapEntry) : AV × AV := (ofV1 x.key, ofV1 x.val)
def plainP (p : AV × AV) : Prop := (match p.1 with | .str _ => True | .int _ _ => True | _ => False) ∧ (match p.2 with | .str _ => True | .int _ _ => True | _ => False)
theorem RKV.back [FX] {e : En} {k : Nat} : ∀ {ps : List (AV × AV)} {l : List MapEntry}, RKV e k ps (l.map fun x => (x.key, x.val)) → (∀ p ∈ ps, plainP p) → l.map pOf = ps
  | [], [], _, _ => rfl
  | [], _ :: _, h, _ => by cases h
  | p :: ps, [], h, _ => by obtain ⟨u, v, r, h, _⟩ := h; cases h
  | p :: ps, x :: l, h, hp => by
    obtain ⟨u, v, r, h1, h2, h3, h4⟩ := h
    injection h1 with h5 h6
    injection h5 with h7 h8
    subst h7 h8 h6
    have hpp := hp p (by simp)
    rw [List.map_cons, RKV.back h4 (fun q hq => hp q (by simp [hq]))]
    unfold pOf
    rw [R_back hpp.1 h2, R_back hpp.2 h3]

section
variable {P : Program} {B : Tb} {n : Nat} {e : En} {s s' : St} {w w' : World} {ns : NS} {nt : Nat} {tm tm' : Tm} {a : Act} {Q : Exit → Act → World → Prop}
/-- Code that the run ends as it should. -/
theorem code_now [FX] (hC : CodeOk P B n) {c : Code} {f : Nat} (hr : Rep e s w) (hm : RTm e s.next (nsOf B f) tm a) (hsz : a.tmps.size = ntOf B f) (hd : a.defers = []) {ex : Ex} (h : run B n (.code c f tm [] s) = .ok ex tm' [] s')
    (hQ : ∀ e' a' w', Stp e s w e' s' w' → RTm e' s'.next (nsOf B f) tm' a' → a'.tmps.size = ntOf B f → a'.defers = [] → Q ex.out a' w') : c.wp P Q a w :=
  (hC c f tm [] s e w a Q hr hm hsz hd (by rw [h]; exact fun e' a' w' h1 h2 h3 h4 => hQ e' a' w' h1 h2 h3 h4)).1
/-- Operations that the run ends as it should. -/
theorem ops_now [FX] (hO : OpsOk P B n) {ops : Array Oper} {l : List Oper} (hr : Rep e s w) (hm : RTm e s.next ns tm a) (hsz : a.tmps.size = nt) (hd : a.defers = []) {ex : Ex} (h : run B n (.ops (mapR (moOf B ns nt ops.toList) l) tm [] s) = .ok ex tm' [] s')
    (hQ : ∀ e' a' w', Stp e s w e' s' w' → RTm e' s'.next ns tm' a' → a'.tmps.size = nt → a'.defers = [] → Q ex.out a' w') : wpList P ops Q l a w :=
  hO ns nt ops l tm [] s e w a Q hr hm hsz hd (by rw [h]; exact fun e' a' w' h1 h2 h3 h4 => hQ e' a' w' h1 h2 h3 h4)
/-- An operation by hand. -/
theorem wpList_hand {ops : Array Oper} {o : Oper} {l : List Oper} (hg : o.guard = none) {v : Value} (hx : (execOp a.eval o).run P w = .ok (.value v) w') (h : wpList P ops Q l (a.put o.dst v) w') : wpList P ops Q (o :: l) a w := by
  unfold wpList
  rw [show Region.wanted o (yielded ops a.tmps) = true from by unfold Region.wanted; rw [hg], if_pos rfl]
  left
  unfold Oper.wp
  rw [hx]
  exact h
theorem exec_range {o : Oper} {t : TypeId} {x : Operand} {u v : Value} (ho : o.op = .range t x) (hx : a.eval x = u) (hr : (Instr.range t u).run P w = .ok v w') : (execOp a.eval o).run P w = .ok (.value v) w' := by
  unfold execOp
  rw [ho]
  simp [hx, hr]
theorem exec_next {o : Oper} {x : Operand} {u v : Value} {b : Bool} (ho : o.op = .next x b) (hx : a.eval x = u) (hr : (Instr.next u b o.type).run P w = .ok v w') : (execOp a.eval o).run P w = .ok (.value v) w' := by
  unfold execOp
  rw [ho]
  simp [hx, hr]
theorem exec_entry {o : Oper} {x : Operand} {u v : Value} (ho : o.op = .entry x) (hx : a.eval x = u) (hr : (Instr.entry u).run P w = .ok v w') : (execOp a.eval o).run P w = .ok (.value v) w' := by
  unfold execOp
  rw [ho]
  simp [hx, hr]
end

/-- What a call answers from a memory of known objects, which it leaves as they are. -/
def LocF [FX] (P : Program) (f : Nat) (args : List AV) (foot : List OB) (c0 c1 : Nat) (v : AV) : Prop := ∀ (e : En) (w : World) (vs : Array Value), Rep e ⟨layM foot .leaf, c0, []⟩ w → Gl e c0 → RL e c0 args vs.toList →
  ∀ {o : Oper} {a : Act} {K : Act → World → Prop} {Q : Exit → Act → World → Prop}, (∀ e' w' u g, Stp e ⟨layM foot .leaf, c0, []⟩ w e' g w' → g.next ≤ c1 → (∀ x ∈ foot, g.heap.at_ x.b = some x.obj) → R e' c1 v u → K (a.put o.dst u) w') → o.upon P a K Q ((callFunc f vs).run P w)
theorem locF_ok [FX] {P : Program} {f : Nat} {args : List AV} {foot : List OB} {c0 c1 : Nat} {v : AV} (hL : LocF P f args foot c0 c1 v) {s : St} {e : En} {w : World} {vs : Array Value} (hle : s.next ≤ c0) (hft : ∀ x ∈ foot, okOb x (s.heap.at_ x.b) = true) (hr : Rep e s w) (hgl : Gl e s.next) (hl : RL e s.next args vs.toList)
    {o : Oper} {a : Act} {K : Act → World → Prop} {Q : Exit → Act → World → Prop} (hK : ∀ e' w' u, Stp e s w e' ⟨layM foot s.heap, c1, foot.map OB.b ++ s.wr⟩ w' → R e' c1 v u → K (a.put o.dst u) w') : o.upon P a K Q ((callFunc f vs).run P w) := by
  have hsome : ∀ x ∈ foot, ∃ o, s.heap.at_ x.b = some o ∧ okOb x (some o) = true := fun x hx => by
    have h := hft x hx
    cases hs : s.heap.at_ x.b with
    | none => rw [hs] at h; cases h
    | some o => rw [hs] at h; exact ⟨o, rfl, h⟩
  have hin : ∀ {b o}, (layM foot (.leaf : T AObj)).at_ b = some o → ∃ x ∈ foot, x.b = b ∧ o = x.obj := fun {b o} hb => by
    rcases layM_at foot hb with h | ⟨_, h⟩
    · exact h
    · rw [T.at_leaf] at h; cases h
  have hr0 : Rep e ⟨layM foot .leaf, c0, []⟩ w := ⟨fun b o hb => by
      obtain ⟨x, hx, rfl, rfl⟩ := hin hb
      obtain ⟨o', h1, h2⟩ := hsome x hx
      obtain ⟨q1, q2, r, q3, q4⟩ := hr.obj _ _ h1
      exact ⟨show x.b < c0 by omega, q2, r, q3, (okOb_RO h2 q4).mono hle⟩, fun b o b' o' hb hb' he => by
      obtain ⟨x, hx, rfl, rfl⟩ := hin hb
      obtain ⟨x', hx', rfl, rfl⟩ := hin hb'
      obtain ⟨_, h1, _⟩ := hsome x hx
      obtain ⟨_, h1', _⟩ := hsome x' hx'
      exact hr.inj _ _ _ _ h1 h1' he, fun g o hg => ⟨(hr.fx g o hg).1, fun b o' hb => by
      obtain ⟨x, hx, rfl, rfl⟩ := hin hb
      obtain ⟨_, h1, _⟩ := hsome x hx
      exact (hr.fx g o hg).2 _ _ h1⟩⟩
  refine hL e w vs hr0 (hgl.ext (Ext.refl _ _) hle) (hl.ext (Ext.refl _ _) hle) fun e' w' u g st hg1 hgf hu => ?_
  have hnx : c0 ≤ g.next := st.nx
  have hext : Ext c0 e e' := st.ext
  have hold : ∀ {b o}, s.heap.at_ b = some o → (∀ x ∈ foot, x.b ≠ b) → b < s.next ∧ e'.σ b = e.σ b ∧ e.σ b < w.heap.size ∧ ∃ r, w'.heap[e'.σ b]? = some r ∧ RO e' c1 b o r := fun {b o} hb hn => by
    obtain ⟨q1, q2, r, q3, q4⟩ := hr.obj b o hb
    have q5 := (hext b (by omega)).1
    refine ⟨q1, q5, q2, r, ?_, q4.ext (fun b' hb' => hext b' (by omega)) (by omega) q1⟩
    rw [q5, st.kp _ q2 fun b1 o1 hb1 he => ?_]
    · exact q3
    · obtain ⟨x, hx, rfl, rfl⟩ := hin hb1
      obtain ⟨_, h1, _⟩ := hsome x hx
      exact hn x hx (hr.inj _ _ _ _ h1 hb he)
  have hat : ∀ x ∈ foot, e'.σ x.b = e.σ x.b := fun x hx => by
    obtain ⟨_, h1, _⟩ := hsome x hx
    exact (hext x.b (by have := (hr.obj _ _ h1).1; omega)).1
  refine hK e' w' u ?_ hu
  exact {
    rep := ⟨fun b o hb => by
      rcases layM_at foot hb with ⟨x, hx, rfl, rfl⟩ | ⟨hn, hb2⟩
      · obtain ⟨_, q4, r, q5, q6⟩ := st.rep.obj x.b x.obj (hgf x hx)
        obtain ⟨_, h1, _⟩ := hsome x hx
        have := (hr.obj _ _ h1).1
        exact ⟨show x.b < c1 by omega, q4, r, q5, q6.mono hg1⟩
      · obtain ⟨q1, q2, q3, r, q4, q5⟩ := hold hb2 hn
        exact ⟨show b < c1 by omega, by rw [q2]; exact Nat.lt_of_lt_of_le q3 st.size, r, q4, q5⟩, fun b o b' o' hb hb' he => by
      have key : ∀ {b o}, (layM foot s.heap).at_ b = some o → e'.σ b = e.σ b ∧ ∃ o2, s.heap.at_ b = some o2 := fun {b o} hb => by
        rcases layM_at foot hb with ⟨x, hx, rfl, rfl⟩ | ⟨hn, hb2⟩
        · obtain ⟨o2, h1, _⟩ := hsome x hx
          exact ⟨hat x hx, o2, h1⟩
        · exact ⟨(hold hb2 hn).2.1, o, hb2⟩
      obtain ⟨h1, o1, h2⟩ := key hb
      obtain ⟨h3, o3, h4⟩ := key hb'
      rw [h1, h3] at he
      exact hr.inj _ _ _ _ h2 h4 he, fun g2 o hg => by
      refine ⟨(st.rep.fx g2 o hg).1, fun b o' hb => ?_⟩
      rcases layM_at foot hb with ⟨x, hx, rfl, rfl⟩ | ⟨hn, hb2⟩
      · rw [hat x hx]
        obtain ⟨_, h1, _⟩ := hsome x hx
        exact (hr.fx g2 o hg).2 _ _ h1
      · rw [(hold hb2 hn).2.1]
        exact (hr.fx g2 o hg).2 b o' hb2⟩
    fx := st.fx
    ext := fun b hb => hext b (by omega)
    nx := show s.next ≤ c1 by omega
    own := fun b o hb => by
      rcases layM_at foot hb with ⟨x, hx, rfl, rfl⟩ | ⟨hn, hb2⟩
      · obtain ⟨o2, h1, _⟩ := hsome x hx
        exact .inl ⟨_, o2, h1, (hat x hx).symm⟩
      · exact .inl ⟨b, o, hb2, (hold hb2 hn).2.1.symm⟩
    os := st.os
    tape := st.tape
    output := st.output
    size := st.size
    kp := fun k hk hn => st.kp k hk fun b o hb => by
      obtain ⟨x, hx, rfl, rfl⟩ := hin hb
      obtain ⟨o2, h1, _⟩ := hsome x hx
      exact hn _ _ h1
    lg := ⟨foot.map OB.b, rfl, fun b _ hn => layM_ne foot fun x hx he => hn (List.mem_map.2 ⟨x, hx, he⟩)⟩ }
/-- A row that an append has made, its room known. -/
theorem Stp.trim [FX] {e0 e : En} {s0 s : St} {w0 w : World} (h : Stp e0 s0 w0 e s w) {s' : St} (hn : s.next ≤ s'.next) (hw : s'.wr = s.wr) (hs : ∀ b o, s'.heap.at_ b = some o → ∃ o', s.heap.at_ b = some o' ∧ ∀ k r, RO e k b o' r → RO e k b o r) (hlow : ∀ b, b < s0.next → s'.heap.at_ b = s.heap.at_ b) : Stp e0 s0 w0 e s' w where
  rep := ⟨fun b o hb => by
    obtain ⟨o', h1, h2⟩ := hs b o hb
    obtain ⟨q1, q2, r, q3, q4⟩ := h.rep.obj b o' h1
    exact ⟨Nat.lt_of_lt_of_le q1 hn, q2, r, q3, (h2 _ _ q4).mono hn⟩, fun b o b' o' hb hb' he => by
    obtain ⟨o1, h1, _⟩ := hs b o hb
    obtain ⟨o2, h2, _⟩ := hs b' o' hb'
    exact h.rep.inj _ _ _ _ h1 h2 he, fun g o hg => ⟨(h.rep.fx g o hg).1, fun b o' hb => by
    obtain ⟨o1, h1, _⟩ := hs b o' hb
    exact (h.rep.fx g o hg).2 b o1 h1⟩⟩
  ext := h.ext
  nx := Nat.le_trans h.nx hn
  own := fun b o hb => by
    obtain ⟨o', h1, _⟩ := hs b o hb
    exact h.own b o' h1
  os := h.os
  tape := h.tape
  output := h.output
  size := h.size
  kp := h.kp
  lg := by
    obtain ⟨l, h1, h2⟩ := h.lg
    exact ⟨l, by rw [hw]; exact h1, fun b hb hn => by rw [hlow b hb]; exact h2 b hb hn⟩
  fx := h.fx
end Go.Proofs.YtiibijhldlillaaGreat.Eng
