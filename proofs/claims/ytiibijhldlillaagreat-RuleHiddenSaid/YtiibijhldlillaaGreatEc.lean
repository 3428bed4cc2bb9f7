/- The runner's new objects are the program's. No condition beyond what each theorem says. -/
import Derived.Test.YtiibijhldlillaaGreatEb
import Derived.Great.BuildSlice
import Derived.Deep.AppendSrc
import Derived.Deep.AppendLies
import Derived.Maps.AppendAt
namespace Go.Proofs.YtiibijhldlillaaGreat.Eng
section
variable {P : Program} {B : Tb} {e : En} {s s' : St} {w : World} {ns : NS} {tm : Tm} {a : Act} {o : Oper} {v : AV} {q : Nat}

/-- Rows of cells are told. -/
def Rows (e : En) (k : Nat) (c : T (List AV)) (n size : Nat) (cs : Array Value) : Prop := ∀ i l, c.at_ i = some l → i < n ∧ l.length = size ∧ ∀ j a, l[j]? = some a → oneB a = true ∧ ∃ v, cs[i * size + j]? = some v ∧ R e k a v
theorem Rows.ext {e e' : En} {k k' : Nat} (hx : Ext k e e') (hk : k ≤ k') {c : T (List AV)} {n size : Nat} {cs : Array Value} (h : Rows e k c n size cs) : Rows e' k' c n size cs := fun i l hi => by
  obtain ⟨h1, h2, h3⟩ := h i l hi
  refine ⟨h1, h2, fun j a hj => ?_⟩
  obtain ⟨h4, v, h5, h6⟩ := h3 j a hj
  exact ⟨h4, v, h5, h6.ext hx hk⟩
/-- A new block of cells. -/
theorem Stp.cells [FX] (hr : Rep e s w) {c : T (List AV)} {n size t κ : Nat} {room : Bool} {cs : Array Value} (h3 : cs.size = (if room = true then κ else n) * size) (h4 : room = true → n ≤ κ) (h5 : Rows e s.next c n size cs) :
    Stp e s w (e.up s.next w.heap.size κ) (s.add (.cells c n size t room)) (w.alloc (.cells cs t (0, 0))) := by
  have hκ : (e.up s.next w.heap.size κ).κ s.next = κ := by simp [En.up]
  exact Stp.new hr _ _ _ ⟨cs, (0, 0), rfl, .inl rfl, by rw [hκ]; exact h3, by rw [hκ]; exact h4, h5.ext (En.up_ext _ _ _ _) (Nat.le_succ _)⟩
theorem oneEl_at (l : List AV) (i : Nat) : (oneEl l).at_ i = if i = 0 then some l else none := by
  cases i with
  | zero => rfl
  | succ i =>
    unfold T.at_
    rw [path_succ]
    rw [if_neg (by omega)]
    unfold oneEl
    rw [T.get_cons]
    split <;> rfl
theorem rows_one [FX] {l : List AV} {vs : List Value} (hl : RL e q l vs) (h1 : ∀ a ∈ l, oneB a = true) : Rows e q (oneEl l) 1 l.length vs.toArray := fun i k hi => by
  rw [oneEl_at] at hi
  split at hi
  · cases hi
    rename_i h0
    subst h0
    refine ⟨Nat.zero_lt_one, rfl, fun j a hj => ⟨h1 a (List.mem_of_getElem? hj), ?_⟩⟩
    obtain ⟨v, h2, h3⟩ := hl.at hj
    exact ⟨v, by rw [Nat.zero_mul, Nat.zero_add]; simpa using h2, h3⟩
  · cases hi
theorem ptr_new {w' : World} (h : w' = w) (κ : Nat) : R (e.up s.next w.heap.size κ) (s.next + 1) (.ptr s.next 0) (.pointer (some ⟨w'.heap.size, 0, none⟩)) := by
  subst h
  exact ⟨⟨Nat.lt_succ_self _, by simp [En.up]⟩, by simp [En.up]⟩
theorem gate {c : Bool} {n : Nat} {x : Nx} {v : AV} {s' : St} (h : (Bool.rec (.bad n) x c : Nx) = .val v s') : c = true ∧ x = .val v s' := by
  cases c with
  | false => cases h
  | true => exact ⟨rfl, h⟩
theorem oBox_inv [FX] {l : List AV} {size t : Nat} (h : oBox l size t s = .val v s') : oneL l = true ∧ l.length = size ∧ v = .ptr s.next 0 ∧ s' = s.add (.cells (oneEl l) 1 size t false) := by
  obtain ⟨hc, h⟩ := gate h
  obtain ⟨h1, h2⟩ := and_inv hc
  have h2 := Nat.eq_of_beq_eq_true h2
  rw [lenR_eq] at h2
  injection h with h3 h4
  exact ⟨h1, h2, h3.symm, h4.symm⟩
theorem box_run [FX] (hr : Rep e s w) {l : List AV} {size : Nat} {t : TypeId} {u : Value} (hl : (∀ a ∈ l, oneB a = true) → RL e s.next l u.cells.toList) (h : oBox l size t s = .val v s') : ∃ e' w' n, ((do pure (.pointer (some (← newVar t u))) : Sem Value)).run P w = .ok n w' ∧ Stp e s w e' s' w' ∧ R e' s'.next v n := by
  obtain ⟨h1, h2, rfl, rfl⟩ := oBox_inv h
  have h1 := oneL_all h1
  have hl := hl h1
  refine ⟨e.up s.next w.heap.size 0, w.alloc (.cells u.cells t (0, 0)), .pointer (some ⟨w.heap.size, 0, none⟩), ?_, ?_, ptr_new rfl 0⟩
  · simp [newVar, newRow]
  · have := Stp.cells (t := t) (κ := 0) (room := false) hr (c := oneEl l) (n := 1) (size := size) (cs := u.cells.toList.toArray) (by have := hl.len; simp at this; simp [this, h2]) (fun h => by cases h) (by rw [← h2]; exact rows_one hl h1)
    simpa using this
theorem zero_run [FX] (ht : TbOk P B) {t : TypeId} {l : List AV} (h : zeroC B t = some l) : ∃ u, (∀ w, (zeroValue t).run P w = .ok u w) ∧ ∀ {e : En} {q : Nat}, (∀ a ∈ l, oneB a = true) → RL e q l u.cells.toList := by
  unfold zeroC zero at h
  cases hi : B.ty.at_ t with
  | none => rw [hi] at h; cases h
  | some i =>
    rw [hi] at h
    obtain ⟨ti, h1, _, _, _, _, _, _, h2⟩ := ht.ty t i hi
    replace h : Option.rec none (fun z => some (cellsOf z)) i.zero = some l := h
    cases hz : i.zero with
    | none => rw [hz] at h; cases h
    | some z =>
      rw [hz] at h
      cases h
      obtain ⟨v, h3, rfl⟩ := h2 z hz
      exact ⟨v, fun w => by simp [zeroValue, typeInfo, h1, h3], fun h => cells_R (ofV_R v) h⟩
theorem op_alloc [FX] (ht : TbOk P B) (hr : Rep e s w) {t : TypeId} (ho : o.op = .alloc t) (h : oAlloc (zeroC B t) (sizeT B t) t s = .val v s') : OkV P e s w (execOp a.eval o) v s' := by
  cases hz : zeroC B t with
  | none => rw [hz] at h; cases h
  | some l =>
    rw [hz] at h
    obtain ⟨u, h1, h2⟩ := zero_run ht hz
    obtain ⟨e', w', n, h3, h4, h5⟩ := box_run (P := P) hr (u := u) h2 (show oBox l (sizeT B t) t s = .val v s' from h)
    refine ⟨e', w', .value n, ?_, h4, .inl ⟨n, rfl, h5⟩⟩
    unfold execOp
    rw [ho]
    simp only [Instr.alloc, Sem.run_bind, h1, Result.andThen_ok] at h3 ⊢
    rw [h3]
    rfl
theorem op_box [FX] (hr : Rep e s w) (hm : RTm e s.next ns tm a) {t : TypeId} {x : Operand} (ho : o.op = .box t x) {size : Nat} (h : oBox (cellsOf (ev (mv ns x) tm)) size t s = .val v s') : OkV P e s w (execOp a.eval o) v s' := by
  obtain ⟨e', w', n, h3, h4, h5⟩ := box_run (P := P) hr (u := a.eval x) (cells_R (ev_R hm x)) h
  refine ⟨e', w', .value n, ?_, h4, .inl ⟨n, rfl, h5⟩⟩
  unfold execOp
  rw [ho]
  simp only [Instr.box, Sem.run_bind] at h3 ⊢
  rw [h3]
  rfl
theorem reps_at (z : List AV) : ∀ (n i : Nat), (reps z n).at_ i = if i < n then some z else none
  | 0, i => rfl
  | n + 1, i => by
    rw [show reps z (n + 1) = (reps z n).set n z from rfl, T.at_set, reps_at z n i]
    by_cases h : n = i
    · rw [if_pos h, if_pos (by omega)]
    · rw [if_neg h]
      by_cases h2 : i < n
      · rw [if_pos h2, if_pos (by omega)]
      · rw [if_neg h2, if_neg (by omega)]
def rowArr (z : Array Value) (n : Nat) : Array Value := (Array.range n).map (fun i => z[i % z.size]!)
theorem rows_reps [FX] {z : List AV} {vs : Array Value} (m : Nat) (hl : RL e q z vs.toList) (h1 : ∀ a ∈ z, oneB a = true) : Rows e q (reps z m) m z.length (rowArr (if m * z.length = 0 then #[] else vs) (m * z.length)) := fun i l hi => by
  rw [reps_at] at hi
  split at hi
  case isFalse => cases hi
  rename_i him
  cases hi
  refine ⟨him, rfl, fun j a hj => ⟨h1 a (List.mem_of_getElem? hj), ?_⟩⟩
  obtain ⟨v, h2, h3⟩ := hl.at hj
  have hjl := (List.getElem?_eq_some_iff.1 hj).1
  have hvs : vs.size = z.length := by rw [← hl.len]; simp
  have hlt : i * z.length + j < m * z.length := by
    have : (i + 1) * z.length ≤ m * z.length := Nat.mul_le_mul_right _ him
    rw [Nat.succ_mul] at this; omega
  refine ⟨v, ?_, h3⟩
  rw [if_neg (by omega)]
  unfold rowArr
  rw [Array.getElem?_map, Array.getElem?_range, if_pos hlt]
  simp only [Option.map_some]
  rw [hvs, Nat.add_comm, Nat.add_mul_mod_self_right, Nat.mod_eq_of_lt hjl]
  rw [Array.getElem?_toList] at h2
  rw [getElem!_def, h2]
theorem rowArr_size (z : Array Value) (n : Nat) : (rowArr z n).size = n := by simp [rowArr]
theorem slc_new {w' : World} (h : w' = w) (κ n : Nat) {c : Cp} {m : Nat} (hc : c.cap κ = m) (hf : c.fits n κ) : R (e.up s.next w.heap.size κ) (s.next + 1) (.slc s.next 0 n c) (.slice (some ⟨w'.heap.size, 0, none⟩) n m) := by
  subst h
  exact ⟨⟨⟨Nat.lt_succ_self _, by simp [En.up]⟩, by simpa [En.up] using hf⟩, by simp [En.up, hc]⟩
theorem slcK_inv {d : TypeDesc} {m m' : MOp} (h : slcK B d m = m') (hm : m' ≠ .none) : ∃ el, d = .slice el ∧ knownT B el = true ∧ m' = m := by
  cases d <;> first | (exact absurd h.symm hm) | skip
  rename_i el
  refine ⟨el, rfl, ?_⟩
  replace h : Bool.rec .none m (knownT B el) = m' := h
  cases hk : knownT B el with
  | false => rw [hk] at h; exact absurd h.symm hm
  | true => rw [hk] at h; exact ⟨rfl, h.symm⟩
theorem bytes_run (ht : TbOk P B) {t : TypeId} (hk : knownT B t = true) : ∃ ti, P.info? t = some ti ∧ sizeT B t = ti.size ∧ bytesT B t = ti.bytes := by
  unfold knownT at hk
  unfold sizeT bytesT
  cases hi : B.ty.at_ t with
  | none => rw [hi] at hk; cases hk
  | some i =>
    obtain ⟨ti, h1, h2, _, _, _, _, h3, _⟩ := ht.ty t i hi
    exact ⟨ti, h1, h2, h3⟩
theorem oMakeSlice_inv [FX] {x y : AV} {z : Option (List AV)} {size bytes el : Nat} (h : oMakeSlice x y z size bytes el s = .val v s') : ∃ k n k' m l, x = .int k (.ofNat n) ∧ y = .int k' (.ofNat m) ∧ z = some l ∧ n ≤ m ∧ m ≤ 1048576 ∧ bytes ≤ 1048576 ∧ oneL l = true ∧ l.length = size ∧ v = .slc s.next 0 n (.ex m) ∧ s' = s.add (.cells (reps l m) m size el false) := by
  unfold oMakeSlice at h
  split at h <;> first | (cases h; done) | skip
  rename_i k n k' m
  cases z with
  | none => cases h
  | some l =>
    obtain ⟨hc, h⟩ := gate (show (Bool.rec (.bad 10) (newSlc s (.cells (reps l m) m size el false) n (.ex m)) (and (and (Nat.ble n m) (and (Nat.ble m 1048576) (Nat.ble bytes 1048576))) (and (oneL l) (Nat.beq (lenR l) size))) : Nx) = .val v s' from h)
    obtain ⟨h1, h2⟩ := and_inv hc
    obtain ⟨h1, h3⟩ := and_inv h1
    obtain ⟨h3, h4⟩ := and_inv h3
    obtain ⟨h5, h6⟩ := and_inv h2
    have h6 := Nat.eq_of_beq_eq_true h6
    rw [lenR_eq] at h6
    injection h with h7 h8
    exact ⟨k, n, k', m, l, rfl, rfl, rfl, Nat.le_of_ble_eq_true h1, Nat.le_of_ble_eq_true h3, Nat.le_of_ble_eq_true h4, h5, h6, h7.symm, h8.symm⟩
theorem wrap_small {n : Nat} (h : n ≤ 1048576) : IntKind.i64.wrap (n : Int) = n := by
  simp only [IntKind.wrap, IntKind.bits, IntKind.signed]
  simp
  omega
theorem op_mkSlice [FX] (ht : TbOk P B) (hr : Rep e s w) (hm : RTm e s.next ns tm a) {t : TypeId} {x y : Operand} (ho : o.op = .makeSlice t x y) {el : Nat} (hd : dsc B t = .slice el) (hk : knownT B el = true) (h : oMakeSlice (ev (mv ns x) tm) (ev (mv ns y) tm) (zeroC B el) (sizeT B el) (bytesT B el) el s = .val v s') : OkV P e s w (execOp a.eval o) v s' := by
  obtain ⟨k, n, k', m, l, h1, h2, h3, h4, h5, h6, h7, h8, rfl, rfl⟩ := oMakeSlice_inv h
  have hx := ev_R hm x
  have hy := ev_R hm y
  rw [h1] at hx
  rw [h2] at hy
  have hx : a.eval x = .int k (n : Int) := hx
  have hy : a.eval y = .int k' (m : Int) := hy
  obtain ⟨u, h9, h10⟩ := zero_run ht h3
  have h11 := oneL_all h7
  have h10 := h10 (e := e) (q := s.next) h11
  obtain ⟨ti, hi, hz, hb⟩ := bytes_run ht hk
  have hu := ht.dsc hd (by intro hh; cases hh)
  have hbm : ti.bytes * m ≤ 2 ^ 48 := by
    have : ti.bytes * m ≤ 1048576 * 1048576 := Nat.mul_le_mul (by omega) (by omega)
    omega
  refine ⟨e.up s.next w.heap.size 0, w.alloc (.cells (rowArr (if m * l.length = 0 then #[] else u.cells) (m * l.length)) el (0, 0)), .value (.slice (some ⟨w.heap.size, 0, none⟩) n m), ?_, ?_, .inl ⟨_, rfl, slc_new rfl 0 n rfl trivial⟩⟩
  · unfold execOp
    rw [ho]
    simp only [Instr.makeSlice, Sem.run_bind, run_underlying hu, Result.andThen_ok, hx, hy, asInt, asIntOf, Sem.run_pure, typeInfo, wrap_small (show n ≤ 1048576 by omega), wrap_small h5]
    have hbm2 : ((ti.bytes : Int) * (m : Int)) ≤ 2 ^ 48 := by rw [← Int.natCast_mul]; omega
    have hcond : ¬ ((decide ((m : Int) < 0) || decide ((ti.bytes : Int) * (m : Int) > 2 ^ 48) || decide ((n : Int) < 0) || decide ((n : Int) > (m : Int))) = true) := by
      simp only [Bool.or_eq_true, decide_eq_true_eq]
      omega
    simp only [run_program, hi, Result.andThen_ok, Sem.run_pure]
    rw [if_neg hcond]
    simp only [Sem.run_bind, run_askRoom, Result.andThen_ok, sizeOf, typeInfo, run_program, hi, Sem.run_pure, Int.toNat_natCast]
    have hsz : ti.size = l.length := by rw [← hz, h8]
    rw [hsz]
    by_cases h0 : m * l.length = 0
    · rw [if_pos h0, if_pos h0]
      simp only [Sem.run_bind, Sem.run_pure, Result.andThen_ok, newRow, run_newObj]
      rfl
    · rw [if_neg h0, if_neg h0]
      simp only [Sem.run_bind, Sem.run_pure, Result.andThen_ok, newRow, run_newObj, h9]
      rfl
  · rw [← h8]
    exact Stp.cells hr (by rw [rowArr_size]; simp) (fun h => by cases h) (rows_reps m h10 h11)
end

section
variable {P : Program} {B : Tb} {e : En} {s s' : St} {w : World} {ns : NS} {tm : Tm} {a : Act} {o : Oper} {v : AV} {q : Nat}

theorem foldl_at : ∀ (l : List Value) (k off : Nat) (cs : Array Value), off + k + l.length ≤ cs.size →
    ((l.zipIdx k).foldl (fun cs (x : Value × Nat) => cs.setIfInBounds (off + x.2) x.1) cs).size = cs.size ∧ ∀ j, ((l.zipIdx k).foldl (fun cs (x : Value × Nat) => cs.setIfInBounds (off + x.2) x.1) cs)[j]? = if off + k ≤ j ∧ j < off + k + l.length then l[j - (off + k)]? else cs[j]?
  | [], k, off, cs, h => ⟨rfl, fun j => by simp; omega⟩
  | v :: l, k, off, cs, h => by
    rw [List.zipIdx_cons, List.foldl_cons]
    simp only [List.length_cons] at h
    obtain ⟨h1, h2⟩ := foldl_at l (k + 1) off (cs.setIfInBounds (off + k) v) (by simp; omega)
    refine ⟨by rw [h1]; simp, fun j => ?_⟩
    rw [h2 j, Array.getElem?_setIfInBounds]
    by_cases hj : off + k = j
    · subst hj
      rw [if_neg (by omega), if_pos rfl, if_pos (by omega), if_pos (by simp)]
      simp
    · rw [if_neg hj]
      by_cases hc : off + (k + 1) ≤ j ∧ j < off + (k + 1) + l.length
      · rw [if_pos hc, if_pos (by simp; omega), show j - (off + k) = (j - (off + (k + 1))) + 1 by omega]; simp
      · rw [if_neg hc, if_neg (by simp; omega)]
/-- One part laid in. -/
theorem fill_cons [FX] {place : Nat → Option (Nat × Nat)} {cells : Array Value} {i : Nat} {v : Value} {rest : List (Nat × Value)} {off size : Nat} (hp : place i = some (off, size)) (h1 : v.cells.size = size) (h2 : off + size ≤ cells.size) :
    ∃ c2 : Array Value, Instr.fill place cells ((i, v) :: rest) = Instr.fill place c2 rest ∧ c2.size = cells.size ∧ ∀ j, c2[j]? = if off ≤ j ∧ j < off + size then v.cells[j - off]? else cells[j]? := by
  have hl : v.cells.toList.length = size := by simpa using h1
  obtain ⟨h3, h4⟩ := foldl_at v.cells.toList 0 off cells (by rw [hl]; omega)
  refine ⟨_, ?_, h3, fun j => ?_⟩
  · rw [Instr.fill, hp]
    simp only
    rw [if_neg (by simp; omega)]
    congr 1
    rw [← Array.foldl_toList]
    simp
  · rw [h4 j, hl]
    simp
theorem cells_size [FX] {x : AV} {u : Value} (hR : R e q x u) (h : ∀ a ∈ cellsOf x, oneB a = true) : u.cells.size = (cellsOf x).length := by
  have := (cells_R hR h).len
  simpa using this
theorem gateO {α : Type} {c : Bool} {x : Option α} {r : α} (h : (Bool.rec none x c : Option α) = some r) : c = true ∧ x = some r := by
  cases c with
  | false => cases h
  | true => exact ⟨rfl, h⟩
theorem fillE_run [FX] (hm : RTm e q ns tm a) {size n : Nat} : ∀ (ps : List (Nat × Operand)) (c c' : T (List AV)) (cells : Array Value), fillE size n (evp (mapR (fun p => (p.1, mv ns p.2)) ps) tm) c = some c' → Rows e q c n size cells → cells.size = n * size →
    ∃ cells', Instr.fill (fun i => some (i * size, size)) cells (ps.map fun p => (p.1, a.eval p.2)) = some cells' ∧ cells'.size = n * size ∧ Rows e q c' n size cells'
  | [], c, c', cells, h, hr, hs => by cases h; exact ⟨cells, rfl, hs, hr⟩
  | p :: ps, c, c', cells, h, hr, hs => by
    obtain ⟨hc, h⟩ := gateO (x := fillE size n (evp (mapR (fun p => (p.1, mv ns p.2)) ps) tm) (c.set p.1 (cellsOf (ev (mv ns p.2) tm)))) h
    obtain ⟨h1, h2⟩ := and_inv hc
    obtain ⟨h2, h3⟩ := and_inv h2
    have h1 := oneL_all h1
    have h2 := Nat.eq_of_beq_eq_true h2
    have h3 := Nat.le_of_ble_eq_true h3
    rw [lenR_eq] at h2
    have hR := ev_R hm p.2
    have hsz := cells_size hR h1
    have hcs := cells_R hR h1
    have hle : p.1 * size + size ≤ cells.size := by
      rw [hs, ← Nat.succ_mul]; exact Nat.mul_le_mul_right _ h3
    obtain ⟨c2, h4, h5, h6⟩ := fill_cons (place := fun i => some (i * size, size)) (i := p.1) (v := a.eval p.2) (rest := ps.map fun p => (p.1, a.eval p.2)) rfl (by rw [hsz]; exact h2) hle
    rw [List.map_cons, h4]
    refine fillE_run hm ps _ c' c2 h (fun i l hi => ?_) (by rw [h5]; exact hs)
    rw [T.at_set] at hi
    by_cases hpi : p.1 = i
    · subst hpi
      rw [if_pos rfl] at hi
      cases hi
      refine ⟨h3, h2, fun j y hj => ?_⟩
      obtain ⟨v, h7, h8⟩ := hcs.at hj
      have hjl := (List.getElem?_eq_some_iff.1 hj).1
      have h2' : (cellsOf (ev (mv ns p.2) tm)).length = size := h2
      refine ⟨h1 _ (List.mem_of_getElem? hj), v, ?_, h8⟩
      rw [h6, if_pos (by omega), show p.1 * size + j - p.1 * size = j by omega]
      simpa using h7
    · rw [if_neg hpi] at hi
      obtain ⟨h7, h8, h9⟩ := hr i l hi
      refine ⟨h7, h8, fun j y hj => ?_⟩
      obtain ⟨h10, v, h11, h12⟩ := h9 j y hj
      refine ⟨h10, v, ?_, h12⟩
      have hjl := (List.getElem?_eq_some_iff.1 hj).1
      rw [h6, if_neg ?_]
      · exact h11
      · rintro ⟨h13, h14⟩
        rcases Nat.lt_trichotomy i p.1 with hlt | heq | hgt
        · have : (i + 1) * size ≤ p.1 * size := Nat.mul_le_mul_right _ hlt
          rw [Nat.succ_mul] at this; omega
        · exact hpi heq.symm
        · have : (p.1 + 1) * size ≤ i * size := Nat.mul_le_mul_right _ hgt
          rw [Nat.succ_mul] at this; omega
theorem oRow_inv [FX] {z : Option (List AV)} {n size el : Nat} {ps : List (Nat × AV)} (h : oRow z n size el ps s = .val v s') : ∃ l c, z = some l ∧ n * size ≤ 16777216 ∧ oneL l = true ∧ l.length = size ∧ fillE size n ps (reps l n) = some c ∧ v = .slc s.next 0 n (.ex n) ∧ s' = s.add (.cells c n size el false) := by
  cases z with
  | none => cases h
  | some l =>
    obtain ⟨hc, h⟩ := gate (x := rowMade (fillE size n ps (reps l n)) n size el s) h
    obtain ⟨h1, h2⟩ := and_inv hc
    obtain ⟨h2, h3⟩ := and_inv h2
    have h3 := Nat.eq_of_beq_eq_true h3
    rw [lenR_eq] at h3
    cases hf : fillE size n ps (reps l n) with
    | none => rw [hf] at h; cases h
    | some c =>
      rw [hf] at h
      injection h with h4 h5
      exact ⟨l, c, rfl, Nat.le_of_ble_eq_true h1, h2, h3, hf, h4.symm, h5.symm⟩
theorem op_row [FX] (ht : TbOk P B) (hr : Rep e s w) (hm : RTm e s.next ns tm a) {t : TypeId} {n : Nat} {ps : Array (Nat × Operand)} (ho : o.op = .buildSlice t n ps) {el : Nat} (hd : dsc B t = .slice el) (hk : knownT B el = true) (h : oRow (zeroC B el) n (sizeT B el) el (evp (mapR (fun p => (p.1, mv ns p.2)) ps.toList) tm) s = .val v s') : OkV P e s w (execOp a.eval o) v s' := by
  obtain ⟨l, c, h1, h2, h3, h4, h5, rfl, rfl⟩ := oRow_inv h
  obtain ⟨u, h9, h10⟩ := zero_run ht h1
  have h11 := oneL_all h3
  have h10 := h10 (e := e) (q := s.next) h11
  obtain ⟨ti, hi, hz, hb⟩ := bytes_run ht hk
  have hu := ht.dsc hd (by intro hh; cases hh)
  obtain ⟨cells, h12, h13, h14⟩ := fillE_run (a := a) hm ps.toList _ _ (rowArr (if n * l.length = 0 then #[] else u.cells) (n * l.length)) h5 (by rw [← h4]; exact rows_reps n h10 h11) (by rw [rowArr_size, h4])
  refine ⟨e.up s.next w.heap.size 0, w.alloc (.cells cells el (0, 0)), .value (.slice (some ⟨w.heap.size, 0, none⟩) n n), ?_, Stp.cells hr (by simpa using h13) (fun h => by cases h) h14, .inl ⟨_, rfl, slc_new rfl 0 n rfl trivial⟩⟩
  have hsz : ti.size = l.length := by rw [← hz, h4]
  unfold execOp
  rw [ho]
  have hle : ¬ n * l.length > 2 ^ 24 := by rw [h4]; omega
  have hps : (ps.map fun x => (x.1, a.eval x.2)).toList = ps.toList.map fun p => (p.1, a.eval p.2) := by simp
  rw [← h4] at h12
  simp only [Instr.buildSlice, Sem.run_bind, run_underlying hu, Result.andThen_ok, sizeOf, typeInfo, run_program, hi, Sem.run_pure, hsz]
  rw [if_neg hle]
  by_cases h0 : n * l.length = 0
  · rw [if_pos h0]
    rw [if_pos h0] at h12
    simp only [Sem.run_bind, Sem.run_pure, Result.andThen_ok]
    rw [show (Instr.fill (fun i => some (i * l.length, l.length)) ((Array.range (n * l.length)).map fun x => (#[] : Array Value)[x % (#[] : Array Value).size]!) (ps.map fun x => (x.1, a.eval x.2)).toList) = some cells by rw [hps]; exact h12]
    simp only [Sem.run_bind, Sem.run_pure, Result.andThen_ok, newRow, run_newObj]
    rfl
  · rw [if_neg h0]
    rw [if_neg h0] at h12
    simp only [Sem.run_bind, Sem.run_pure, Result.andThen_ok, h9]
    rw [show (Instr.fill (fun i => some (i * l.length, l.length)) ((Array.range (n * l.length)).map fun x => u.cells[x % u.cells.size]!) (ps.map fun x => (x.1, a.eval x.2)).toList) = some cells by rw [hps]; exact h12]
    simp only [Sem.run_bind, Sem.run_pure, Result.andThen_ok, newRow, run_newObj]
    rfl
/-- The parts' places are the program's. -/
def PM (ns : NS) (place : Nat → Option (Nat × Nat)) : List (Nat × Operand) → List (Nat × Nat × MV) → Prop
  | [], qs => qs = []
  | p :: ps, qs => ∃ off sz r, qs = (off, sz, mv ns p.2) :: r ∧ place p.1 = some (off, sz) ∧ PM ns place ps r
theorem fillQ_run [FX] (hm : RTm e q ns tm a) {place : Nat → Option (Nat × Nat)} : ∀ (ps : List (Nat × Operand)) (qs : List (Nat × Nat × MV)) (l l' : List AV) (cells : Array Value), PM ns place ps qs → fillQ (evq qs tm) l = some l' → RL e q l cells.toList →
    ∃ cells', Instr.fill place cells (ps.map fun p => (p.1, a.eval p.2)) = some cells' ∧ RL e q l' cells'.toList
  | [], qs, l, l', cells, hp, h, hr => by subst hp; cases h; exact ⟨cells, rfl, hr⟩
  | p :: ps, qs, l, l', cells, hp, h, hr => by
    obtain ⟨off, sz, r, rfl, hpl, hp⟩ := hp
    obtain ⟨hc, h⟩ := gateO (x := fillQ (evq r tm) (setR (cellsOf (ev (mv ns p.2) tm)) off l)) h
    obtain ⟨h1, h2⟩ := and_inv hc
    obtain ⟨h2, h3⟩ := and_inv h2
    have h1 := oneL_all h1
    have h2 := Nat.eq_of_beq_eq_true h2
    have h3 := Nat.le_of_ble_eq_true h3
    replace h1 : ∀ x ∈ cellsOf (ev (mv ns p.2) tm), oneB x = true := h1
    rw [lenR_eq] at h2
    replace h3 : off + lenR (cellsOf (ev (mv ns p.2) tm)) ≤ lenR l := h3
    rw [lenR_eq, lenR_eq] at h3
    replace h2 : (cellsOf (ev (mv ns p.2) tm)).length = sz := h2
    have hR := ev_R hm p.2
    have hsz := cells_size hR h1
    have hcs := cells_R hR h1
    have hlen : cells.size = l.length := by have := hr.len; simpa using this
    obtain ⟨c2, h4, h5, h6⟩ := fill_cons (place := place) (i := p.1) (v := a.eval p.2) (rest := ps.map fun p => (p.1, a.eval p.2)) hpl (by rw [hsz]; exact h2) (show off + sz ≤ cells.size by omega)
    rw [List.map_cons, h4]
    refine fillQ_run hm ps r _ l' c2 hp h (RL.mk (by rw [setR_len]; simp; omega) fun j x y hj hv => ?_)
    rw [setR_at] at hj
    rw [Array.getElem?_toList, h6] at hv
    by_cases hc : off ≤ j ∧ j < off + (cellsOf (ev (mv ns p.2) tm)).length ∧ j < l.length
    · rw [if_pos hc] at hj
      rw [if_pos (by omega)] at hv
      obtain ⟨y', h7, h8⟩ := hcs.at hj
      rw [Array.getElem?_toList] at h7
      rw [h7] at hv
      cases hv
      exact h8
    · rw [if_neg hc] at hj
      have hjl := (List.getElem?_eq_some_iff.1 hj).1
      rw [if_neg (by omega)] at hv
      obtain ⟨y', h7, h8⟩ := hr.at hj
      rw [Array.getElem?_toList] at h7
      rw [h7] at hv
      cases hv
      exact h8
theorem partsS_PM (fs : List Field) : ∀ (ps : List (Nat × Operand)) (qs : List (Nat × Nat × MV)), partsS B ns fs ps = some qs → PM ns (fun i => (fs.map fun f => (f.offset, sizeT B f.type))[i]?) ps qs
  | [], qs, h => by cases h; rfl
  | p :: ps, qs, h => by
    replace h : partF2 B (mv ns p.2) (atR fs p.1) (partsS B ns fs ps) = some qs := h
    rw [atR_eq] at h
    cases hf : fs[p.1]? with
    | none => rw [hf] at h; cases h
    | some f =>
      rw [hf] at h
      cases hr : partsS B ns fs ps with
      | none => rw [hr] at h; cases h
      | some r =>
        rw [hr] at h
        cases h
        exact ⟨_, _, _, rfl, by simp only [List.getElem?_map, hf]; rfl, partsS_PM fs ps r hr⟩
theorem knF_places [FX] (ht : TbOk P B) : ∀ (fs : List Field), knF B fs = true → fs.mapM (fun f => (P.info? f.type).map fun i => (f.offset, i.size)) = some (fs.map fun f => (f.offset, sizeT B f.type))
  | [], _ => by simp
  | f :: fs, h => by
    obtain ⟨h1, h2⟩ := and_inv (show and (knownT B f.type) (knF B fs) = true from h)
    obtain ⟨ti, hi, hz, _⟩ := bytes_run ht h1
    simp [List.mapM_cons, hi, knF_places ht fs h2, hz]
theorem zero_info [FX] (ht : TbOk P B) {t : TypeId} {l : List AV} (h : zeroC B t = some l) : ∃ ti u, P.info? t = some ti ∧ ti.zero = some u ∧ ∀ {e : En} {q : Nat}, (∀ a ∈ l, oneB a = true) → RL e q l u.cells.toList := by
  unfold zeroC zero at h
  cases hi : B.ty.at_ t with
  | none => rw [hi] at h; cases h
  | some i =>
    rw [hi] at h
    obtain ⟨ti, h1, _, _, _, _, _, _, h2⟩ := ht.ty t i hi
    replace h : Option.rec none (fun z => some (cellsOf z)) i.zero = some l := h
    cases hz : i.zero with
    | none => rw [hz] at h; cases h
    | some z =>
      rw [hz] at h
      cases h
      obtain ⟨v, h3, rfl⟩ := h2 z hz
      exact ⟨ti, v, h1, h3, fun h => cells_R (ofV_R v) h⟩
/-- What a literal is compiled to. -/
theorem bldOf_inv {d : TypeDesc} {z : Option (List AV)} {ps : List (Nat × Operand)} {m : MOp} (h : bldOf ns d z B ps = m) (hm : m ≠ .none) :
    (∃ fs qs, d = .struct fs ∧ knF B fs.toList = true ∧ partsS B ns fs.toList ps = some qs ∧ m = .build z qs) ∨ ∃ n el, d = .array n el ∧ knownT B el = true ∧ m = .build z (mapR (fun p => (Nat.mul p.1 (sizeT B el), sizeT B el, mv ns p.2)) ps) := by
  cases d <;> first | (exact absurd h.symm hm) | skip
  case struct fs =>
    replace h : Bool.rec .none (bldM z (partsS B ns fs.toList ps)) (knF B fs.toList) = m := h
    cases hk : knF B fs.toList with
    | false => rw [hk] at h; exact absurd h.symm hm
    | true =>
      rw [hk] at h
      cases hp : partsS B ns fs.toList ps with
      | none => rw [hp] at h; exact absurd h.symm hm
      | some qs => rw [hp] at h; exact .inl ⟨fs, qs, rfl, hk, hp, h.symm⟩
  case array n el =>
    replace h : Bool.rec .none (.build z (mapR (fun p => (Nat.mul p.1 (sizeT B el), sizeT B el, mv ns p.2)) ps)) (knownT B el) = m := h
    cases hk : knownT B el with
    | false => rw [hk] at h; exact absurd h.symm hm
    | true => rw [hk] at h; exact .inr ⟨n, el, rfl, hk, h.symm⟩
theorem op_build [FX] (ht : TbOk P B) (hr : Rep e s w) (hm : RTm e s.next ns tm a) {t : TypeId} {ps : Array (Nat × Operand)} (ho : o.op = .build t ps) {m : MOp} (hmm : bldOf ns (dsc B t) (zeroC B t) B ps.toList = m) (h : opA m tm s = .val v s') : OkV P e s w (execOp a.eval o) v s' := by
  have hps : (ps.map fun x => (x.1, a.eval x.2)).toList = ps.toList.map fun p => (p.1, a.eval p.2) := by simp
  have hfin : ∀ (qs : List (Nat × Nat × MV)) (place : Nat → Option (Nat × Nat)), m = .build (zeroC B t) qs → PM ns place ps.toList qs → (∀ ti u cells, P.info? t = some ti → ti.zero = some u → Instr.fill place u.cells (ps.map fun x => (x.1, a.eval x.2)).toList = some cells → P.built t (ps.map fun x => (x.1, a.eval x.2)).toList = some cells) → OkV P e s w (execOp a.eval o) v s' := by
    intro qs place hmq hpm hb
    subst hmq
    obtain ⟨h1, rfl⟩ := vl_inv (show vl (buildO (zeroC B t) (evq qs tm)) 3 s = .val v s' from h)
    cases hz : zeroC B t with
    | none => rw [hz] at h1; cases h1
    | some l =>
      rw [hz] at h1
      obtain ⟨h2, h1⟩ := gateO (x := aggO (fillQ (evq qs tm) l)) h1
      cases hf : fillQ (evq qs tm) l with
      | none => rw [hf] at h1; cases h1
      | some l' =>
        rw [hf] at h1
        cases h1
        obtain ⟨ti, u, h3, h4, h5⟩ := zero_info ht hz
        obtain ⟨cells, h6, h7⟩ := fillQ_run (a := a) hm ps.toList qs l l' u.cells hpm hf (h5 (oneL_all h2))
        refine okV_pure hr (u := .agg cells) ?_ ⟨cells, rfl, h7⟩
        unfold execOp
        rw [ho]
        simp only [Sem.run_bind, run_build w t (ps.map fun x => (x.1, a.eval x.2)) cells (hb ti u cells h3 h4 (by rw [hps]; exact h6)), Result.andThen_ok]
        rfl
  have hnone : m ≠ .none := by rintro rfl; cases h
  rcases bldOf_inv hmm hnone with ⟨fs, qs, hd, hk, hp, hq⟩ | ⟨n, el, hd, hk, hq⟩
  · have hu := ht.dsc hd (by intro hh; cases hh)
    refine hfin qs _ hq (partsS_PM fs.toList ps.toList qs hp) fun ti u cells h3 h4 h5 => ?_
    unfold Program.built
    rw [h3, hu]
    simp only [h4, knF_places ht fs.toList hk]
    simpa using h5
  · have hu := ht.dsc hd (by intro hh; cases hh)
    obtain ⟨te, hi, hz, _⟩ := bytes_run ht hk
    refine hfin _ (fun i => some (i * te.size, te.size)) hq ?_ fun ti u cells h3 h4 h5 => ?_
    · rw [mapR_eq]
      generalize ps.toList = l
      induction l with
      | nil => rfl
      | cons p l ih => exact ⟨_, _, _, rfl, by rw [hz]; rfl, ih⟩
    · unfold Program.built
      rw [h3, hu]
      simp only [h4, hi]
      exact h5
end

section
variable {P : Program} {B : Tb} {e : En} {s s' : St} {w : World} {ns : NS} {tm : Tm} {a : Act} {o : Oper} {v : AV} {q : Nat}

theorem kn_inv {t : Nat} {m m' : MOp} (h : kn B t m = m') (hm : m' ≠ .none) : knownT B t = true ∧ m' = m := by
  replace h : Bool.rec .none m (knownT B t) = m' := h
  cases hk : knownT B t with
  | false => rw [hk] at h; exact absurd h.symm hm
  | true => rw [hk] at h; exact ⟨rfl, h.symm⟩
theorem oFieldAddr_inv {x : AV} {k : Option Nat} (h : oFieldAddr x k s = .val v s') : ∃ b o j, x = .ptr b o ∧ k = some j ∧ v = .ptr b (o + j) ∧ s = s' := by
  cases x <;> first | (cases h; done) | skip
  rename_i b o
  replace h : ptrO k b o s = .val v s' := h
  cases k with
  | none => cases h
  | some j =>
    injection h with h1 h2
    exact ⟨b, o, j, rfl, rfl, h1.symm, h2⟩
theorem op_fieldAddr [FX] (ht : TbOk P B) (hr : Rep e s w) (hm : RTm e s.next ns tm a) {t : TypeId} {x : Operand} {i : Nat} (ho : o.op = .fieldAddr t x i) (h : oFieldAddr (ev (mv ns x) tm) (offOf B (atR (fsOf (dsc B t)) i)) s = .val v s') : OkV P e s w (execOp a.eval o) v s' := by
  obtain ⟨b, off, j, h1, h2, rfl, rfl⟩ := oFieldAddr_inv h
  have hx := ev_R hm x
  rw [h1] at hx
  obtain ⟨h3, h4⟩ := hx
  rw [atR_eq] at h2
  cases hd : dsc B t <;> rw [hd] at h2 <;> first | (cases h2; done) | skip
  rename_i fs
  have hu := ht.dsc hd (by intro hh; cases hh)
  replace h2 : offOf B (fs.toList[i]?) = some j := h2
  cases hf : fs.toList[i]? with
  | none => rw [hf] at h2; cases h2
  | some f =>
    rw [hf] at h2
    obtain ⟨h5, h6⟩ := gateO (x := some f.offset) h2
    cases h6
    obtain ⟨h5, h6⟩ := and_inv h5
    have h6 := Nat.le_of_ble_eq_true h6
    obtain ⟨ti, hi, hz, _⟩ := bytes_run ht h5
    have hfs : fs[i]? = some f := by rw [← Array.getElem?_toList]; exact hf
    refine okV_pure hr (u := .pointer (some ⟨e.σ b, off + f.offset, none⟩)) ?_ ⟨h3, rfl⟩
    unfold execOp
    rw [ho]
    have hne : ¬ ti.size = 0 := by omega
    simp [Instr.fieldAt, run_underlying hu, hfs, h4, Instr.sureAddr, fieldPlace, sizeOf, typeInfo, hi, hne, Addr.add_mid]
theorem part_run [FX] (ht : TbOk P B) {t : TypeId} (hk : knownT B t = true) {l : List AV} {cs : Array Value} (hl : RL e q l cs.toList) {i : Nat} {r : AV} (h : partA (aggT B t) (sizeT B t) l i = some r) : ∃ u, (part t cs i).run P w = .ok u w ∧ R e q r u := by
  obtain ⟨ti, d, hi, hz, hu, hg, _⟩ := ht.info hk
  cases hgg : aggT B t with
  | true =>
    rw [hgg] at h hg
    replace h : aggO (subR l i (sizeT B t)) = some r := h
    cases hs : subR l i (sizeT B t) with
    | none => rw [hs] at h; cases h
    | some k =>
      rw [hs] at h
      cases h
      have hs2 : takeR (l.drop i) (sizeT B t) = some k := by rw [← dropR_eq]; exact hs
      obtain ⟨rfl, hs3⟩ := takeR_eq hs2
      have hagg : (isAgg t).run P w = .ok true w := by
        unfold isAgg
        rw [Sem.run_bind, run_underlying hu w]
        cases d <;> first | rfl | cases hg
      refine ⟨.agg (cs.extract i (i + sizeT B t)), ?_, _, rfl, ?_⟩
      · simp [part, hagg, sizeOf, typeInfo, hi, hz]
      · have : (cs.extract i (i + sizeT B t)).toList = (cs.toList.drop i).take (sizeT B t) := by
          rw [Array.toList_extract, List.extract_eq_take_drop, Nat.add_sub_cancel_left]
        rw [this]
        exact (hl.drop i).take _
  | false =>
    rw [hgg] at h hg
    replace h : atR l i = some r := h
    rw [atR_eq] at h
    obtain ⟨u, h1, h2⟩ := hl.at h
    rw [Array.getElem?_toList] at h1
    have hagg : (isAgg t).run P w = .ok false w := by
      unfold isAgg
      rw [Sem.run_bind, run_underlying hu w]
      cases d <;> first | rfl | cases hg
    exact ⟨u, by simp [part, hagg, h1], h2⟩
theorem oField_inv [FX] {x : AV} {f : Option FI} (h : oField x f s = .val v s') : ∃ l g, x = .agg l ∧ f = some g ∧ partA g.agg g.size l g.off = some v ∧ s = s' := by
  cases x <;> first | (cases h; done) | skip
  rename_i l
  cases f with
  | none => cases h
  | some g =>
    obtain ⟨h1, h2⟩ := vl_inv (show vl (partA g.agg g.size l g.off) 16 s = .val v s' from h)
    exact ⟨l, g, rfl, rfl, h1, h2⟩
theorem op_field [FX] (ht : TbOk P B) (hr : Rep e s w) (hm : RTm e s.next ns tm a) {t : TypeId} {x : Operand} {i : Nat} (ho : o.op = .field t x i) (h : oField (ev (mv ns x) tm) (fiOf B (atR (fsOf (dsc B t)) i)) s = .val v s') : OkV P e s w (execOp a.eval o) v s' := by
  obtain ⟨l, g, h1, h2, h3, rfl⟩ := oField_inv h
  have hx := ev_R hm x
  rw [h1] at hx
  obtain ⟨cs, h4, h5⟩ := hx
  rw [atR_eq] at h2
  cases hd : dsc B t <;> rw [hd] at h2 <;> first | (cases h2; done) | skip
  rename_i fs
  have hu := ht.dsc hd (by intro hh; cases hh)
  replace h2 : fiOf B (fs.toList[i]?) = some g := h2
  cases hf : fs.toList[i]? with
  | none => rw [hf] at h2; cases h2
  | some f =>
    rw [hf] at h2
    obtain ⟨h6, h7⟩ := gateO (x := some (FI.mk f.offset (aggT B f.type) (sizeT B f.type))) h2
    cases h7
    obtain ⟨u, h8, h9⟩ := part_run (P := P) (w := w) ht h6 h5 h3
    have hfs : fs[i]? = some f := by rw [← Array.getElem?_toList]; exact hf
    refine okV_pure hr ?_ h9
    unfold execOp
    rw [ho]
    simp [Instr.field, run_underlying hu, hfs, h4, asAgg, h8]
theorem idx_inv [FX] {x : AV} {n j : Nat} (h : idx x n = some j) : ∃ k, x = .int k (.ofNat j) ∧ j < n := by
  unfold idx at h
  split at h
  · obtain ⟨h1, h2⟩ := gateO (x := some _) h
    cases h2
    exact ⟨_, rfl, Nat.le_of_ble_eq_true h1⟩
  · cases h
theorem elO_inv {x : Option Nat} {b o z : Nat} (h : elO x b o z s = .val v s') : ∃ j, x = some j ∧ v = .ptr b (o + j * z) ∧ s = s' := by
  cases x with
  | none => cases h
  | some j => injection h with h1 h2; exact ⟨j, rfl, h1.symm, h2⟩
theorem op_indexAddr [FX] (ht : TbOk P B) (hr : Rep e s w) (hm : RTm e s.next ns tm a) {t : TypeId} {x i : Operand} (ho : o.op = .indexAddr t x i) {m : MOp} (hmm : iaOf B (mv ns x) (mv ns i) (dsc B t) = m) (h : opA m tm s = .val v s') : OkV P e s w (execOp a.eval o) v s' := by
  have hne : m ≠ .none := by rintro rfl; cases h
  have hx := ev_R hm x
  have hi := ev_R hm i
  cases hd : dsc B t <;> rw [hd] at hmm <;> first | exact absurd hmm.symm hne | skip
  case slice el =>
    obtain ⟨hk, rfl⟩ := kn_inv hmm hne
    have hu := ht.dsc hd (by intro hh; cases hh)
    obtain ⟨te, hie, hz, _⟩ := bytes_run ht hk
    replace h : oIndexAddr (ev (mv ns x) tm) (ev (mv ns i) tm) none (sizeT B el) s = .val v s' := h
    generalize ev (mv ns x) tm = X at hx h
    cases X <;> first | (cases h; done) | skip
    rename_i b off n c
    obtain ⟨j, h1, rfl, rfl⟩ := elO_inv (show elO (idx (ev (mv ns i) tm) n) b off (sizeT B el) s = .val v s' from h)
    obtain ⟨k, h2, h3⟩ := idx_inv h1
    rw [h2] at hi
    have hi : a.eval i = .int k (j : Int) := hi
    obtain ⟨h4, h5⟩ := hx
    refine okV_pure hr (u := .pointer (some ⟨e.σ b, off + j * sizeT B el, none⟩)) ?_ ⟨h4.1, rfl⟩
    unfold execOp
    rw [ho]
    simp [Instr.indexAt, run_underlying hu, h5, hi, asIntOf, sizeOf, typeInfo, hie, h3, Addr.add_mid, hz]
  case array n el =>
    obtain ⟨hk, rfl⟩ := kn_inv hmm hne
    have hu := ht.dsc hd (by intro hh; cases hh)
    obtain ⟨te, hie, hz, _⟩ := bytes_run ht hk
    replace h : oIndexAddr (ev (mv ns x) tm) (ev (mv ns i) tm) (some n) (sizeT B el) s = .val v s' := h
    generalize ev (mv ns x) tm = X at hx h
    cases X <;> first | (cases h; done) | skip
    rename_i b off
    obtain ⟨j, h1, rfl, rfl⟩ := elO_inv (show elO (idx (ev (mv ns i) tm) n) b off (sizeT B el) s = .val v s' from h)
    obtain ⟨k, h2, h3⟩ := idx_inv h1
    rw [h2] at hi
    have hi : a.eval i = .int k (j : Int) := hi
    obtain ⟨h4, h5⟩ := hx
    refine okV_pure hr (u := .pointer (some ⟨e.σ b, off + j * sizeT B el, none⟩)) ?_ ⟨h4, rfl⟩
    unfold execOp
    rw [ho]
    simp [Instr.indexAt, Instr.sureAddr, run_underlying hu, h5, hi, asIntOf, sizeOf, typeInfo, hie, h3, Addr.add_mid, hz]
theorem bys_at [FX] (l : List Nat) (j : Nat) : (bys l)[j]? = (l[j]?).map UInt8.ofNat := by
  by_cases h : j < (bys l).size
  · rw [ByteArray.getElem?_lt' _ _ h]
    rw [bys_size] at h
    rw [List.getElem?_eq_getElem h, Option.map_some]
    unfold bys
    show some ((l.map UInt8.ofNat).toArray[j]'(by simpa using h)) = _
    simp
  · rw [ByteArray.getElem?_ge' _ _ h]
    rw [bys_size] at h
    rw [List.getElem?_eq_none (by omega)]
    rfl
theorem op_index [FX] (ht : TbOk P B) (hr : Rep e s w) (hm : RTm e s.next ns tm a) {t : TypeId} {x i : Operand} (ho : o.op = .index t x i) {m : MOp} (hmm : ixOf B (mv ns x) (mv ns i) (dsc B t) = m) (h : opA m tm s = .val v s') : OkV P e s w (execOp a.eval o) v s' := by
  have hne : m ≠ .none := by rintro rfl; cases h
  have hx := ev_R hm x
  have hi := ev_R hm i
  cases hd : dsc B t <;> rw [hd] at hmm <;> first | exact absurd hmm.symm hne | skip
  case string =>
    subst hmm
    have hu := ht.dsc hd (by intro hh; cases hh)
    replace h : oIndex (ev (mv ns x) tm) (ev (mv ns i) tm) none false 0 s = .val v s' := h
    generalize ev (mv ns x) tm = X at hx h
    cases X <;> first | (cases h; done) | skip
    rename_i l
    replace h : idxS (idx (ev (mv ns i) tm) (lenR l)) l s = .val v s' := h
    cases hj : idx (ev (mv ns i) tm) (lenR l) with
    | none => rw [hj] at h; cases h
    | some j =>
      rw [hj] at h
      obtain ⟨h1, rfl⟩ := vl_inv (show vl (byteO (atR l j)) 22 s = .val v s' from h)
      rw [atR_eq] at h1
      cases hl : l[j]? with
      | none => rw [hl] at h1; cases h1
      | some c =>
        rw [hl] at h1
        cases h1
        obtain ⟨k, h2, h3⟩ := idx_inv hj
        rw [h2] at hi
        have hi : a.eval i = .int k (j : Int) := hi
        obtain ⟨h4, h5⟩ := hx
        have hc := h4 c (List.mem_of_getElem? hl)
        refine okV_pure hr (u := .int .u8 (.ofNat c)) ?_ rfl
        unfold execOp
        rw [ho]
        have hb : (bys l)[j]? = some (UInt8.ofNat c) := by rw [bys_at, hl]; rfl
        simp [Instr.index, run_underlying hu, h5, hi, asIntOf, hb]
        omega
  case array n el =>
    obtain ⟨hk, rfl⟩ := kn_inv hmm hne
    have hu := ht.dsc hd (by intro hh; cases hh)
    obtain ⟨te, hie, hz, _⟩ := bytes_run ht hk
    replace h : oIndex (ev (mv ns x) tm) (ev (mv ns i) tm) (some n) (aggT B el) (sizeT B el) s = .val v s' := h
    generalize ev (mv ns x) tm = X at hx h
    cases X <;> first | (cases h; done) | skip
    rename_i l
    replace h : idxA (idx (ev (mv ns i) tm) n) (aggT B el) (sizeT B el) l s = .val v s' := h
    cases hj : idx (ev (mv ns i) tm) n with
    | none => rw [hj] at h; cases h
    | some j =>
      rw [hj] at h
      obtain ⟨h1, rfl⟩ := vl_inv (show vl (partA (aggT B el) (sizeT B el) l (j * sizeT B el)) 24 s = .val v s' from h)
      obtain ⟨k, h2, h3⟩ := idx_inv hj
      rw [h2] at hi
      have hi : a.eval i = .int k (j : Int) := hi
      obtain ⟨cs, h4, h5⟩ := hx
      obtain ⟨u, h6, h7⟩ := part_run (P := P) (w := w) ht hk h5 h1
      refine okV_pure hr ?_ h7
      unfold execOp
      rw [ho]
      rw [hz] at h6
      simp [Instr.index, run_underlying hu, h4, hi, asIntOf, sizeOf, typeInfo, hie, h3, h6]
end

section
variable {P : Program} {B : Tb} {e : En} {s s' : St} {w : World} {ns : NS} {tm : Tm} {a : Act} {o : Oper} {v : AV} {q : Nat}

theorem bnd_inv [FX] (hm : RTm e q ns tm a) {x : Option Operand} {d i : Nat} (h : bnd (evo (mvo ns x) tm) d = some i) : (x = none ∧ i = d) ∨ ∃ y k, x = some y ∧ a.eval y = .int k (i : Int) := by
  cases x with
  | none => cases h; exact .inl ⟨rfl, rfl⟩
  | some y =>
    replace h : bnd (some (ev (mv ns y) tm)) d = some i := h
    have hy := ev_R hm y
    generalize ev (mv ns y) tm = Y at h hy
    unfold bnd at h
    split at h <;> first | (cases h; done) | skip
    · rename_i hh; cases hh
    · rename_i k j hh
      cases hh
      cases h
      exact .inr ⟨y, k, rfl, hy⟩
theorem bounds_run [FX] (hm : RTm e q ns tm a) {lo hi : Option Operand} {is : Bool} {len cap i j : Nat} (h1 : bnd (evo (mvo ns lo) tm) 0 = some i) (h2 : bnd (evo (mvo ns hi) tm) len = some j) (hij : i ≤ j) (hj : hi ≠ none → j ≤ cap) : (Instr.sliceBounds is len cap (lo.map a.eval) (hi.map a.eval) none).run P w = .ok (i, j, cap) w := by
  rcases bnd_inv hm h1 with ⟨rfl, rfl⟩ | ⟨y, k, rfl, h3⟩ <;> rcases bnd_inv hm h2 with ⟨rfl, rfl⟩ | ⟨z, k', rfl, h4⟩
  · simp [Instr.sliceBounds]
  · have := hj (by simp)
    cases is <;> simp [Instr.sliceBounds, Instr.sliceBound, asIntOf, h4, this]
  · cases is <;> simp [Instr.sliceBounds, Instr.sliceBound, asIntOf, h3, hij]
  · have := hj (by simp)
    cases is <;> simp [Instr.sliceBounds, Instr.sliceBound, asIntOf, h3, h4, hij, this]
theorem bys_cut (l : List Nat) (i j : Nat) : (bys l).extract i j = bys ((l.drop i).take (j - i)) := by
  apply ByteArray.ext
  rw [ByteArray.data_extract]
  unfold bys
  apply Array.ext'
  rw [Array.toList_extract, List.extract_eq_take_drop]
  simp [List.map_take, List.map_drop]
theorem cutC_inv [FX] {c : Cp} {b off n z i j κ : Nat} (h : cutC c b off n z i j = some v) (hf : c.fits n κ) : i ≤ j ∧ ((∃ g, c = .gap g) → j ≤ n) ∧ (∀ x, c = .ex x → j ≤ x) ∧ ((v = .emp ∧ i = j) ∨ ∃ c' off', v = .slc b off' (j - i) c' ∧ c'.fits (j - i) κ ∧ c'.cap κ = c.cap κ - i ∧ off' = if c.cap κ = i then off else off + i * z) := by
  cases c with
  | ex x =>
    obtain ⟨h1, h2⟩ := gateO (x := some _) h
    obtain ⟨h1, h3⟩ := and_inv h1
    have h1 := Nat.le_of_ble_eq_true h1
    have h3 := Nat.le_of_ble_eq_true h3
    cases h2
    refine ⟨h1, (fun ⟨g, hg⟩ => by cases hg), (fun y hy => by cases hy; exact h3), .inr ⟨_, _, rfl, trivial, rfl, ?_⟩⟩
    show _ = if x = i then off else off + i * z
    cases hb : Nat.beq x i with
    | true => rw [if_pos (Nat.eq_of_beq_eq_true hb)]
    | false => rw [if_neg (Nat.ne_of_beq_eq_false hb)]; rfl
  | gap g =>
    have hf : n + g ≤ κ := hf
    obtain ⟨h1, h2⟩ := gateO (x := (Bool.rec (Bool.rec (some .emp) (some (AV.slc b (Nat.add off (Nat.mul i z)) (Nat.sub j i) (.gap (Nat.add g i)))) (Nat.ble (i + 1) j)) (some (AV.slc b off j (.gap g))) (Nat.beq i 0) : Option AV)) h
    obtain ⟨h1, h3⟩ := and_inv h1
    have h1 := Nat.le_of_ble_eq_true h1
    have h3 := Nat.le_of_ble_eq_true h3
    refine ⟨h1, (fun _ => h3), (fun y hy => by cases hy), ?_⟩
    cases hb : Nat.beq i 0 with
    | true =>
      rw [hb] at h2
      have hi := Nat.eq_of_beq_eq_true hb
      subst hi
      cases h2
      refine .inr ⟨_, _, rfl, (show j - 0 + g ≤ κ by omega), rfl, ?_⟩
      split <;> simp
    | false =>
      rw [hb] at h2
      replace h2 : (Bool.rec (some .emp) (some (AV.slc b (Nat.add off (Nat.mul i z)) (Nat.sub j i) (.gap (Nat.add g i)))) (Nat.ble (i + 1) j) : Option AV) = some v := h2
      cases h4 : Nat.ble (i + 1) j with
      | false =>
        rw [h4] at h2
        cases h2
        refine .inl ⟨rfl, ?_⟩
        rcases Nat.lt_or_ge i j with hlt | hge
        · rw [Nat.ble_eq_true_of_le hlt] at h4; cases h4
        · omega
      | true =>
      rw [h4] at h2
      have h4 := Nat.le_of_ble_eq_true h4
      cases h2
      refine .inr ⟨_, _, rfl, (show j - i + (g + i) ≤ κ by omega), (show κ - (g + i) = κ - g - i by omega), ?_⟩
      rw [if_neg (show ¬ (Cp.gap g).cap κ = i by show ¬ κ - g = i; omega)]
      rfl
theorem sliceA_lit {u : Value} {z : Option Nat} {lo hi : Option AV} (h : sliceA (.lit u) z lo hi = some v) : u = .slice none 0 0 ∧ z ≠ none ∧ cutN (bnd lo 0) (bnd hi 0) (.lit (.slice none 0 0)) = some v := by
  generalize hX : AV.lit u = X at h
  unfold sliceA at h
  split at h <;> first | (cases h; done) | (cases hX; done) | skip
  cases hX
  exact ⟨rfl, (fun hh => by cases hh), h⟩
theorem op_slice [FX] (ht : TbOk P B) (hr : Rep e s w) (hm : RTm e s.next ns tm a) {t : TypeId} {x : Operand} {lo hi mx : Option Operand} (ho : o.op = .slice t x lo hi mx) {m : MOp} (hmm : cmpS mx (cutOf B (mv ns x) (mvo ns lo) (mvo ns hi) (dsc B t)) = m) (h : opA m tm s = .val v s') : OkV P e s w (execOp a.eval o) v s' := by
  have hne : m ≠ .none := by rintro rfl; cases h
  have hx := ev_R hm x
  cases mx with
  | some y => exact absurd hmm.symm hne
  | none =>
  replace hmm : cutOf B (mv ns x) (mvo ns lo) (mvo ns hi) (dsc B t) = m := hmm
  cases hd : dsc B t <;> rw [hd] at hmm <;> first | exact absurd hmm.symm hne | skip
  case string =>
    subst hmm
    have hu := ht.dsc hd (by intro hh; cases hh)
    obtain ⟨h1, rfl⟩ := vl_inv (show vl (sliceA (ev (mv ns x) tm) none (evo (mvo ns lo) tm) (evo (mvo ns hi) tm)) 13 s = .val v s' from h)
    generalize ev (mv ns x) tm = X at hx h1
    cases X <;> first | (cases h1; done) | skip
    case lit => exact absurd rfl (sliceA_lit h1).2.1
    rename_i l
    replace h1 : cutS (bnd (evo (mvo ns lo) tm) 0) (bnd (evo (mvo ns hi) tm) (lenR l)) l = some v := h1
    cases hlo : bnd (evo (mvo ns lo) tm) 0 with
    | none => rw [hlo] at h1; cases h1
    | some i =>
      cases hhi : bnd (evo (mvo ns hi) tm) (lenR l) with
      | none => rw [hlo, hhi] at h1; cases h1
      | some j =>
        rw [hlo, hhi] at h1
        obtain ⟨h2, h3⟩ := gateO (x := strO (takeR (dropR l i) (j - i))) h1
        obtain ⟨h2, h7⟩ := and_inv h2
        have h2 := Nat.le_of_ble_eq_true h2
        have h7 := Nat.le_of_ble_eq_true h7
        rw [lenR_eq] at h7
        cases ht2 : takeR (dropR l i) (j - i) with
        | none => rw [ht2] at h3; cases h3
        | some r =>
          rw [ht2] at h3
          cases h3
          rw [dropR_eq] at ht2
          obtain ⟨rfl, h4⟩ := takeR_eq ht2
          rw [List.length_drop] at h4
          obtain ⟨h5, h6⟩ := hx
          refine okV_pure hr (u := .string (bys ((l.drop i).take (j - i)))) ?_ ⟨fun b hb => h5 b (List.mem_of_mem_drop (List.mem_of_mem_take hb)), rfl⟩
          rw [lenR_eq] at hhi
          have hb := bounds_run (P := P) (w := w) (is := false) (cap := l.length) hm hlo hhi h2 (fun _ => h7)
          unfold execOp
          rw [ho]
          simp [Instr.sliceAt, Instr.slice, run_underlying hu, h6, bys_size, hb, bys_cut]
  case slice el =>
    obtain ⟨hk, rfl⟩ := kn_inv hmm hne
    have hu := ht.dsc hd (by intro hh; cases hh)
    obtain ⟨te, hie, hz, _⟩ := bytes_run ht hk
    obtain ⟨h1, rfl⟩ := vl_inv (show vl (sliceA (ev (mv ns x) tm) (some (sizeT B el)) (evo (mvo ns lo) tm) (evo (mvo ns hi) tm)) 13 s = .val v s' from h)
    generalize ev (mv ns x) tm = X at hx h1
    cases X <;> first | (cases h1; done) | skip
    case lit u =>
      replace hx : a.eval x = u := hx
      obtain ⟨rfl, _, h1⟩ := sliceA_lit h1
      unfold cutN at h1
      split at h1 <;> first | (cases h1; done) | skip
      rename_i hlo hhi
      cases h1
      have hb := bounds_run (P := P) (w := w) (is := true) (cap := 0) hm hlo hhi (Nat.le_refl 0) (fun _ => Nat.le_refl 0)
      refine okV_pure hr (u := .slice none 0 0) ?_ rfl
      unfold execOp
      rw [ho]
      simp [Instr.sliceAt, Instr.slice, run_underlying hu, hx, hb, sizeOf, typeInfo, hie]
    case slc b off n c =>
      replace h1 : cutE (bnd (evo (mvo ns lo) tm) 0) (bnd (evo (mvo ns hi) tm) n) (sizeT B el) b off n c = some v := h1
      cases hlo : bnd (evo (mvo ns lo) tm) 0 with
      | none => rw [hlo] at h1; cases h1
      | some i =>
        cases hhi : bnd (evo (mvo ns hi) tm) n with
        | none => rw [hlo, hhi] at h1; cases h1
        | some j =>
          rw [hlo, hhi] at h1
          obtain ⟨⟨h2, h3⟩, h4⟩ := hx
          obtain ⟨h5, h7, h8, hv⟩ := cutC_inv (show cutC c b off n (sizeT B el) i j = some v from h1) h3
          have hcap : j ≤ c.cap (e.κ b) := by
            cases c with
            | ex x => exact h8 x rfl
            | gap g => have := h7 ⟨g, rfl⟩; have h3 : n + g ≤ e.κ b := h3; show j ≤ e.κ b - g; omega
          have hb := bounds_run (P := P) (w := w) (is := true) (cap := c.cap (e.κ b)) hm hlo hhi h5 (fun _ => hcap)
          rcases hv with ⟨rfl, hij⟩ | ⟨c', off', rfl, h9, h10, h11⟩
          · subst hij
            refine okV_pure hr (u := .slice (some ⟨e.σ b, if c.cap (e.κ b) = i then off else off + i * sizeT B el, none⟩) 0 (c.cap (e.κ b) - i)) ?_ ⟨_, _, rfl⟩
            unfold execOp
            rw [ho]
            simp [Instr.sliceAt, Instr.slice, run_underlying hu, h4, hb, sizeOf, typeInfo, hie]
            rw [hz]
            split <;> simp [Addr.add_mid]
          refine okV_pure hr (u := .slice (some ⟨e.σ b, off', none⟩) (j - i) (c.cap (e.κ b) - i)) ?_ ⟨⟨h2, h9⟩, by rw [h10]⟩
          unfold execOp
          rw [ho]
          simp [Instr.sliceAt, Instr.slice, run_underlying hu, h4, hb, sizeOf, typeInfo, hie]
          rw [h11, hz]
          split <;> simp [Addr.add_mid]
end

section
variable {P : Program} {B : Tb} {e : En} {s s' : St} {w : World} {ns : NS} {tm : Tm} {a : Act} {o : Oper} {v : AV} {q : Nat}

theorem putE_at : ∀ (l : List (List AV)) (i : Nat) (c : T (List AV)) (j : Nat), (putE l i c).at_ j = if i ≤ j ∧ j < i + l.length then l[j - i]? else c.at_ j
  | [], i, c, j => by
    rw [show putE [] i c = c from rfl, if_neg (by simp only [List.length_nil]; omega)]
  | x :: l, i, c, j => by
    rw [show putE (x :: l) i c = putE l (i + 1) (c.set i x) from rfl, putE_at l (i + 1) (c.set i x) j, T.at_set]
    by_cases h : i = j
    · subst h
      rw [if_neg (by omega), if_pos rfl, if_pos (by simp)]
      simp
    · rw [if_neg h]
      by_cases h2 : i + 1 ≤ j ∧ j < i + 1 + l.length
      · rw [if_pos h2, if_pos (by simp; omega), show j - i = (j - (i + 1)) + 1 by omega]; rfl
      · rw [if_neg h2, if_neg (by simp; omega)]
theorem getE_some {c : T (List AV)} : ∀ {n i : Nat} {l : List (List AV)}, getE c n i = some l → l.length = n ∧ ∀ j, j < n → l[j]? = c.at_ (i + j)
  | 0, i, l, h => by cases h; exact ⟨rfl, fun j hj => by omega⟩
  | n + 1, i, l, h => by
    rw [show getE c (n + 1) i = Option.rec none (fun l => Option.rec none (fun r => some (l :: r)) (getE c n (i + 1))) (c.at_ i) from rfl] at h
    cases h1 : c.at_ i with
    | none => rw [h1] at h; cases h
    | some x =>
      rw [h1] at h
      cases h2 : getE c n (i + 1) with
      | none => rw [h2] at h; cases h
      | some r =>
        rw [h2] at h
        cases h
        obtain ⟨h3, h4⟩ := getE_some h2
        refine ⟨by simp [h3], fun j hj => ?_⟩
        cases j with
        | zero => simpa using h1.symm
        | succ j => rw [List.getElem?_cons_succ, h4 j (by omega), show i + 1 + j = i + (j + 1) by omega]
/-- Elements, each of so many cells, all of them told. -/
structure RLL (e : En) (q z : Nat) (new : List (List AV)) (news : List Value) : Prop where
  len : news.length = new.length * z
  el : ∀ i l, new[i]? = some l → l.length = z ∧ ∀ j a, l[j]? = some a → oneB a = true ∧ ∃ v, news[i * z + j]? = some v ∧ R e q a v
theorem RLL.one [FX] {z : Nat} {new : List (List AV)} {news : List Value} (h : RLL e q z new news) : ∀ u ∈ news, u.oneCell' = true := fun u hu => by
  obtain ⟨x, hx, hxu⟩ := List.mem_iff_getElem.1 hu
  rw [h.len] at hx
  have hz : 0 < z := by
    rcases Nat.eq_zero_or_pos z with h0 | h0
    · subst h0; omega
    · exact h0
  have hi : x / z < new.length := Nat.div_lt_of_lt_mul (by rw [Nat.mul_comm]; exact hx)
  obtain ⟨h1, h2⟩ := h.el (x / z) _ (List.getElem?_eq_getElem hi)
  have hj : x % z < (new[x / z]).length := by rw [h1]; exact Nat.mod_lt _ hz
  obtain ⟨h3, v, h4, h5⟩ := h2 (x % z) _ (List.getElem?_eq_getElem hj)
  rw [show x / z * z + x % z = x by have := Nat.div_add_mod x z; rw [Nat.mul_comm] at this; omega, List.getElem?_eq_getElem (by rw [h.len]; exact hx), hxu] at h4
  cases h4
  exact oneB_cell h5 h3
/-- What is appended. -/
theorem src_run [FX] (hr : Rep e s w) {y : AV} {u : Value} (hy : R e s.next y u) {z m : Nat} {new : List (List AV)} (h : rowOf y z s = some (new, m)) : ∃ news, new.length = m ∧ RLL e s.next z new news ∧ ∀ tx, ((∃ e', P.underlying tx = some (.slice e')) ∨ P.underlying tx = some .string) → Src P z tx u m news w := by
  unfold rowOf at h
  split at h <;> first | (cases h; done) | skip
  · cases h
    have hu : u = .slice none 0 0 := hy
    subst hu
    exact ⟨[], rfl, ⟨by simp, fun i l hi => by cases hi⟩, fun tx hk => ⟨hk, fun _ => rfl, run_firstCells_none w z 0 0 0, run_firstCells_none w.drew z 0 0 0, by simp, fun _ h => by cases h⟩⟩
  · cases h
    obtain ⟨a, c, rfl⟩ := hy
    exact ⟨[], rfl, ⟨by simp, fun i l hi => by cases hi⟩, fun tx hk => ⟨hk, fun _ => rfl, run_firstCells_some w z 0 a 0 c [] (by simp) (fun j u hj => by cases hj), run_firstCells_some w.drew z 0 a 0 c [] (by simp) (fun j u hj => by cases hj), by simp, fun _ h => by cases h⟩⟩
  · rename_i l
    cases h
    obtain ⟨h1, rfl⟩ := hy
    have hn : (byteCells (bys l)) = l.map fun b => Value.int .u8 (.ofNat b) := by
      unfold byteCells bys
      simp only [List.map_map]
      apply List.map_congr_left
      intro b hb
      have := h1 b hb
      simp only [Function.comp]
      rw [UInt8.toNat_ofNat']
      congr 1
      rw [Nat.mod_eq_of_lt (by omega)]
      rfl
    refine ⟨byteCells (bys l), by rw [mapR_eq, lenR_eq]; simp, ⟨by rw [hn, mapR_eq]; simp, fun i k hi => ?_⟩, fun tx hk => ?_⟩
    · rw [mapR_eq, List.getElem?_map] at hi
      cases hl : l[i]? with
      | none => rw [hl] at hi; cases hi
      | some b =>
        rw [hl] at hi
        cases hi
        refine ⟨rfl, fun j a hj => ?_⟩
        cases j with
        | zero =>
          cases hj
          exact ⟨rfl, _, by rw [hn, Nat.mul_one, Nat.add_zero, List.getElem?_map, hl]; rfl, rfl⟩
        | succ j => cases hj
    · rw [lenR_eq]
      have hsz := bys_size l
      refine ⟨hk, fun _ => by rw [← hsz]; rfl, by rw [← hsz]; exact firstCells_string (bys l) w, by rw [← hsz]; exact firstCells_string (bys l) w.drew, by rw [byteCells_length, Nat.mul_one, hsz], fun u hu => ?_⟩
      obtain ⟨_, _, rfl⟩ := List.mem_map.1 hu
      rfl
  · rename_i b off n c
    cases hg : s.get b with
    | none => rw [hg] at h; cases h
    | some ob =>
      rw [hg] at h
      cases ob <;> first | (cases h; done) | skip
      rename_i cs k size t r
      obtain ⟨hc, hp⟩ := gateO (x := pairO n (getE cs n (off / size))) h
      obtain ⟨h1, h2⟩ := and_inv hc
      have h1 := Nat.eq_of_beq_eq_true h1
      have h2 : off % size = 0 := Nat.eq_of_beq_eq_true h2
      subst h1
      cases hge : getE cs n (off / size) with
      | none => rw [hge] at hp; cases hp
      | some l =>
        rw [hge] at hp
        cases hp
        obtain ⟨h3, h4⟩ := getE_some hge
        obtain ⟨vs, fz, h5, h6, h7, h8, h9⟩ := hr.cells hg
        obtain ⟨⟨h10, h11⟩, rfl⟩ := hy
        have hoff : off / size * size = off := by have := Nat.div_add_mod off size; rw [Nat.mul_comm] at this; omega
        have hrow : ∀ i x, new[i]? = some x → x.length = size ∧ ∀ j a, x[j]? = some a → oneB a = true ∧ ∃ v, vs[off + i * size + j]? = some v ∧ R e s.next a v := fun i x hi => by
          have hin := (List.getElem?_eq_some_iff.1 hi).1
          rw [h4 i (by omega)] at hi
          obtain ⟨_, h12, h13⟩ := h9 _ _ hi
          refine ⟨h12, fun j a hj => ?_⟩
          obtain ⟨h14, v, h15, h16⟩ := h13 j a hj
          rw [Nat.add_mul, hoff] at h15
          exact ⟨h14, v, h15, h16⟩
        have hlen : ((vs.toList.drop off).take (m * size)).length = m * size := by
          have hend : m * size ≤ vs.size - off := by
            rcases Nat.eq_zero_or_pos (m * size) with h0 | h0
            · omega
            · have hm : 0 < m := Nat.pos_of_mul_pos_right h0
              have hz : 0 < size := Nat.pos_of_mul_pos_left h0
              have hi : m - 1 < new.length := by omega
              obtain ⟨h12, h13⟩ := hrow (m - 1) _ (List.getElem?_eq_getElem hi)
              obtain ⟨_, v, h15, _⟩ := h13 (size - 1) _ (List.getElem?_eq_getElem (by rw [h12]; omega))
              have := (Array.getElem?_eq_some_iff.1 h15).1
              have h16 : m * size = (m - 1) * size + size := by rw [← Nat.succ_mul]; congr 1; omega
              omega
          rw [List.length_take, List.length_drop, Array.length_toList]; omega
        have hat : ∀ x, x < m * size → ((vs.toList.drop off).take (m * size))[x]? = vs[off + x]? := fun x hx => by
          rw [List.getElem?_take, if_pos hx, List.getElem?_drop, Array.getElem?_toList]
        have hR : RLL e s.next size new ((vs.toList.drop off).take (m * size)) := by
          refine ⟨by rw [hlen, h3], fun i x hi => ?_⟩
          obtain ⟨h12, h13⟩ := hrow i x hi
          have hin := (List.getElem?_eq_some_iff.1 hi).1
          refine ⟨h12, fun j a hj => ?_⟩
          obtain ⟨h14, v, h15, h16⟩ := h13 j a hj
          have hjl := (List.getElem?_eq_some_iff.1 hj).1
          refine ⟨h14, v, ?_, h16⟩
          have : (i + 1) * size ≤ m * size := Nat.mul_le_mul_right _ (by omega)
          rw [Nat.succ_mul] at this
          rw [hat _ (by omega), ← Nat.add_assoc]
          exact h15
        refine ⟨_, h3, hR, fun tx hk => ?_⟩
        have hnews : ∀ j u, ((vs.toList.drop off).take (m * size))[j]? = some u → w.cell? ((⟨e.σ b, off, none⟩ : Addr).add j) = some u := fun j u hj => by
          have hjl := (List.getElem?_eq_some_iff.1 hj).1
          rw [hlen] at hjl
          rw [hat j hjl] at hj
          rw [Addr.add_mid, cell_of h5]
          exact hj
        exact ⟨hk, fun _ => rfl, run_firstCells_some w size m _ m _ _ hlen hnews, run_firstCells_some w.drew size m _ m _ _ hlen (by simpa using hnews), hlen, hR.one⟩
theorem Stp.del [FX] (h : Rep e s w) (b : Nat) : Stp e s w e (s.del b) w := by
  have hat : ∀ j o, (s.del b).heap.at_ j = some o → s.heap.at_ j = some o := fun j o hj => by
    have hj : (s.heap.del b).at_ j = some o := hj
    rw [T.at_del] at hj
    split at hj
    · cases hj
    · exact hj
  exact ⟨⟨fun j o hj => h.obj j o (hat j o hj), fun j o j' o' hj hj' he => h.inj j o j' o' (hat j o hj) (hat j' o' hj') he, fun g o hg => ⟨(h.fx g o hg).1, fun j o' hj => (h.fx g o hg).2 j o' (hat j o' hj)⟩⟩, Ext.refl _ _, Nat.le_refl _, fun j o hj => .inl ⟨j, o, hat j o hj, rfl⟩, rfl, rfl, rfl, Nat.le_refl _, fun _ _ _ => rfl, ⟨[b], rfl, fun j _ hn => by
    show (s.heap.del b).at_ j = _
    rw [T.at_del, if_neg (fun hh => hn (by rw [hh]; simp))]⟩, rfl⟩
/-- Rows, and elements behind them. -/
theorem Rows.put [FX] {c : T (List AV)} {n m z : Nat} {vs : Array Value} {vs' : Array Value} {new : List (List AV)} {news : List Value} (h : ∀ i l, c.at_ i = some l → i < n ∧ l.length = z ∧ ∀ j a, l[j]? = some a → oneB a = true ∧ ∃ v, vs[i * z + j]? = some v ∧ R e q a v) (hn : RLL e q z new news) (hm : new.length = m)
    (h1 : ∀ x, x < n * z → vs'[x]? = vs[x]?) (h2 : ∀ x, x < m * z → vs'[n * z + x]? = news[x]?) : Rows e q (putE new n c) (n + m) z vs' := fun i l hi => by
  rw [putE_at] at hi
  by_cases hc : n ≤ i ∧ i < n + new.length
  · rw [if_pos hc] at hi
    obtain ⟨h3, h4⟩ := hn.el _ _ hi
    refine ⟨by omega, h3, fun j a hj => ?_⟩
    obtain ⟨h5, v, h6, h7⟩ := h4 j a hj
    have hjl := (List.getElem?_eq_some_iff.1 hj).1
    refine ⟨h5, v, ?_, h7⟩
    have hle : (i - n + 1) * z ≤ m * z := Nat.mul_le_mul_right _ (by omega)
    rw [Nat.succ_mul] at hle
    have he : i * z = n * z + (i - n) * z := by rw [← Nat.add_mul]; congr 1; omega
    rw [he, Nat.add_assoc, h2 _ (by omega)]
    exact h6
  · rw [if_neg hc] at hi
    obtain ⟨h3, h4, h5⟩ := h i l hi
    refine ⟨by omega, h4, fun j a hj => ?_⟩
    obtain ⟨h6, v, h7, h8⟩ := h5 j a hj
    have hjl := (List.getElem?_eq_some_iff.1 hj).1
    refine ⟨h6, v, ?_, h8⟩
    have hle : (i + 1) * z ≤ n * z := Nat.mul_le_mul_right _ h3
    rw [Nat.succ_mul] at hle
    rw [h1 _ (by omega)]
    exact h7
/-- The first elements that are kept. -/
theorem keepE_rows [FX] {cs c2 : T (List AV)} {n k z : Nat} {vs : Array Value} (h : keepE cs n k = some c2) (hr : Rows e q cs k z vs) : Rows e q c2 n z vs := by
  unfold keepE at h
  cases hb : Nat.beq n k with
  | true =>
    rw [hb] at h
    cases h
    have := Nat.eq_of_beq_eq_true hb
    subst this
    exact hr
  | false =>
    rw [hb] at h
    cases hg : getE cs n 0 with
    | none => rw [hg] at h; cases h
    | some l =>
      rw [hg] at h
      cases h
      obtain ⟨h1, h2⟩ := getE_some hg
      intro i x hi
      rw [putE_at] at hi
      split at hi
      · rename_i hc
        rw [Nat.sub_zero, h2 i (by omega), Nat.zero_add] at hi
        obtain ⟨_, h3, h4⟩ := hr i x hi
        exact ⟨by omega, h3, h4⟩
      · cases hi
theorem app_arr {olds news : List Value} {k : Nat} (hl : olds.length = k) (z : Array Value) (x : Nat) : ((olds ++ news).toArray ++ z)[x]? = if x < k then olds[x]? else if x < k + news.length then news[x - k]? else z[x - (k + news.length)]? := by
  rw [Array.getElem?_append]
  simp only [List.size_toArray, List.length_append, List.getElem?_toArray, hl]
  by_cases h1 : x < k
  · rw [if_pos (by omega), if_pos h1, List.getElem?_append_left (by omega)]
  · rw [if_neg h1]
    by_cases h2 : x < k + news.length
    · rw [if_pos h2, if_pos h2, List.getElem?_append_right (by omega), hl]
    · rw [if_neg h2, if_neg h2]
/-- A new row of old elements and others. -/
theorem grown_run [FX] (ht : TbOk P B) (hr : Rep e s w) {t tx ty el : TypeId} (hu : P.underlying t = some (.slice el)) (hk : knownT B el = true) (hby : bytesT B el ≤ 1048576) {zl : List AV} (hz : zeroC B el = some zl) (hz1 : oneL zl = true) (hz2 : zl.length = sizeT B el)
    {base : Option Addr} {n cap : Nat} {olds : List Value} (ho1 : olds.length = n * sizeT B el) (ho2 : (Builtin.firstCells (sizeT B el) n (.slice base n cap)).run P w.drew = .ok olds.toArray w.drew)
    {u : Value} {m : Nat} {new : List (List AV)} {news : List Value} (hs : Src P (sizeT B el) tx u m news w) (hn : RLL e s.next (sizeT B el) new news) (hm : new.length = m) (hg : cap < n + m) (hle : n + m ≤ 67108864)
    {c : T (List AV)} (hc : Rows e s.next c n (sizeT B el) olds.toArray) :
    ∃ κ, (Builtin.append_ #[t, tx] ty #[.slice base n cap, u]).run P w = .ok (.slice (some ⟨w.heap.size, 0, none⟩) (n + m) κ) (w.drew.alloc (.cells ((olds ++ news).toArray ++ Builtin.zeroCells ((((P.info? el).bind (·.zero)).getD undef).cells) (κ - (n + m))) el)) ∧
      Stp e s w (e.up s.next w.heap.size κ) (s.add (.cells (putE new n c) (n + m) (sizeT B el) el true)) (w.drew.alloc (.cells ((olds ++ news).toArray ++ Builtin.zeroCells ((((P.info? el).bind (·.zero)).getD undef).cells) (κ - (n + m))) el)) ∧ n + m ≤ κ := by
  obtain ⟨ti, hi, hsz, hb⟩ := bytes_run ht hk
  obtain ⟨ti', z, hi', hzz, hzR⟩ := zero_info ht hz
  rw [hi] at hi'
  cases hi'
  have hzl := (hzR (e := e) (q := s.next) (oneL_all hz1)).len
  rw [Array.length_toList] at hzl
  rw [hsz] at hs hn ho1 ho2 hc hz2 ⊢
  have hfit := growslice_fits (need := n + m) (old := cap) (bytes := ti.bytes) hg (by
    have : (n + m) * ti.bytes ≤ 67108864 * 1048576 := Nat.mul_le_mul hle (by omega)
    omega)
  have hrun := run_append_grow_src (P := P) w t tx ty el ti z hu hi hzz base n cap olds ho2 u m news hs hg (by omega) hfit
  have hge := grownCap_ge w (n + m) cap el
  refine ⟨grownCap w (n + m) cap el, ?_, ?_, hge⟩
  · rw [hi]; simp only [Option.bind_some, hzz, Option.getD_some]; exact hrun
  · rw [hi]; simp only [Option.bind_some, hzz, Option.getD_some]
    have hnl := hn.len
    rw [hm] at hnl
    have h1 := Stp.cells (e := e) (s := s) (w := w.drew) (Stp.drew hr).rep (c := putE new n c) (n := n + m) (size := ti.size) (t := el) (κ := grownCap w (n + m) cap el) (room := true)
      (cs := (olds ++ news).toArray ++ Builtin.zeroCells z.cells (grownCap w (n + m) cap el - (n + m)))
      (by
        rw [if_pos rfl]
        simp only [Array.size_append, List.size_toArray, List.length_append, size_zeroCells, ho1, hnl]
        rw [hzl, hz2, ← Nat.add_mul, ← Nat.add_mul]
        congr 1; omega)
      (fun _ => hge)
      (Rows.put (vs := olds.toArray) hc hn hm (fun x hx => by rw [app_arr ho1, if_pos hx, List.getElem?_toArray]) (fun x hx => by
        rw [app_arr ho1, if_neg (by omega), if_pos (by omega), Nat.add_sub_cancel_left]))
    exact (Stp.drew hr).trans h1
end

section
variable {P : Program} {B : Tb} {e : En} {s s' : St} {w : World} {ns : NS} {tm : Tm} {a : Act} {o : Oper} {v : AV} {q : Nat}

theorem Stp.start [FX] {s1 : St} (h : s1.next = s.next) (h0 : Stp e s w e s1 w) {κ : Nat} {s2 : St} {w2 : World} (h1 : Stp e s1 w (e.up s1.next w.heap.size κ) s2 w2) : Stp e s w (e.up s.next w.heap.size κ) s2 w2 := h0.trans (h ▸ h1)
theorem appTo_inv {x : AV} {el z m : Nat} {new : List (List AV)} (h : appTo x el z new m s = .val v s') : (x = .lit (.slice none 0 0) ∧ (Bool.rec (Bool.rec (.bad 129) (newSlc s (.cells (putE new 0 .leaf) m z el true) m (.gap 0)) (Nat.ble m 67108864)) (.val (.lit (.slice none 0 0)) s) (Nat.beq m 0) : Nx) = .val v s') ∨ ∃ b o n c, x = .slc b o n c ∧ appO (s.get b) c b o n el z new m s = .val v s' := by
  unfold appTo at h
  split at h <;> first | (cases h; done) | exact .inl ⟨rfl, h⟩ | exact .inr ⟨_, _, _, _, rfl, h⟩
/-- Append. -/
theorem append_run [FX] (ht : TbOk P B) (hr : Rep e s w) {t tx ty el : TypeId} (hd : dsc B t = .slice el) (htx : srcB (dsc B tx) = true) (hk : knownT B el = true) (hby : bytesT B el ≤ 1048576) (hpos : 1 ≤ sizeT B el) {zl : List AV} (hz : zeroC B el = some zl) (hz1 : oneL zl = true) (hz2 : zl.length = sizeT B el)
    {x y : AV} {u z : Value} (hx : R e s.next x u) (hy : R e s.next y z) (h : appendA x y el (sizeT B el) s = .val v s') : ∃ e' w' r, (Builtin.append_ #[t, tx] ty #[u, z]).run P w = .ok r w' ∧ Stp e s w e' s' w' ∧ R e' s'.next v r := by
  have hu := ht.dsc hd (by intro hh; cases hh)
  have hktx : (∃ e', P.underlying tx = some (.slice e')) ∨ P.underlying tx = some .string := by
    cases hdt : dsc B tx <;> rw [hdt] at htx <;> first | (cases htx; done) | skip
    · exact .inr (ht.dsc hdt (by intro hh; cases hh))
    · exact .inl ⟨_, ht.dsc hdt (by intro hh; cases hh)⟩
  obtain ⟨ti, hi, hsz, hb⟩ := bytes_run ht hk
  replace h : appR2 (rowOf y (sizeT B el) s) x el (sizeT B el) s = .val v s' := h
  cases hrow : rowOf y (sizeT B el) s with
  | none => rw [hrow] at h; cases h
  | some p =>
    rw [hrow] at h
    obtain ⟨new, m⟩ := p
    obtain ⟨news, hm, hn, hs⟩ := src_run (P := P) hr hy hrow
    have hs := hs tx hktx
    have hnl := hn.len
    rw [hm] at hnl
    replace h : appTo x el (sizeT B el) new m s = .val v s' := h
    have hinv := appTo_inv h
    clear h
    rcases hinv with ⟨rfl, h⟩ | ⟨b, off, n, c, rfl, h⟩
    · have hu2 : u = .slice none 0 0 := hx
      subst hu2
      cases hm0 : Nat.beq m 0 with
      | true =>
        rw [hm0] at h
        have hm0 := Nat.eq_of_beq_eq_true hm0
        injection h with h1 h2
        subst h1 h2 hm0
        have hnn : news = [] := List.eq_nil_of_length_eq_zero (by simpa using hnl)
        subst hnn
        rw [hsz] at hs
        refine ⟨e, w, .slice none 0 0, ?_, Stp.refl hr, rfl⟩
        rcases hs.kind with ⟨e', hk'⟩ | hk' <;> simp [Builtin.append_, run_underlying hu, run_underlying hk', sizeOf, typeInfo, hi, hs.len, hs.cells]
      | false =>
        rw [hm0] at h
        have hm0 := Nat.ne_of_beq_eq_false hm0
        obtain ⟨h1, h2⟩ := gate (x := newSlc s (.cells (putE new 0 .leaf) m (sizeT B el) el true) m (.gap 0)) h
        have h1 := Nat.le_of_ble_eq_true h1
        injection h2 with h2 h3
        subst h2 h3
        obtain ⟨κ, h4, h5, h6⟩ := grown_run ht hr (ty := ty) hu hk hby hz hz1 hz2 (base := none) (n := 0) (cap := 0) (olds := []) (by simp) (by simp [Builtin.firstCells]) hs hn hm (by omega) (by omega) (c := .leaf) (fun i l hi => by cases hi)
        rw [Nat.zero_add] at h4 h5 h6
        exact ⟨_, _, _, h4, h5, slc_new (w := w) rfl κ m rfl (show m + 0 ≤ κ by omega)⟩
    · cases hg : s.get b with
      | none => rw [hg] at h; cases h
      | some ob =>
        rw [hg] at h
        cases ob <;> first | (cases h; done) | skip
        rename_i cs k size t2 r
        obtain ⟨hc, hcap⟩ := gate (x := appCap c cs k size t2 r b off n new m s) h
        clear h
        obtain ⟨h1, h2⟩ := and_inv hc
        obtain ⟨h1, h3⟩ := and_inv h1
        obtain ⟨h2, h4⟩ := and_inv h2
        have h1 := Nat.eq_of_beq_eq_true h1
        have h3 := Nat.eq_of_beq_eq_true h3
        have h2 : off % size = 0 := Nat.eq_of_beq_eq_true h2
        have h4 := Nat.le_of_ble_eq_true h4
        subst h3
        obtain ⟨vs, fz, h5, h6, h7, h8, h9⟩ := hr.cells hg
        obtain ⟨⟨h10, h11⟩, rfl⟩ := hx
        have hoff : off / size * size = off := by have := Nat.div_add_mod off size; rw [Nat.mul_comm] at this; omega
        cases c with
        | ex cp =>
          replace hcap : (Bool.rec (appNew (getE cs n (off / size)) new n m size t2 s) (Bool.rec (.bad 127) (.val (.slc b off (n + m) (.ex cp)) (s.put b (.cells (putE new (off / size + n) cs) k size t2 r))) (Nat.ble (off / size + n + m) k)) (Nat.ble (n + m) cp) : Nx) = .val v s' := hcap
          cases hroom : Nat.ble (n + m) cp with
          | true =>
            rw [hroom] at hcap
            have hroom := Nat.le_of_ble_eq_true hroom
            obtain ⟨h12, h13⟩ := gate (x := .val (.slc b off (n + m) (.ex cp)) (s.put b (.cells (putE new (off / size + n) cs) k size t2 r))) hcap
            have h12 := Nat.le_of_ble_eq_true h12
            injection h13 with h13 h14
            subst h13 h14
            have hkz : k * size ≤ vs.size := by
              rw [h7]; split
              · rename_i hrr; exact Nat.mul_le_mul_right _ (h8 hrr)
              · exact Nat.le_refl _
            have hend : off + n * size + m * size ≤ vs.size := by
              have : (off / size + n + m) * size ≤ k * size := Nat.mul_le_mul_right _ h12
              rw [Nat.add_mul, Nat.add_mul, hoff] at this
              omega
            rw [← h1] at hs hn hnl
            obtain ⟨cs', h15, h16, h17, h18, h19, h20⟩ := setCells_heap news (off + n * size) w vs h5
            have hsz2 : size = ti.size := h1.trans hsz
            have hrun := run_append_room_src (P := P) w t tx ty t2 ti hu hi (e.σ b) off n cp z m news (by rw [← hsz2]; exact hs) hroom
              (fun j hj => by rw [← hsz2, cell_of h5, Array.getElem?_eq_getElem (by omega)]; rfl)
              (fun j hj => by
                have := h6.free (o := off + n * size + j) (by omega)
                rw [← hsz2]
                unfold World.frozen?
                simp only [h5]
                exact this)
            rw [← hsz2] at hrun
            refine ⟨e, _, _, hrun, Stp.put hr hg _ _ ?_ h15 h18 h19 h20, ⟨h10, trivial⟩, rfl⟩
            refine ⟨cs', fz, rfl, by rw [h16]; exact h6, by rw [h16]; exact h7, h8, fun i l hi' => ?_⟩
            rw [putE_at] at hi'
            by_cases hci : off / size + n ≤ i ∧ i < off / size + n + new.length
            · rw [if_pos hci] at hi'
              obtain ⟨h21, h22⟩ := hn.el _ _ hi'
              refine ⟨by omega, h21, fun j a hj => ?_⟩
              obtain ⟨h23, v, h24, h25⟩ := h22 j a hj
              have hjl := (List.getElem?_eq_some_iff.1 hj).1
              refine ⟨h23, v, ?_, h25⟩
              have hle : (i - (off / size + n) + 1) * size ≤ m * size := Nat.mul_le_mul_right _ (by omega)
              rw [Nat.succ_mul] at hle
              have he : i * size = off + n * size + (i - (off / size + n)) * size := by
                rw [← hoff, ← Nat.add_mul, ← Nat.add_mul, hoff]; congr 1; omega
              rw [h17, if_pos (by omega), show i * size + j - (off + n * size) = (i - (off / size + n)) * size + j by omega]
              exact h24
            · rw [if_neg hci] at hi'
              obtain ⟨h21, h22, h23⟩ := h9 i l hi'
              refine ⟨h21, h22, fun j a hj => ?_⟩
              obtain ⟨h24, v, h25, h26⟩ := h23 j a hj
              have hjl := (List.getElem?_eq_some_iff.1 hj).1
              refine ⟨h24, v, ?_, h26⟩
              rw [h17, if_neg ?_]
              · exact h25
              · rintro ⟨h27, h28, h29⟩
                rw [hnl] at h28
                rcases Nat.lt_or_ge i (off / size + n) with hlt | hge
                · have : (i + 1) * size ≤ (off / size + n) * size := Nat.mul_le_mul_right _ hlt
                  rw [Nat.succ_mul, Nat.add_mul, hoff] at this; omega
                · have : (off / size + n + m) * size ≤ i * size := Nat.mul_le_mul_right _ (by omega)
                  rw [Nat.add_mul, Nat.add_mul, hoff] at this; omega
          | false =>
            rw [hroom] at hcap
            have hroom : ¬ n + m ≤ cp := fun hh => by rw [Nat.ble_eq_true_of_le hh] at hroom; cases hroom
            cases hge : getE cs n (off / size) with
            | none => rw [hge] at hcap; cases hcap
            | some old =>
              rw [hge] at hcap
              injection hcap with h13 h14
              subst h13 h14
              have hrow2 : rowOf (.slc b off n (.ex cp)) (sizeT B t2) s = some (old, n) := by
                show rowO (s.get b) off n (sizeT B t2) = _
                rw [hg]
                show (Bool.rec none (pairO n (getE cs n (off / size))) (and (Nat.beq size (sizeT B t2)) (Nat.beq (off % size) 0)) : Option (List (List AV) × Nat)) = _
                rw [hge, h1, Nat.beq_refl, ← h1, h2]; rfl
              obtain ⟨olds, ho1, ho2, ho3⟩ := src_run (P := P) (w := w) hr (y := .slc b off n (.ex cp)) (u := .slice (some ⟨e.σ b, off, none⟩) n ((Cp.ex cp).cap (e.κ b))) ⟨⟨h10, h11⟩, rfl⟩ hrow2
              have ho3 := ho3 t (.inl ⟨_, hu⟩)
              have hol := ho2.len
              rw [ho1] at hol
              obtain ⟨κ, h24, h25, h26⟩ := grown_run ht hr (ty := ty) hu hk hby hz hz1 hz2 (base := some ⟨e.σ b, off, none⟩) (n := n) (cap := cp) (olds := olds) hol ho3.cellsD hs hn hm (by omega) h4 (c := putE old 0 .leaf) (fun i l hi' => by
                rw [putE_at] at hi'
                split at hi'
                · rename_i hci
                  obtain ⟨h30, h31⟩ := ho2.el _ _ hi'
                  refine ⟨by omega, h30, fun j a hj => ?_⟩
                  obtain ⟨h32, v, h33, h34⟩ := h31 j a hj
                  exact ⟨h32, v, by simpa using h33, h34⟩
                · cases hi')
              rw [← h1] at h25
              exact ⟨_, _, _, h24, h25, slc_new (w := w) rfl κ (n + m) rfl (show n + m + 0 ≤ κ by omega)⟩
        | gap g =>
          have hgt := gate (x := appKept (keepE cs n k) b new n m size t2 s) hcap
          clear hcap
          obtain ⟨hc2, hcap⟩ := hgt
          obtain ⟨hc3, hc4⟩ := and_inv hc2
          obtain ⟨hc3, hc5⟩ := and_inv hc3
          obtain ⟨hc4, hc6⟩ := and_inv hc4
          have hc3 := Nat.eq_of_beq_eq_true hc3
          have hc5 := Nat.eq_of_beq_eq_true hc5
          have hc6 := Nat.le_of_ble_eq_true hc6
          subst hc3 hc5 hc4
          cases hkeep : keepE cs n k with
          | none => rw [hkeep] at hcap; cases hcap
          | some c2 =>
            rw [hkeep] at hcap
            injection hcap with h13 h14
            subst h13 h14
            rw [if_pos rfl] at h7
            have h8 := h8 rfl
            have hrows := keepE_rows (e := e) (q := s.next) (vs := vs) hkeep h9
            by_cases hroom : n + m ≤ e.κ b
            · have hend : n * size + m * size ≤ vs.size := by
                rw [h7, ← Nat.add_mul]; exact Nat.mul_le_mul_right _ hroom
              rw [← h1] at hs hn hnl
              obtain ⟨cs', h15, h16, h17, h18, h19, h20⟩ := setCells_heap news (n * size) w vs h5
              have hsz2 : size = ti.size := h1.trans hsz
              have hrun := run_append_room_src (P := P) w t tx ty t2 ti hu hi (e.σ b) 0 n (e.κ b) z m news (by rw [← hsz2]; exact hs) hroom
                (fun j hj => by rw [← hsz2, cell_of h5, Array.getElem?_eq_getElem (by omega)]; rfl)
                (fun j hj => by
                  have := h6.free (o := 0 + n * size + j) (by omega)
                  rw [← hsz2]
                  unfold World.frozen?
                  simp only [h5]
                  exact this)
              rw [← hsz2, Nat.zero_add] at hrun
              have hκ : (e.up s.next (e.σ b) (e.κ b)).κ s.next = e.κ b := by simp [En.up]
              have hσ : (e.up s.next (e.σ b) (e.κ b)).σ s.next = e.σ b := by simp [En.up]
              refine ⟨e.up s.next (e.σ b) (e.κ b), _, _, hrun, Stp.moved hr hg _ _ (e.κ b) ?_ h15 h18 h19 h20, ⟨⟨Nat.lt_succ_self _, if_pos rfl⟩, ?_⟩, ?_⟩
              · refine ⟨cs', fz, rfl, by rw [h16]; exact h6, by rw [h16, h7, hκ]; simp, by rw [hκ]; exact fun _ => hroom, ?_⟩
                refine Rows.ext (En.up_ext _ _ _ _) (Nat.le_succ _) (Rows.put (vs := vs) hrows hn hm (fun x hx => ?_) fun x hx => ?_)
                · rw [h17, if_neg (by omega)]
                · rw [h17, if_pos (by omega), Nat.add_sub_cancel_left]
              · show n + m + 0 ≤ (e.up s.next (e.σ b) (e.κ b)).κ s.next
                rw [hκ]; omega
              · show _ = Value.slice (some ⟨(e.up s.next (e.σ b) (e.κ b)).σ s.next, 0, none⟩) (n + m) ((Cp.gap 0).cap ((e.up s.next (e.σ b) (e.κ b)).κ s.next))
                rw [hκ, hσ]; rfl
            · have hr2 := (Stp.del hr b).rep
              have hle : n * size ≤ vs.size := by rw [h7]; exact Nat.mul_le_mul_right _ (by omega)
              have hol : (vs.toList.take (n * size)).length = n * size := by rw [List.length_take, Array.length_toList]; omega
              have hfc := run_firstCells_some (P := P) w.drew size n ⟨e.σ b, 0, none⟩ n ((Cp.gap 0).cap (e.κ b)) (vs.toList.take (n * size)) hol (fun j u hj => by
                have hjl := (List.getElem?_eq_some_iff.1 hj).1
                rw [hol] at hjl
                rw [List.getElem?_take, if_pos hjl, Array.getElem?_toList] at hj
                rw [Addr.add_mid, Nat.zero_add]
                rw [World.cell?_drew, cell_of h5]
                exact hj)
              rw [h1] at hol hfc
              obtain ⟨κ, h24, h25, h26⟩ := grown_run (s := s.del b) ht hr2 (ty := ty) hu hk hby hz hz1 hz2 (base := some ⟨e.σ b, 0, none⟩) (n := n) (cap := (Cp.gap 0).cap (e.κ b)) hol hfc hs hn hm (show e.κ b < n + m by omega) h4 (c := c2) (fun i l hi' => by
                obtain ⟨h30, h31, h32⟩ := hrows i l hi'
                refine ⟨h30, by rw [← h1]; exact h31, fun j a hj => ?_⟩
                obtain ⟨h33, v, h34, h35⟩ := h32 j a hj
                have hjl := (List.getElem?_eq_some_iff.1 hj).1
                refine ⟨h33, v, ?_, h35⟩
                have hle : (i + 1) * size ≤ n * size := Nat.mul_le_mul_right _ h30
                rw [Nat.succ_mul] at hle
                rw [← h1, List.getElem?_toArray, List.getElem?_take, if_pos (by omega), Array.getElem?_toList]
                exact h34)
              rw [← h1] at h24 h25
              exact ⟨_, _, _, h24, (Stp.del hr b).trans h25, slc_new (s := s) (w := w) rfl κ (n + m) rfl (show n + m + 0 ≤ κ by omega)⟩
end
end Go.Proofs.YtiibijhldlillaaGreat.Eng
