/- The runner's built-in functions, assertions and conversions are the program's. No condition beyond what each theorem says. -/
import Derived.Test.YtiibijhldlillaaGreatEc
import Derived.Laws.BytesString
import Derived.Laws.RangeString
namespace Go.Proofs.YtiibijhldlillaaGreat.Eng
section
variable {P : Program} {B : Tb} {e : En} {s s' : St} {w : World} {ns : NS} {tm : Tm} {a : Act} {o : Oper} {v : AV} {q : Nat}

theorem arr_of {α : Type} {x : Array α} {l : List α} (h : x.toList = l) : x = l.toArray := by rw [← h]
theorem gateM {c : Bool} {m m' : MOp} (h : (Bool.rec .none m c : MOp) = m') (hm : m' ≠ .none) : c = true ∧ m' = m := by
  cases c with
  | false => exact absurd h.symm hm
  | true => exact ⟨rfl, h.symm⟩
theorem zOk_inv [FX] {z : Option (List AV)} {n : Nat} (h : zOk z n = true) : ∃ l, z = some l ∧ oneL l = true ∧ l.length = n := by
  cases z with
  | none => cases h
  | some l =>
    obtain ⟨h1, h2⟩ := and_inv (show and (oneL l) (Nat.beq (lenR l) n) = true from h)
    have h2 := Nat.eq_of_beq_eq_true h2
    rw [lenR_eq] at h2
    exact ⟨l, rfl, h1, h2⟩
theorem op_append [FX] (ht : TbOk P B) (hr : Rep e s w) (hm : RTm e s.next ns tm a) {c : Call} (ho : o.op = .call c) (hc : c.callee = .builtin .append) {x y : Operand} {t tx : TypeId} (h1 : c.args.toList = [x, y]) (h2 : c.argTypes.toList = [t, tx]) {m : MOp} (hmm : appC B (dsc B tx) (mv ns x) (mv ns y) (dsc B t) = m) (h : opA m tm s = .val v s') : OkV P e s w (execOp a.eval o) v s' := by
  have hne : m ≠ .none := by rintro rfl; cases h
  cases hd : dsc B t <;> rw [hd] at hmm <;> first | exact absurd hmm.symm hne | skip
  rename_i el
  obtain ⟨hk, hmm⟩ := kn_inv hmm hne
  obtain ⟨h3, rfl⟩ := gateM hmm.symm hne
  obtain ⟨h3, h4⟩ := and_inv h3
  obtain ⟨h3, h5⟩ := and_inv h3
  obtain ⟨h4, h6⟩ := and_inv h4
  obtain ⟨l, hz, hz1, hz2⟩ := zOk_inv h6
  obtain ⟨e', w', r, h7, h8, h9⟩ := append_run (ty := o.type) ht hr hd h3 hk (Nat.le_of_ble_eq_true h5) (Nat.le_of_ble_eq_true h4) hz hz1 hz2 (ev_R hm x) (ev_R hm y) h
  refine ⟨e', w', .value r, ?_, h8, .inl ⟨r, rfl, h9⟩⟩
  unfold execOp
  rw [ho]
  simp only [resolve, hc, arr_of h1, arr_of h2, List.map_toArray, List.map_cons, List.map_nil, Sem.run_bind, Sem.run_pure, Result.andThen_ok, invoke, builtin, h7]
theorem RKV.len : ∀ {ps : List (AV × AV)} {l : List (Value × Value)}, RKV e q ps l → l.length = ps.length
  | [], _, h => by cases h; rfl
  | p :: ps, _, h => by
    obtain ⟨u, v, r, rfl, _, _, h4⟩ := h
    simp [RKV.len h4]
theorem lenA_slc {X : AV} {n : Nat} (h : lenA .slc X s = some n) : (∃ b o c, X = .slc b o n c) ∨ (X = .lit (.slice none 0 0) ∧ n = 0) ∨ (X = .emp ∧ n = 0) := by
  generalize hk : LK.slc = k at h
  unfold lenA at h
  split at h <;> first | (cases h; done) | (cases hk; done) | skip
  · cases h; exact .inl ⟨_, _, _, rfl⟩
  · cases h; exact .inr (.inl ⟨rfl, rfl⟩)
  · cases h; exact .inr (.inr ⟨rfl, rfl⟩)
theorem lenA_map {X : AV} {n : Nat} (h : lenA .map X s = some n) : (X = .lit (.map none) ∧ n = 0) ∨ ∃ b k es, X = .map b ∧ s.get b = some (.map k es) ∧ n = es.length := by
  generalize hk : LK.map = k at h
  unfold lenA at h
  split at h <;> first | (cases h; done) | (cases hk; done) | skip
  · cases h; exact .inl ⟨rfl, rfl⟩
  · rename_i b
    unfold lenM at h
    split at h <;> first | (cases h; done) | skip
    rename_i k2 es hes
    rw [lenR_eq] at h
    cases h
    exact .inr ⟨b, k2, es, rfl, hes, rfl⟩
theorem maxA_inv {X Y : AV} {k : Nat} (h : maxA X Y k s = .val v s') : s = s' ∧ ((k = 0 ∧ ∃ d x d' y, X = .int d x ∧ Y = .int d' y ∧ v = .int d (if x < y then y else x)) ∨ (k = 1 ∧ ∃ d x d' y, X = .int d x ∧ Y = .int d' y ∧ v = .int d (if y < x then y else x)) ∨ (k = 2 ∧ ∃ x y, X = .lit (.float .f64 x) ∧ Y = .lit (.float .f64 y) ∧ v = .lit (.complex .f64 x y))) := by
  unfold maxA at h
  split at h <;> first | (cases h; done) | skip
  all_goals
    injection h with h1 h2
    refine ⟨h2, ?_⟩
  · exact .inl ⟨rfl, _, _, _, _, rfl, rfl, h1.symm⟩
  · exact .inr (.inl ⟨rfl, _, _, _, _, rfl, rfl, h1.symm⟩)
  · exact .inr (.inr ⟨rfl, _, _, rfl, rfl, h1.symm⟩)
theorem op_len [FX] (ht : TbOk P B) (hr : Rep e s w) (hm : RTm e s.next ns tm a) {c : Call} (ho : o.op = .call c) (hc : c.callee = .builtin .len) {x : Operand} {t : TypeId} (h1 : c.args.toList = [x]) (h2 : c.argTypes.toList = [t]) {m : MOp} (hmm : lenC (mv ns x) (dsc B t) = m) (h : opA m tm s = .val v s') : OkV P e s w (execOp a.eval o) v s' := by
  have hne : m ≠ .none := by rintro rfl; cases h
  have hx := ev_R hm x
  have hfin : ∀ {n : Nat} {k : LK}, m = .len k (mv ns x) → (∀ n, lenA k (ev (mv ns x) tm) s = some n → (Builtin.len_ #[t] o.type #[a.eval x]).run P w = .ok (.int .i64 (.ofNat n)) w) → OkV P e s w (execOp a.eval o) v s' := by
    intro n k hk hrun
    subst hk
    replace h : intO (lenA k (ev (mv ns x) tm) s) s = .val v s' := h
    cases hl : lenA k (ev (mv ns x) tm) s with
    | none => rw [hl] at h; cases h
    | some n =>
      rw [hl] at h
      injection h with h3 h4
      subst h3 h4
      refine okV_pure hr (u := .int .i64 (.ofNat n)) ?_ rfl
      unfold execOp
      rw [ho]
      simp only [resolve, hc, arr_of h1, arr_of h2, List.map_toArray, List.map_cons, List.map_nil, Sem.run_bind, Sem.run_pure, Result.andThen_ok, invoke, builtin, hrun n hl]
  cases hd : dsc B t <;> rw [hd] at hmm <;> first | exact absurd hmm.symm hne | skip
  case string =>
    have hu := ht.dsc hd (by intro hh; cases hh)
    refine hfin (n := 0) hmm.symm fun n hn => ?_
    generalize ev (mv ns x) tm = X at hx hn
    cases X <;> first | (cases hn; done) | skip
    cases hn
    obtain ⟨_, hx⟩ := hx
    simp [Builtin.len_, run_underlying hu, hx, bys_size, lenR_eq, goInt]
  case slice el =>
    have hu := ht.dsc hd (by intro hh; cases hh)
    refine hfin (n := 0) hmm.symm fun n hn => ?_
    generalize ev (mv ns x) tm = X at hx hn
    rcases lenA_slc hn with ⟨b, off, c, rfl⟩ | ⟨rfl, rfl⟩ | ⟨rfl, rfl⟩
    rotate_left 2
    · obtain ⟨a1, c1, hx⟩ := hx
      simp [Builtin.len_, run_underlying hu, hx, goInt]
    · obtain ⟨_, hx⟩ := hx
      simp [Builtin.len_, run_underlying hu, hx, goInt]
    · have hx : a.eval x = .slice none 0 0 := hx
      simp [Builtin.len_, run_underlying hu, hx, goInt]
  case map k el =>
    have hu := ht.dsc hd (by intro hh; cases hh)
    refine hfin (n := 0) hmm.symm fun n hn => ?_
    generalize ev (mv ns x) tm = X at hx hn
    rcases lenA_map hn with ⟨rfl, rfl⟩ | ⟨b, k2, es, rfl, hg, rfl⟩
    · have hx : a.eval x = .map none := hx
      simp [Builtin.len_, run_underlying hu, hx, goInt]
    · obtain ⟨_, hx⟩ := hx
      obtain ⟨_, _, r, h3, ents, clock, es', rfl, h5, h6, _⟩ := hr.obj b _ hg
      have hlen : ents.size = es.length := by
        have := h5.len
        rw [List.length_map, Array.length_toList] at this
        rw [this, h6.1.length_eq]
      have hobj : (getObj (e.σ b)).run P w = .ok (.map ents clock) w := by simp [getObj, Sem.run, h3]
      simp [Builtin.len_, run_underlying hu, hx, hobj, goInt, hlen]
theorem op_mm [FX] (hr : Rep e s w) (hm : RTm e s.next ns tm a) {c : Call} (ho : o.op = .call c) {x y : Operand} (h1 : c.args.toList = [x, y]) {k : Nat} (hc : (c.callee = .builtin .max ∧ k = 0) ∨ (c.callee = .builtin .min ∧ k = 1) ∨ (c.callee = .builtin .complex ∧ k = 2)) (h : maxA (ev (mv ns x) tm) (ev (mv ns y) tm) k s = .val v s') : OkV P e s w (execOp a.eval o) v s' := by
  have hx := ev_R hm x
  have hy := ev_R hm y
  generalize ev (mv ns x) tm = X at hx h
  generalize ev (mv ns y) tm = Y at hy h
  have hex : ∀ z, (Builtin.max_ c.argTypes o.type #[a.eval x, a.eval y]).run P w = .ok z w → c.callee = .builtin .max → (execOp a.eval o).run P w = .ok (.value z) w := fun z hz hcc => by
    unfold execOp
    rw [ho]
    simp only [resolve, hcc, arr_of h1, List.map_toArray, List.map_cons, List.map_nil, Sem.run_bind, Sem.run_pure, Result.andThen_ok, invoke, builtin, hz]
  have hey : ∀ z, (Builtin.min_ c.argTypes o.type #[a.eval x, a.eval y]).run P w = .ok z w → c.callee = .builtin .min → (execOp a.eval o).run P w = .ok (.value z) w := fun z hz hcc => by
    unfold execOp
    rw [ho]
    simp only [resolve, hcc, arr_of h1, List.map_toArray, List.map_cons, List.map_nil, Sem.run_bind, Sem.run_pure, Result.andThen_ok, invoke, builtin, hz]
  have hez : ∀ z, (Builtin.complex_ c.argTypes o.type #[a.eval x, a.eval y]).run P w = .ok z w → c.callee = .builtin .complex → (execOp a.eval o).run P w = .ok (.value z) w := fun z hz hcc => by
    unfold execOp
    rw [ho]
    simp only [resolve, hcc, arr_of h1, List.map_toArray, List.map_cons, List.map_nil, Sem.run_bind, Sem.run_pure, Result.andThen_ok, invoke, builtin, hz]
  obtain ⟨rfl, hinv⟩ := maxA_inv h
  rcases hinv with ⟨rfl, d, p, d', r, rfl, rfl, rfl⟩ | ⟨rfl, d, p, d', r, rfl, rfl, rfl⟩ | ⟨rfl, p, r, rfl, rfl, rfl⟩
  · have hcc : c.callee = .builtin .max := by rcases hc with ⟨h, _⟩ | ⟨_, h⟩ | ⟨_, h⟩ <;> first | exact h | cases h
    have hx : a.eval x = .int d p := hx
    have hy : a.eval y = .int d' r := hy
    refine okV_pure hr (hex (.int d (if p < r then r else p)) ?_ hcc) rfl
    rw [hx, hy]
    simp [Builtin.max_, Builtin.max2]
  · have hcc : c.callee = .builtin .min := by rcases hc with ⟨_, h⟩ | ⟨h, _⟩ | ⟨_, h⟩ <;> first | exact h | cases h
    have hx : a.eval x = .int d p := hx
    have hy : a.eval y = .int d' r := hy
    refine okV_pure hr (hey (.int d (if r < p then r else p)) ?_ hcc) rfl
    rw [hx, hy]
    simp [Builtin.min_, Builtin.min2]
  · have hcc : c.callee = .builtin .complex := by rcases hc with ⟨_, h⟩ | ⟨_, h⟩ | ⟨h, _⟩ <;> first | exact h | cases h
    have hx : a.eval x = .float .f64 p := hx
    have hy : a.eval y = .float .f64 r := hy
    refine okV_pure hr (hez (.complex .f64 p r) ?_ hcc) rfl
    rw [hx, hy]
    rfl
/-- Assertions. -/
theorem asrt_inv {X : AV} {z : Option AV} {t : Nat} {ok : Bool} (h : oAssert X z t ok s = .val v s') : s = s' ∧ ((∃ w, X = .ifc t w ∧ v = okTup ok w true) ∨ (ok = true ∧ (X = .lit .nilIface ∨ ∃ u w, X = .ifc u w ∧ u ≠ t) ∧ ∃ zz, z = some zz ∧ v = okTup true zz false)) := by
  have hmiss : ∀ {s s' : St}, missT ok z s = .val v s' → s = s' ∧ ok = true ∧ ∃ zz, z = some zz ∧ v = okTup true zz false := by
    intro s s' h
    cases ok with
    | false => cases h
    | true =>
      cases z with
      | none => cases h
      | some zz => injection h with h1 h2; exact ⟨h2, rfl, zz, rfl, h1.symm⟩
  unfold oAssert at h
  split at h <;> first | (cases h; done) | skip
  · rename_i u y
    cases hb : Nat.beq u t with
    | true =>
      rw [hb] at h
      have := Nat.eq_of_beq_eq_true hb
      subst this
      injection h with h1 h2
      exact ⟨h2, .inl ⟨y, rfl, h1.symm⟩⟩
    | false =>
      rw [hb] at h
      obtain ⟨h1, h2, h3⟩ := hmiss h
      exact ⟨h1, .inr ⟨h2, .inr ⟨u, y, rfl, Nat.ne_of_beq_eq_false hb⟩, h3⟩⟩
  · obtain ⟨h1, h2, h3⟩ := hmiss h
    exact ⟨h1, .inr ⟨h2, .inl rfl, h3⟩⟩
theorem okTup_R {ok : Bool} {x : AV} {u : Value} {b : Bool} (h : R e q x u) : R e q (okTup ok x b) (if ok = true then .tuple #[u, .bool b] else u) := by
  cases ok with
  | false => exact h
  | true => exact ⟨_, rfl, u, _, rfl, h, _, _, rfl, rfl, rfl⟩
theorem zero_val [FX] (ht : TbOk P B) {t : TypeId} {z : AV} (h : zero B t = some z) : ∃ u, (∀ w, (zeroValue t).run P w = .ok u w) ∧ ∀ {e : En} {q : Nat}, R e q z u := by
  unfold zero at h
  cases hi : B.ty.at_ t with
  | none => rw [hi] at h; cases h
  | some i =>
    rw [hi] at h
    obtain ⟨ti, h1, _, _, _, _, _, _, h2⟩ := ht.ty t i hi
    obtain ⟨u, h3, rfl⟩ := h2 z h
    exact ⟨u, fun w => by simp [zeroValue, typeInfo, h1, h3], ofV_R u⟩
theorem op_assert [FX] (ht : TbOk P B) (hr : Rep e s w) (hm : RTm e s.next ns tm a) {x : Operand} {xt t : TypeId} {ok : Bool} (ho : o.op = .typeAssert x xt t ok) {d : TypeDesc} (hu : P.underlying t = some d) (hd : ifaceB d = false) (h : oAssert (ev (mv ns x) tm) (zero B t) t ok s = .val v s') : OkV P e s w (execOp a.eval o) v s' := by
  have hx := ev_R hm x
  generalize ev (mv ns x) tm = X at hx h
  obtain ⟨rfl, hinv⟩ := asrt_inv h
  rcases hinv with ⟨y, rfl, rfl⟩ | ⟨rfl, hX, zz, hz, rfl⟩
  · obtain ⟨u, hx, hR⟩ := hx
    refine okV_pure hr ?_ (okTup_R (b := true) hR)
    unfold execOp
    rw [ho]
    cases d <;> first | (cases hd; done) | (cases ok <;> simp [Instr.typeAssert, run_underlying hu, hx])
  · obtain ⟨zu, hz1, hz2⟩ := zero_val ht hz
    refine okV_pure hr ?_ (okTup_R (ok := true) (b := false) hz2)
    unfold execOp
    rw [ho]
    rcases hX with rfl | ⟨u, y, rfl, hne⟩
    · have hx : a.eval x = .nilIface := hx
      cases d <;> first | (cases hd; done) | simp [Instr.typeAssert, run_underlying hu, hx, hz1]
    · obtain ⟨u', hx, _⟩ := hx
      cases d <;> first | (cases hd; done) | simp [Instr.typeAssert, run_underlying hu, hx, hz1, hne]
end

section
variable {P : Program} {B : Tb} {e : En} {s s' : St} {w : World} {ns : NS} {tm : Tm} {a : Act} {o : Oper} {v : AV} {q : Nat}

theorem kk_inv {d : TypeDesc} {f : KK → MOp} {m : MOp} (h : mapM2 f (kkOf B d) = m) (hm : m ≠ .none) : ∃ k el kk, d = .map k el ∧ kkD (dsc B k) = some kk ∧ m = f kk := by
  cases d <;> first | exact absurd h.symm hm | skip
  rename_i k el
  cases hk : kkD (dsc B k) with
  | none => rw [show kkOf B (.map k el) = kkD (dsc B k) from rfl, hk] at h; exact absurd h.symm hm
  | some kk => rw [show kkOf B (.map k el) = kkD (dsc B k) from rfl, hk] at h; exact ⟨k, el, kk, rfl, hk, h.symm⟩
theorem kkEq_iff {a b : KK} (h : kkEq a b = true) : a = b := by
  cases a <;> cases b <;> first | rfl | (cases h; done) | skip
  rw [of_decide_eq_true h]
/-- What the search makes of two keys. -/
theorem same_run [FX] {d : TypeDesc} {kk : KK} (hk : kkD d = some kk) {x y : AV} {u z : Value} (hx : R e q x u) (hy : R e q y z) (h1 : fits kk x = true) (h2 : fits kk y = true) : Instr.sameNow d u z = some (eqV x y) := by
  cases d <;> first | (cases hk; done) | skip
  all_goals
    cases hk
    cases x <;> first | (cases h1; done) | skip
    cases y <;> first | (cases h2; done) | skip
  · rw [show u = _ from hx, show z = _ from hy]; rfl
  · have h1 := of_decide_eq_true h1
    have h2 := of_decide_eq_true h2
    subst h1 h2
    rw [show u = _ from hx, show z = _ from hy]
    simp [Instr.sameNow, eqV]
  · rw [hx.2, hy.2]
    simp only [Instr.sameNow, eqV]
    rw [beq_toListBytes, bys_list, bys_list, bys_inj hx.1 hy.1]
theorem eqV_iff [FX] {kk : KK} {x y : AV} (h1 : fits kk x = true) (h2 : fits kk y = true) : eqV x y = true ↔ x = y := by
  cases kk
  all_goals
    cases x <;> first | (cases h1; done) | skip
    cases y <;> first | (cases h2; done) | skip
  · have h1 := of_decide_eq_true h1
    have h2 := of_decide_eq_true h2
    subst h1 h2
    simp [eqV]
  · simp only [eqV, AV.str.injEq]
    exact eqL_iff _ _
  · simp [eqV]
theorem findM_mem [FX] {kk : KK} {x : AV} (hx : fits kk x = true) : ∀ {es : List (AV × AV)}, (∀ p ∈ es, fits kk p.1 = true) → (es.map Prod.fst).Nodup → ∀ y, findM x es = some y ↔ (x, y) ∈ es
  | [], _, _, y => by simp [findM]
  | p :: es, hf, hn, y => by
    rw [show findM x (p :: es) = Bool.rec (findM x es) (some p.2) (eqV x p.1) from rfl]
    rw [List.map_cons, List.nodup_cons] at hn
    have ih := findM_mem hx (fun q hq => hf q (List.mem_cons_of_mem _ hq)) hn.2 y
    cases hb : eqV x p.1 with
    | true =>
      have he := (eqV_iff hx (hf p (by simp))).1 hb
      subst he
      show some p.2 = some y ↔ _
      constructor
      · intro h; cases h; simp
      · intro h
        rcases List.mem_cons.1 h with h | h
        · rw [← h]
        · exact absurd (List.mem_map.2 ⟨_, h, rfl⟩) hn.1
    | false =>
      show findM x es = some y ↔ _
      rw [ih, List.mem_cons]
      constructor
      · exact .inr
      · rintro (h | h)
        · have : eqV x p.1 = true := (eqV_iff hx (hf p (by simp))).2 (by rw [← h])
          rw [hb] at this; cases this
        · exact h
theorem Mp.find [FX] {kk : KK} {es es' : List (AV × AV)} (h : Mp kk es es') {x : AV} (hx : fits kk x = true) : findM x es = findM x es' := by
  have hf : ∀ p ∈ es, fits kk p.1 = true := fun p hp => h.2.1 p (h.1.mem_iff.1 hp)
  have hn : (es.map Prod.fst).Nodup := (h.1.map Prod.fst).nodup_iff.2 h.2.2
  cases h1 : findM x es with
  | some y => exact ((findM_mem hx h.2.1 h.2.2 y).2 (h.1.mem_iff.1 ((findM_mem hx hf hn y).1 h1))).symm
  | none =>
    cases h2 : findM x es' with
    | none => rfl
    | some y =>
      have := (findM_mem hx hf hn y).2 (h.1.mem_iff.2 ((findM_mem hx h.2.1 h.2.2 y).1 h2))
      rw [h1] at this; cases this
theorem find_run [FX] {d : TypeDesc} {kk : KK} (hk : kkD d = some kk) {x : AV} {u : Value} (hx : R e q x u) (h1 : fits kk x = true) : ∀ (es : List (AV × AV)) (ents : List MapEntry) (i : Nat), RKV e q es (ents.map fun x => (x.key, x.val)) → (∀ p ∈ es, fits kk p.1 = true) →
    (findM x es = none ∧ Instr.findNow d u ents i = some none) ∨ ∃ y z j, findM x es = some y ∧ Instr.findNow d u ents i = some (some (i + j, z)) ∧ R e q y z
  | [], ents, i, h, _ => by
    cases ents with
    | nil => exact .inl ⟨rfl, rfl⟩
    | cons y l => cases h
  | p :: es, ents, i, h, hf => by
    cases ents with
    | nil => obtain ⟨_, _, _, h2, _⟩ := h; cases h2
    | cons y l =>
      obtain ⟨k1, v1, r, h2, h3, h4, h5⟩ := h
      simp only [List.map_cons, List.cons.injEq, Prod.mk.injEq] at h2
      obtain ⟨⟨rfl, rfl⟩, rfl⟩ := h2
      have hs := same_run hk hx h3 h1 (hf p (List.mem_cons_self ..))
      rw [show findM x (p :: es) = Bool.rec (findM x es) (some p.2) (eqV x p.1) from rfl, Instr.findNow, hs]
      cases hb : eqV x p.1 with
      | true => exact .inr ⟨p.2, y.val, 0, rfl, rfl, h4⟩
      | false =>
        rcases find_run hk hx h1 es l (i + 1) h5 (fun p' hp => hf p' (List.mem_cons_of_mem _ hp)) with h6 | ⟨y', z, j, h6, h7, h8⟩
        · exact .inl h6
        · exact .inr ⟨y', z, j + 1, h6, by rw [show i + (j + 1) = i + 1 + j by omega]; exact h7, h8⟩
theorem checkKey_run {t : TypeId} {d : TypeDesc} {kk : KK} (hk : kkD d = some kk) (hu : P.underlying t = some d) (em : Bool) (n : Nat) (u : Value) : (Instr.checkKey em (n + 1) t u).run P w = .ok () w := by
  cases d <;> first | (cases hk; done) | simp [Instr.checkKey, run_underlying hu]
theorem foundIn_inv [FX] {X I : AV} {k : KK} {r : Option AV} (h : foundIn X k I s = some r) : (X = .lit (.map none) ∧ fits k I = true ∧ r = none) ∨ ∃ b es, X = .map b ∧ s.get b = some (.map k es) ∧ fits k I = true ∧ r = findM I es := by
  cases X <;> first | (cases h; done) | skip
  · rename_i u
    cases u <;> first | (cases h; done) | skip
    rename_i r'
    cases r' with
    | some _ => cases h
    | none =>
      obtain ⟨h1, h2⟩ := gateO (x := some none) h
      injection h2 with h2
      exact .inl ⟨rfl, h1, h2.symm⟩
  · rename_i b
    replace h : findO (s.get b) k I = some r := h
    cases hg : s.get b with
    | none => rw [hg] at h; cases h
    | some ob =>
      rw [hg] at h
      cases ob <;> first | (cases h; done) | skip
      rename_i kk es
      have hh := gateO (x := some (findM I es)) h
      obtain ⟨h1, h2⟩ := hh
      obtain ⟨h1, h3⟩ := and_inv h1
      have h1 := kkEq_iff h1
      subst h1
      injection h2 with h2
      exact .inr ⟨b, es, rfl, hg, h3, h2.symm⟩
theorem oLook_inv [FX] {X I : AV} {k : KK} {z : Option AV} {ok : Bool} (h : lookF (foundIn X k I s) z ok s = .val v s') : s = s' ∧ fits k I = true ∧ ((X = .lit (.map none) ∧ ∃ u, z = some u ∧ v = okTup ok u false) ∨ ∃ b es, X = .map b ∧ s.get b = some (.map k es) ∧ ((∃ y, findM I es = some y ∧ v = okTup ok y true) ∨ (findM I es = none ∧ ∃ u, z = some u ∧ v = okTup ok u false))) := by
  have hmiss : ∀ {s s' : St}, zeroTup z ok s = .val v s' → s = s' ∧ ∃ u, z = some u ∧ v = okTup ok u false := by
    intro s s' h
    cases z with
    | none => cases h
    | some u => injection h with h1 h2; exact ⟨h2, u, rfl, h1.symm⟩
  cases hf : foundIn X k I s with
  | none => rw [hf] at h; cases h
  | some r =>
    rw [hf] at h
    rcases foundIn_inv hf with ⟨h1, h2, rfl⟩ | ⟨b, es, h1, h2, h3, rfl⟩
    · obtain ⟨h4, h5⟩ := hmiss h
      exact ⟨h4, h2, .inl ⟨h1, h5⟩⟩
    · cases hm : findM I es with
      | none =>
        rw [hm] at h
        obtain ⟨h4, h5⟩ := hmiss h
        exact ⟨h4, h3, .inr ⟨b, es, h1, h2, .inr ⟨hm, h5⟩⟩⟩
      | some y =>
        rw [hm] at h
        injection h with h4 h5
        exact ⟨h5, h3, .inr ⟨b, es, h1, h2, .inl ⟨y, hm, h4.symm⟩⟩⟩
theorem op_lookup [FX] (ht : TbOk P B) (hr : Rep e s w) (hm : RTm e s.next ns tm a) {t : TypeId} {x i : Operand} {ok : Bool} (ho : o.op = .lookup t x i ok) {m : MOp} (hmm : mapM2 (fun k => .lookup k (zero B (elS (dsc B t))) ok (mv ns x) (mv ns i)) (kkOf B (dsc B t)) = m) (h : opA m tm s = .val v s') : OkV P e s w (execOp a.eval o) v s' := by
  have hne : m ≠ .none := by rintro rfl; cases h
  obtain ⟨k, el, kk, hd, hk, rfl⟩ := kk_inv hmm hne
  have hu := ht.dsc hd (by intro hh; cases hh)
  have huk : P.underlying k = some (dsc B k) := ht.dsc rfl (by intro hh; rw [hh] at hk; cases hk)
  have hel : elS (dsc B t) = el := by rw [hd]; rfl
  obtain ⟨rfl, h1, h2⟩ := oLook_inv (show lookF (foundIn (ev (mv ns x) tm) kk (ev (mv ns i) tm) s) (zero B (elS (dsc B t))) ok s = .val v s' from h)
  have hx := ev_R hm x
  have hi := ev_R hm i
  rw [hel] at h2
  rcases h2 with ⟨hX, zz, hz, rfl⟩ | ⟨b, es, hX, hg, h3⟩
  · rw [hX] at hx
    have hx : a.eval x = .map none := hx
    obtain ⟨zu, hz1, hz2⟩ := zero_val ht hz
    refine okV_pure hr ?_ (okTup_R (b := false) hz2)
    unfold execOp
    rw [ho]
    cases ok <;> simp [Instr.lookup, run_underlying hu, hx, checkKey_run hk huk _ 9999, Instr.findKey, run_underlying huk, Instr.findNow, hz1]
  · rw [hX] at hx
    obtain ⟨_, hx⟩ := hx
    obtain ⟨_, _, r, h5, ents, clock, es', rfl, h6, hmp, _⟩ := hr.obj b _ hg
    have h7 := hmp.2.1
    rw [hmp.find h1] at h3
    have hobj : (getObj (e.σ b)).run P w = .ok (.map ents clock) w := by simp [getObj, Sem.run, h5]
    rcases find_run hk hi h1 es' ents.toList 0 h6 h7 with ⟨h8, h9⟩ | ⟨y, z, j, h8, h9, h10⟩
    · rcases h3 with ⟨y, h11, _⟩ | ⟨_, zz, hz, rfl⟩
      · rw [h8] at h11; cases h11
      obtain ⟨zu, hz1, hz2⟩ := zero_val ht hz
      refine okV_pure hr ?_ (okTup_R (b := false) hz2)
      unfold execOp
      rw [ho]
      cases ok <;> simp [Instr.lookup, run_underlying hu, hx, hobj, checkKey_run hk huk _ 9999, Instr.findKey, run_underlying huk, h9, hz1]
    · rcases h3 with ⟨y', h11, rfl⟩ | ⟨h11, _⟩
      · rw [h8] at h11
        cases h11
        refine okV_pure hr ?_ (okTup_R (b := true) h10)
        unfold execOp
        rw [ho]
        cases ok <;> simp [Instr.lookup, run_underlying hu, hx, hobj, checkKey_run hk huk _ 9999, Instr.findKey, run_underlying huk, h9]
      · rw [h8] at h11; cases h11
theorem op_mkMap [FX] (hr : Rep e s w) {t : TypeId} {r : Option Operand} (ho : o.op = .makeMap t r) {k : Option KK} {m : MOp} (hmm : cmpMk r k = m) (h : opA m tm s = .val v s') : OkV P e s w (execOp a.eval o) v s' := by
  have hne : m ≠ .none := by rintro rfl; cases h
  cases r with
  | some r => cases k <;> exact absurd hmm.symm hne
  | none =>
    cases k with
    | none => exact absurd hmm.symm hne
    | some k =>
      subst hmm
      injection (show Nx.val (.map s.next) (s.add (.map k [])) = .val v s' from h) with h1 h2
      subst h1 h2
      refine ⟨e.up s.next w.heap.size 0, w.alloc (.map #[] 0), .value (.map (some w.heap.size)), ?_, Stp.new hr _ _ _ ⟨#[], 0, [], rfl, rfl, ⟨List.Perm.refl _, fun p hp => ((by cases hp)), List.Pairwise.nil⟩, fun p hp => ((by cases hp)), List.Pairwise.nil⟩, .inl ⟨_, rfl, ⟨Nat.lt_succ_self _, by simp [En.up]⟩, by simp [En.up]⟩⟩
      unfold execOp
      rw [ho]
      simp [Instr.makeMap]
end

section
variable {P : Program} {B : Tb} {e : En} {s s' : St} {w : World} {ns : NS} {tm : Tm} {a : Act} {o : Oper} {v : AV} {q : Nat}

theorem eqV_same [FX] {kk : KK} {x y : AV} {u z : Value} (hx : R e q x u) (hy : R e q y z) (h1 : fits kk x = true) (h2 : fits kk y = true) (h : eqV x y = true) : Instr.sameBits 10000 z u = true := by
  cases kk
  all_goals
    cases x <;> first | (cases h1; done) | skip
    cases y <;> first | (cases h2; done) | skip
  · have h1 := of_decide_eq_true h1
    have h2 := of_decide_eq_true h2
    subst h1 h2
    rw [show u = _ from hx, show z = _ from hy]
    rename_i n1 n2
    have h3 : n1 = n2 := eq_of_beq (show (n1 == n2) = true from h)
    subst h3
    simp [Instr.sameBits]
  · rw [hx.2, hy.2]
    have := (eqL_iff _ _).1 h
    subst this
    show (bys _ == bys _) = true
    rw [beq_toListBytes]
    exact BEq.rfl
  · rw [show u = _ from hx, show z = _ from hy]
    rename_i n1 n2
    have h3 : n1 = n2 := eq_of_beq (show (n1 == n2) = true from h)
    subst h3
    simp [Instr.sameBits]
theorem RKV.push {x y : AV} {u z : Value} (hx : R e q x u) (hy : R e q y z) : ∀ {es : List (AV × AV)} {l : List (Value × Value)}, RKV e q es l → RKV e q (es ++ [(x, y)]) (l ++ [(u, z)])
  | [], _, h => by cases h; exact ⟨u, z, [], rfl, hx, hy, rfl⟩
  | p :: es, _, h => by
    obtain ⟨k1, v1, r, rfl, h3, h4, h5⟩ := h
    exact ⟨k1, v1, _, rfl, h3, h4, RKV.push hx hy h5⟩
/-- Where an update goes. -/
theorem put_run [FX] {d : TypeDesc} {kk : KK} (hk : kkD d = some kk) {x y : AV} {u z : Value} (hx : R e q x u) (hy : R e q y z) (h1 : fits kk x = true) : ∀ (es : List (AV × AV)) (ents : List MapEntry) (i : Nat), RKV e q es (ents.map fun x => (x.key, x.val)) → (∀ p ∈ es, fits kk p.1 = true) →
    (Instr.findNow d u ents i = some none ∧ putM x y es = es ++ [(x, y)]) ∨ ∃ j ent t, ents[j]? = some ent ∧ Instr.findNow d u ents i = some (some (i + j, t)) ∧ Instr.sameBits 10000 ent.key u = true ∧ RKV e q (putM x y es) ((ents.set j { ent with key := u, val := z }).map fun x => (x.key, x.val)) ∧ ∀ p ∈ putM x y es, fits kk p.1 = true
  | [], ents, i, h, _ => by
    cases ents with
    | nil => exact .inl ⟨rfl, rfl⟩
    | cons y l => cases h
  | p :: es, ents, i, h, hf => by
    cases ents with
    | nil => obtain ⟨_, _, _, h2, _⟩ := h; cases h2
    | cons ent l =>
      obtain ⟨k1, v1, r, h2, h3, h4, h5⟩ := h
      simp only [List.map_cons, List.cons.injEq, Prod.mk.injEq] at h2
      obtain ⟨⟨rfl, rfl⟩, rfl⟩ := h2
      have hfp := hf p (List.mem_cons_self ..)
      have hs := same_run hk hx h3 h1 hfp
      rw [show putM x y (p :: es) = Bool.rec (p :: putM x y es) ((x, y) :: es) (eqV x p.1) from rfl, Instr.findNow, hs]
      cases hb : eqV x p.1 with
      | true =>
        refine .inr ⟨0, ent, _, rfl, rfl, eqV_same hx h3 h1 hfp hb, ⟨_, _, _, rfl, hx, hy, h5⟩, fun p' hp => ?_⟩
        rcases List.mem_cons.1 hp with rfl | hp
        · exact h1
        · exact hf p' (List.mem_cons_of_mem _ hp)
      | false =>
        rcases put_run hk hx hy h1 es l (i + 1) h5 (fun p' hp => hf p' (List.mem_cons_of_mem _ hp)) with ⟨h6, h7⟩ | ⟨j, ent', t, h6, h7, h8, h9, h10⟩
        · exact .inl ⟨h6, by show p :: putM x y es = _; rw [h7]; rfl⟩
        · refine .inr ⟨j + 1, ent', t, h6, by rw [show i + (j + 1) = i + 1 + j by omega]; exact h7, h8, ⟨_, _, _, rfl, h3, h4, h9⟩, fun p' hp => ?_⟩
          rcases List.mem_cons.1 hp with rfl | hp
          · exact hfp
          · exact h10 p' hp
theorem putM_eq [FX] {kk : KK} {x y : AV} (hx : fits kk x = true) : ∀ {es : List (AV × AV)}, (∀ p ∈ es, fits kk p.1 = true) → (es.map Prod.fst).Nodup → (x ∈ es.map Prod.fst → putM x y es = es.map fun p => if eqV x p.1 = true then (x, y) else p) ∧ (x ∉ es.map Prod.fst → putM x y es = es ++ [(x, y)])
  | [], _, _ => ⟨fun h => by simp at h, fun _ => rfl⟩
  | p :: es, hf, hn => by
    rw [List.map_cons, List.nodup_cons] at hn
    obtain ⟨ih1, ih2⟩ := putM_eq (y := y) hx (es := es) (fun q hq => hf q (List.mem_cons_of_mem _ hq)) hn.2
    rw [show putM x y (p :: es) = Bool.rec (p :: putM x y es) ((x, y) :: es) (eqV x p.1) from rfl]
    cases hb : eqV x p.1 with
    | true =>
      have he := (eqV_iff hx (hf p (by simp))).1 hb
      refine ⟨fun _ => ?_, fun h => absurd (by simp [he]) h⟩
      rw [List.map_cons, if_pos hb]
      show (x, y) :: es = _
      congr 1
      symm
      rw [← List.map_id es]
      simp only [List.map_map]
      refine List.map_congr_left fun q hq => ?_
      show (if eqV x q.1 = true then (x, y) else q) = q
      rw [if_neg]
      intro hq2
      have := (eqV_iff hx (hf q (List.mem_cons_of_mem _ hq))).1 hq2
      exact hn.1 (by rw [← he, this]; exact List.mem_map.2 ⟨q, hq, rfl⟩)
    | false =>
      have hne : ¬ x = p.1 := fun h => by rw [(eqV_iff hx (hf p (by simp))).2 h] at hb; cases hb
      refine ⟨fun h => ?_, fun h => ?_⟩
      · rw [List.map_cons, List.mem_cons] at h
        rw [List.map_cons, if_neg (by rw [hb]; (intro hh; cases hh))]
        show p :: putM x y es = _
        rw [ih1 (h.resolve_left hne)]
      · rw [List.map_cons, List.mem_cons, not_or] at h
        show p :: putM x y es = _
        rw [ih2 h.2]
        rfl
theorem Mp.put [FX] {kk : KK} {es es' : List (AV × AV)} (h : Mp kk es es') {x y : AV} (hx : fits kk x = true) : Mp kk (putM x y es) (putM x y es') := by
  have hf : ∀ p ∈ es, fits kk p.1 = true := fun p hp => h.2.1 p (h.1.mem_iff.1 hp)
  have hn : (es.map Prod.fst).Nodup := (h.1.map Prod.fst).nodup_iff.2 h.2.2
  obtain ⟨p1, p2⟩ := putM_eq (y := y) hx hf hn
  obtain ⟨q1, q2⟩ := putM_eq (y := y) hx h.2.1 h.2.2
  have hm : x ∈ es.map Prod.fst ↔ x ∈ es'.map Prod.fst := (h.1.map Prod.fst).mem_iff
  rcases Classical.em (x ∈ es'.map Prod.fst) with hin | hin
  · rw [p1 (hm.2 hin), q1 hin]
    have hkeys : (es'.map fun p => if eqV x p.1 = true then (x, y) else p).map Prod.fst = es'.map Prod.fst := by
      rw [List.map_map]
      refine List.map_congr_left fun p hp => ?_
      show (if eqV x p.1 = true then (x, y) else p).1 = p.1
      by_cases hb : eqV x p.1 = true
      · rw [if_pos hb]; exact (eqV_iff hx (h.2.1 p hp)).1 hb
      · rw [if_neg hb]
    refine ⟨h.1.map _, fun p hp => ?_, by rw [hkeys]; exact h.2.2⟩
    obtain ⟨p0, hp0, rfl⟩ := List.mem_map.1 hp
    by_cases hb : eqV x p0.1 = true
    · rw [if_pos hb]; exact hx
    · rw [if_neg hb]; exact h.2.1 p0 hp0
  · rw [p2 (fun hh => hin (hm.1 hh)), q2 hin]
    refine ⟨h.1.append_right _, fun p hp => ?_, ?_⟩
    · rcases List.mem_append.1 hp with hp | hp
      · exact h.2.1 p hp
      · rw [List.mem_singleton.1 hp]; exact hx
    · rw [List.map_append, List.nodup_append]
      refine ⟨h.2.2, by simp, fun a ha b hb => ?_⟩
      rw [List.map_singleton, List.mem_singleton] at hb
      subst hb
      rintro rfl
      exact hin ha
theorem oUpd_inv [FX] {X K Y : AV} {c : KK} (h : oUpdate X c K Y s = .val v s') : ∃ b es, X = .map b ∧ s.get b = some (.map c es) ∧ fits c K = true ∧ v = und ∧ s' = s.put b (.map c (putM K Y es)) := by
  cases X <;> first | (cases h; done) | skip
  rename_i b
  replace h : updO (s.get b) c K Y b s = .val v s' := h
  cases hg : s.get b with
  | none => rw [hg] at h; cases h
  | some ob =>
    rw [hg] at h
    cases ob <;> first | (cases h; done) | skip
    rename_i kk es
    have hh := gate (x := .val und (s.put b (.map kk (putM K Y es)))) h
    obtain ⟨h1, h2⟩ := hh
    obtain ⟨h1, h3⟩ := and_inv h1
    have h1 := kkEq_iff h1
    subst h1
    injection h2 with h2 h4
    exact ⟨b, es, rfl, hg, h3, h2.symm, h4.symm⟩
theorem op_update [FX] (ht : TbOk P B) (hr : Rep e s w) (hm : RTm e s.next ns tm a) {t : TypeId} {x k y : Operand} (ho : o.op = .mapUpdate t x k y ∨ o.op = .insert t x k y) {m : MOp} (hmm : mapM2 (fun c => .update c (mv ns x) (mv ns k) (mv ns y)) (kkOf B (dsc B t)) = m) (h : opA m tm s = .val v s') : OkV P e s w (execOp a.eval o) v s' := by
  have hne : m ≠ .none := by rintro rfl; cases h
  obtain ⟨kt, el, kk, hd, hk, rfl⟩ := kk_inv hmm hne
  have hu := ht.dsc hd (by intro hh; cases hh)
  have huk : P.underlying kt = some (dsc B kt) := ht.dsc rfl (by intro hh; rw [hh] at hk; cases hk)
  obtain ⟨b, es, hX, hg, h1, rfl, rfl⟩ := oUpd_inv (show oUpdate (ev (mv ns x) tm) kk (ev (mv ns k) tm) (ev (mv ns y) tm) s = .val v s' from h)
  have hx := ev_R hm x
  have hi := ev_R hm k
  have hy := ev_R hm y
  rw [hX] at hx
  obtain ⟨_, hx⟩ := hx
  obtain ⟨_, hσ, r, h5, ents, clock, es', rfl, h6, hmp, hbo⟩ := hr.obj b _ hg
  have h7 := hmp.2.1
  have hmq := hmp.put (y := ev (mv ns y) tm) h1
  have hobj : (getObj (e.σ b)).run P w = .ok (.map ents clock) w := by simp [getObj, Sem.run, h5]
  have hset : ∀ ob : Obj, (setObj (e.σ b) ob).run P w = .ok () { w with heap := w.heap.setIfInBounds (e.σ b) ob } := fun ob => by simp [setObj, Sem.run, h5]
  have hex : ∀ w', (Instr.mapUpdate t (a.eval x) (a.eval k) (a.eval y)).run P w = .ok () w' → (execOp a.eval o).run P w = .ok .skip w' := fun w' hw => by
    unfold execOp
    rcases ho with ho | ho <;> rw [ho] <;> simp only [Sem.run_bind, hw] <;> rfl
  rcases put_run hk hi hy h1 es' ents.toList 0 h6 h7 with ⟨h8, h9⟩ | ⟨j, ent, t', h8, h9, h10, h11, h12⟩
  · refine ⟨e, { w with heap := w.heap.setIfInBounds (e.σ b) (.map (ents.push { key := a.eval k, val := a.eval y, born := clock }) (clock + 1)) }, .skip, hex _ ?_, Stp.put hr hg _ _ ⟨_, _, putM (ev (mv ns k) tm) (ev (mv ns y) tm) es', rfl, ?_, hmq, by rw [Array.toList_push]; exact hbo.push rfl⟩ rfl rfl rfl rfl, .inr ⟨rfl, rfl⟩⟩
    · simp [Instr.mapUpdate, run_underlying hu, hx, hobj, checkKey_run hk huk _ 9999, Instr.findKey, run_underlying huk, h8, hset]
    · rw [h9]; simpa using RKV.push hi hy h6
  · rw [Nat.zero_add] at h9
    have hej : ents[j]? = some ent := by rw [← Array.getElem?_toList]; exact h8
    have hmod : (ents.modify j fun e => { e with key := a.eval k, val := a.eval y }).toList = ents.toList.set j { ent with key := a.eval k, val := a.eval y } := by
      rw [Array.toList_modify]
      apply List.ext_getElem?
      intro i
      rw [List.getElem?_modify, List.getElem?_set]
      by_cases hij : j = i
      · subst hij
        have hlt := (List.getElem?_eq_some_iff.1 h8).1
        rw [if_pos rfl, h8, if_pos hlt]; simp
      · rw [if_neg hij]; simp [hij]
    refine ⟨e, { w with heap := w.heap.setIfInBounds (e.σ b) (.map (ents.modify j fun e => { e with key := a.eval k, val := a.eval y }) clock) }, .skip, hex _ ?_, Stp.put hr hg _ _ ⟨_, _, putM (ev (mv ns k) tm) (ev (mv ns y) tm) es', rfl, ?_, hmq, by rw [hmod]; exact hbo.set h8 rfl⟩ rfl rfl rfl rfl, .inr ⟨rfl, rfl⟩⟩
    · simp [Instr.mapUpdate, run_underlying hu, hx, hobj, checkKey_run hk huk _ 9999, Instr.findKey, run_underlying huk, h9, hset, hej, Instr.keyThatStays, h10]
    · rw [hmod]; exact h11
end

section
variable {P : Program} {B : Tb} {e : En} {s s' : St} {w : World} {ns : NS} {tm : Tm} {a : Act} {o : Oper} {v : AV} {q : Nat}

theorem conv_ex {x : Operand} {t d : TypeId} (ho : o.op = .convert t d x) {w' : World} {z : Value} (h : (convert t d (a.eval x)).run P w = .ok z w') : (execOp a.eval o).run P w = .ok (.value z) w' := by
  unfold execOp
  rw [ho]
  simp only [Sem.run_bind, h, Result.andThen_ok, Sem.run_pure]
theorem conv_int {k : IntKind} {X : AV} (h : convA (.int k) X s = .val v s') : (∃ k' n, X = .int k' n ∧ v = .int k (k.wrap n) ∧ s = s') ∨ ∃ k' m r, X = .cls k' m r ∧ v = .cls k m r ∧ s = s' ∧ wideB k = true := by
  cases X <;> first | (cases h; done) | skip
  · injection h with h1 h2
    exact .inl ⟨_, _, rfl, h1.symm, h2⟩
  · rename_i k' m r
    replace h : (Bool.rec (.bad 135) (.val (.cls k m r) s) (wideB k) : Nx) = .val v s' := h
    cases hw : wideB k with
    | false => rw [hw] at h; cases h
    | true =>
      rw [hw] at h
      injection h with h1 h2
      exact .inr ⟨k', m, r, rfl, h1.symm, h2, rfl⟩
theorem wide_wrap {k : IntKind} (h : wideB k = true) {n : Nat} (hn : n < 256) : k.wrap n = n := by
  cases k <;> first | (cases h; done) | skip
  all_goals
    simp only [IntKind.wrap, IntKind.bits, IntKind.signed]
    have h1 : ((n : Int) % 2 ^ 16) = n := by omega
    have h2 : ((n : Int) % 2 ^ 32) = n := by omega
    have h3 : ((n : Int) % 2 ^ 64) = n := by omega
    have h4 : ((n : Int) % 2 ^ 8) = n := by omega
    simp <;> omega
theorem conv_float {k : FloatKind} {X : AV} (h : convA (.float k) X s = .val v s') : ∃ k' n, X = .int k' n ∧ v = .lit (.float k (k.nearest n)) ∧ s = s' := by
  cases X <;> first | (cases h; done) | skip
  injection h with h1 h2
  exact ⟨_, _, rfl, h1.symm, h2⟩
theorem conv_rune {X : AV} (h : convA .rune X s = .val v s') : ∃ k' n, X = .int k' n ∧ v = strV (Utf8.encode n) ∧ s = s' := by
  cases X <;> first | (cases h; done) | skip
  injection h with h1 h2
  exact ⟨_, _, rfl, h1.symm, h2⟩
theorem conv_str {X : AV} (h : convA .str X s = .val v s') : ∃ l, X = .str l ∧ v = .str l ∧ s = s' := by
  cases X <;> first | (cases h; done) | skip
  injection h with h1 h2
  exact ⟨_, rfl, h1.symm, h2⟩
theorem conv_bytes {el : Nat} {X : AV} (h : convA (.bytes el) X s = .val v s') : ∃ l, X = .str l ∧ v = .slc s.next 0 l.length (.gap 0) ∧ s' = s.add (.cells (putE (mapR byteC l) 0 .leaf) l.length 1 el true) := by
  cases X <;> first | (cases h; done) | skip
  rename_i l
  injection h with h1 h2
  rw [lenR_eq] at h1 h2
  exact ⟨l, rfl, h1.symm, h2.symm⟩
theorem conv_of [FX] {X : AV} (h : convA .ofBytes X s = .val v s') : (X = .lit (.slice none 0 0) ∧ v = .str [] ∧ s = s') ∨ ∃ b o n c new m l, X = .slc b o n c ∧ rowOf X 1 s = some (new, m) ∧ toBytes new = some l ∧ v = .str l ∧ s = s' := by
  generalize hk : CK.ofBytes = k at h
  unfold convA at h
  split at h <;> first | (cases h; done) | (cases hk; done) | skip
  · rename_i b o n c
    refine .inr ⟨b, o, n, c, ?_⟩
    cases hr : rowOf (.slc b o n c) 1 s with
    | none => rw [hr] at h; cases h
    | some p =>
      obtain ⟨new, m⟩ := p
      rw [hr] at h
      obtain ⟨h1, h2⟩ := vl_inv (show vl (strO (toBytes new)) 131 s = .val v s' from h)
      cases hb : toBytes new with
      | none => rw [hb] at h1; cases h1
      | some l => rw [hb] at h1; cases h1; exact ⟨new, m, l, rfl, rfl, hb, rfl, h2⟩
  · injection h with h1 h2
    exact .inl ⟨rfl, h1.symm, h2⟩
inductive CkOf (P : Tb) : TypeDesc → TypeDesc → CK → Prop
  | int (k k') : CkOf P (.int k') (.int k) (.int k)
  | float (k k') : CkOf P (.int k') (.float k) (.float k)
  | str : CkOf P .string .string .str
  | rune (k') : CkOf P (.int k') .string .rune
  | bytes (el) : dsc P el = .int .u8 → CkOf P .string (.slice el) (.bytes el)
  | ofBytes (el) : dsc P el = .int .u8 → CkOf P (.slice el) .string .ofBytes
theorem ckOf_inv {t d : TypeDesc} (h : ckOf t d B ≠ .no) : CkOf B t d (ckOf t d B) := by
  have hb : ∀ el, byteT (dsc B el) = true → dsc B el = .int .u8 := fun el he => by
    cases hd : dsc B el <;> rw [hd] at he <;> first | (cases he; done) | skip
    rename_i k
    cases k <;> first | rfl | (cases he; done)
  cases t <;> first | exact absurd rfl h | skip
  · cases d <;> first | exact absurd rfl h | exact .int _ _ | exact .float _ _ | exact .rune _
  · cases d <;> first | exact absurd rfl h | exact .str | skip
    rename_i el
    cases hc : byteT (dsc B el) with
    | true => rw [show ckOf .string (.slice el) B = .bytes el by show (Bool.rec .no (.bytes el) (byteT (dsc B el)) : CK) = _; rw [hc]]; exact .bytes el (hb el hc)
    | false => exact absurd (show (Bool.rec CK.no (.bytes el) (byteT (dsc B el)) : CK) = _ by rw [hc]) h
  · cases d <;> first | exact absurd rfl h | skip
    rename_i el
    cases hc : byteT (dsc B el) with
    | true => rw [show ckOf (.slice el) .string B = .ofBytes by show (Bool.rec .no .ofBytes (byteT (dsc B el)) : CK) = _; rw [hc]]; exact .ofBytes el (hb el hc)
    | false => exact absurd (show (Bool.rec CK.no .ofBytes (byteT (dsc B el)) : CK) = _ by rw [hc]) h
theorem toBytes_some [FX] : ∀ {new : List (List AV)} {l : List Nat}, toBytes new = some l → l.length = new.length ∧ ∀ (i c : Nat), l[i]? = some c → new[i]? = some [AV.int .u8 (.ofNat c)] ∧ c ≤ 255
  | [], l, h => by cases h; exact ⟨rfl, fun i c hc => (by cases hc)⟩
  | x :: new, l, h => by
    rw [show toBytes (x :: new) = Option.rec none (fun b => Option.rec none (fun r => some (b :: r)) (toBytes new)) (byteOf x) from rfl] at h
    cases hb : byteOf x with
    | none => rw [hb] at h; cases h
    | some b =>
      rw [hb] at h
      cases hr : toBytes new with
      | none => rw [hr] at h; cases h
      | some r =>
        rw [hr] at h
        cases h
        obtain ⟨h1, h2⟩ := toBytes_some hr
        have hx : x = [.int .u8 (.ofNat b)] ∧ b ≤ 255 := by
          unfold byteOf at hb
          split at hb <;> first | (cases hb; done) | skip
          obtain ⟨h3, h4⟩ := gateO (x := some _) hb
          cases h4
          exact ⟨rfl, Nat.le_of_ble_eq_true h3⟩
        refine ⟨by simp [h1], fun i c hc => ?_⟩
        cases i with
        | zero => cases hc; exact ⟨by rw [hx.1]; rfl, hx.2⟩
        | succ i => exact h2 i c hc
theorem push_bys : ∀ (l : List Nat) (m : List Nat), (l.map Int.ofNat).foldl (fun r n => r.push (UInt8.ofNat n.toNat)) (bys m) = bys (m ++ l)
  | [], m => by simp
  | b :: l, m => by
    rw [List.map_cons, List.foldl_cons]
    have : (bys m).push (UInt8.ofNat (Int.ofNat b).toNat) = bys (m ++ [b]) := by
      unfold bys ByteArray.push
      simp
    rw [this, push_bys l (m ++ [b]), List.append_assoc]
    rfl
theorem freeze_new (w : World) (cs : Array Value) (t : TypeId) : (w.alloc (.cells cs t (0, 0))).freeze ⟨w.heap.size, cs.size, none⟩ 1 = w.alloc (.cells cs t (cs.size, cs.size + 1)) := by
  unfold World.freeze
  rw [if_neg (by omega)]
  have : (w.alloc (.cells cs t (0, 0))).heap.modify w.heap.size (fun
      | .cells c elem (lo, hi) => .cells c elem (if lo == hi then (cs.size, cs.size + 1) else (min lo cs.size, max hi (cs.size + 1)))
      | o => o) = (w.alloc (.cells cs t (cs.size, cs.size + 1))).heap := by
    apply Array.ext_getElem?
    intro i
    show ((w.heap.push _).modify _ _)[i]? = (w.heap.push _)[i]?
    rw [Array.getElem?_modify, Array.getElem?_push, Array.getElem?_push]
    by_cases h : w.heap.size = i
    · subst h; simp
    · rw [if_neg h]; simp [Ne.symm h]
  exact congrArg (fun h => ({ w.alloc (.cells cs t (0, 0)) with heap := h } : World)) this
theorem bytes_cells {l : List Nat} (h1 : ∀ b ∈ l, b < 256) : ((bys l).data.map fun b => Value.int .u8 b.toNat).toList = l.map fun b => Value.int .u8 (.ofNat b) := by
  unfold bys
  simp only [Array.toList_map, List.map_map]
  apply List.map_congr_left
  intro b hb
  have := h1 b hb
  simp only [Function.comp]
  rw [UInt8.toNat_ofNat']
  congr 1
  rw [Nat.mod_eq_of_lt (by omega)]
  rfl
theorem op_conv [FX] (ht : TbOk P B) (hr : Rep e s w) (hm : RTm e s.next ns tm a) {t d : TypeId} {x : Operand} (ho : o.op = .convert t d x) (h : convA (ckOf (dsc B t) (dsc B d) B) (ev (mv ns x) tm) s = .val v s') : OkV P e s w (execOp a.eval o) v s' := by
  have hne : ckOf (dsc B t) (dsc B d) B ≠ .no := by intro hh; rw [hh] at h; cases hX : ev (mv ns x) tm <;> rw [hX] at h <;> cases h
  have hc := ckOf_inv hne
  have hx := ev_R hm x
  generalize ev (mv ns x) tm = X at hx h
  generalize hck : ckOf (dsc B t) (dsc B d) B = ck at h hc
  generalize hdt : dsc B t = dt at hc
  generalize hdd : dsc B d = dd at hc
  cases hc with
  | int k k' =>
    have hu := ht.dsc hdt (by intro hh; cases hh)
    have hu2 := ht.dsc hdd (by intro hh; cases hh)
    rcases conv_int h with ⟨k2, n, rfl, rfl, rfl⟩ | ⟨k2, m, r, rfl, rfl, rfl, hw⟩
    rotate_left 1
    · obtain ⟨n, hx, hn, hm2⟩ := hx
      refine okV_pure hr (u := .int k n) (conv_ex ho ?_) ⟨n, rfl, hn, hm2⟩
      rw [hx]
      simp [convert, run_underlying hu, run_underlying hu2, Conv.intToInt, wide_wrap hw hn]
    have hx : a.eval x = .int k2 n := hx
    exact okV_pure hr (conv_ex ho (by rw [hx]; simp [convert, run_underlying hu, run_underlying hu2, Conv.intToInt])) rfl
  | float k k' =>
    have hu := ht.dsc hdt (by intro hh; cases hh)
    have hu2 := ht.dsc hdd (by intro hh; cases hh)
    obtain ⟨k2, n, rfl, rfl, rfl⟩ := conv_float h
    have hx : a.eval x = .int k2 n := hx
    exact okV_pure hr (conv_ex ho (by rw [hx]; simp [convert, run_underlying hu, run_underlying hu2, Conv.intToFloat])) rfl
  | rune k' =>
    have hu := ht.dsc hdt (by intro hh; cases hh)
    have hu2 := ht.dsc hdd (by intro hh; cases hh)
    obtain ⟨k2, n, rfl, rfl, rfl⟩ := conv_rune h
    have hx : a.eval x = .int k2 n := hx
    exact okV_pure hr (conv_ex ho (by rw [hx]; simp [convert, run_underlying hu, run_underlying hu2, Conv.intToString])) (ofV1_R (.string (Utf8.encode n)))
  | str =>
    have hu := ht.dsc hdt (by intro hh; cases hh)
    have hu2 := ht.dsc hdd (by intro hh; cases hh)
    obtain ⟨l, rfl, rfl, rfl⟩ := conv_str h
    obtain ⟨h1, hx⟩ := hx
    exact okV_pure hr (conv_ex ho (by rw [hx]; simp [convert, run_underlying hu, run_underlying hu2])) ⟨h1, rfl⟩
  | bytes el hel =>
    have hu := ht.dsc hdt (by intro hh; cases hh)
    have hu2 := ht.dsc hdd (by intro hh; cases hh)
    have hu3 := ht.dsc hel (by intro hh; cases hh)
    obtain ⟨l, rfl, rfl, rfl⟩ := conv_bytes h
    obtain ⟨h1, hx⟩ := hx
    have hch : (choose (.appendCap (bys l).size 0 el)).run P w = .ok (grownCap w (bys l).size 0 el) w.drew := by simp [choose, Sem.run, Question.forced, grownCap]
    have hge := grownCap_ge w (bys l).size 0 el
    generalize hκ : grownCap w (bys l).size 0 el = κ at hch hge
    have hsz := bys_size l
    generalize hcs : ((bys l).data.map fun b => Value.int .u8 b.toNat) ++ Array.replicate (κ - (bys l).size) (Value.int .u8 0) = cs
    have hcl := bytes_cells h1
    have hdl : ((bys l).data.map fun b => Value.int .u8 b.toNat).size = l.length := by rw [← Array.length_toList, hcl]; simp
    have hcsz : cs.size = κ := by rw [← hcs, Array.size_append, hdl]; simp; omega
    have hrun : (Conv.stringToBytes el (bys l)).run P w = .ok (.slice (some ⟨w.heap.size, 0, none⟩) (bys l).size κ) (w.drew.alloc (.cells cs el (cs.size, cs.size + 1))) := by
      have hm : (markStringish ⟨w.heap.size, 0, none⟩).run P (w.drew.alloc (.cells cs el (0, 0))) = .ok () (w.drew.alloc (.cells cs el (cs.size, cs.size + 1))) := by
        rw [← freeze_new]
        unfold markStringish
        have hsh : (w.drew.alloc (.cells cs el (0, 0))).shape? w.heap.size = some (el, cs.size) := by
          unfold World.shape?
          rw [show (w.drew.alloc (Obj.cells cs el)).heap[w.heap.size]? = some (.cells cs el (0, 0)) from heap_alloc_new w.drew _]
        simp only [Sem.run_bind, run_shape, Result.andThen_ok, hsh, run_freeze]
        rfl
      unfold Conv.stringToBytes
      simp only [Sem.run_bind, hch, Result.andThen_ok, newRow, run_newObj, Sem.run_pure]
      rw [hcs]
      simp only [show ({ w.drew with heap := w.drew.heap.push (.cells cs el) } : World) = w.drew.alloc (.cells cs el (0, 0)) from rfl]
      rw [show w.drew.heap.size = w.heap.size from rfl, hm]
      rfl
    have hrow : Rows e s.next (putE (mapR byteC l) 0 .leaf) l.length 1 cs := fun i x hi => by
      rw [putE_at] at hi
      split at hi
      · rename_i hci
        rw [mapR_eq, Nat.sub_zero, List.getElem?_map] at hi
        cases hl : l[i]? with
        | none => rw [hl] at hi; cases hi
        | some b =>
          rw [hl] at hi
          cases hi
          have hil := (List.getElem?_eq_some_iff.1 hl).1
          refine ⟨hil, rfl, fun j a hj => ?_⟩
          cases j with
          | succ j => cases hj
          | zero =>
            cases hj
            refine ⟨rfl, .int .u8 (.ofNat b), ?_, rfl⟩
            rw [Nat.mul_one, Nat.add_zero, ← hcs, Array.getElem?_append_left (by omega), ← Array.getElem?_toList, hcl, List.getElem?_map, hl]
            rfl
      · cases hi
    have hκ2 : (e.up s.next w.heap.size κ).κ s.next = κ := by simp [En.up]
    refine ⟨e.up s.next w.heap.size κ, w.drew.alloc (.cells cs el (cs.size, cs.size + 1)), .value (.slice (some ⟨w.heap.size, 0, none⟩) (bys l).size κ), conv_ex ho (by rw [hx]; simp [convert, run_underlying hu, run_underlying hu2, run_underlying hu3, hrun]),
      (Stp.drew hr).trans (Stp.new (Stp.drew hr).rep _ _ κ ⟨cs, _, rfl, .inr rfl, by rw [if_pos rfl]; show cs.size = (e.up s.next w.heap.size κ).κ s.next * 1; rw [hκ2, hcsz, Nat.mul_one], fun _ => by show l.length ≤ (e.up s.next w.heap.size κ).κ s.next; rw [hκ2]; omega, hrow.ext (En.up_ext _ _ _ _) (Nat.le_succ _)⟩), .inl ⟨_, rfl, ?_⟩⟩
    rw [hsz]
    exact slc_new (s := s) (w := w) rfl κ l.length rfl (show l.length + 0 ≤ κ by omega)
  | ofBytes el hel =>
    have hu := ht.dsc hdt (by intro hh; cases hh)
    have hu2 := ht.dsc hdd (by intro hh; cases hh)
    have hu3 := ht.dsc hel (by intro hh; cases hh)
    rcases conv_of h with ⟨rfl, rfl, rfl⟩ | ⟨b, off, n, c, new, m, l, rfl, hrow, hbs, rfl, rfl⟩
    · have hx : a.eval x = .slice none 0 0 := hx
      exact okV_pure hr (conv_ex ho (z := .string (bys [])) (by rw [hx]; simp [convert, run_underlying hu, run_underlying hu2, run_underlying hu3, Conv.bytesToString]; rfl)) ⟨(fun _ hb => by cases hb), rfl⟩
    · obtain ⟨news, h2, h3, h4⟩ := src_run (P := P) (w := w) hr hx hrow
      obtain ⟨h5, h6⟩ := toBytes_some hbs
      have h4 := h4 t (.inl ⟨_, hu⟩)
      obtain ⟨h8, hx⟩ := hx
      have hnews : news = (l.map Int.ofNat).map (Value.int .u8) := by
        apply List.ext_getElem?
        intro i
        have hlen := h3.len
        by_cases hi : i < l.length
        · obtain ⟨h9, h10⟩ := h6 i _ (List.getElem?_eq_getElem hi)
          obtain ⟨_, h11⟩ := h3.el i _ h9
          obtain ⟨_, v, h12, h13⟩ := h11 0 _ rfl
          rw [Nat.mul_one, Nat.add_zero] at h12
          rw [h12, List.getElem?_map, List.getElem?_map, List.getElem?_eq_getElem hi]
          rw [show v = _ from h13]
          rfl
        · rw [List.getElem?_eq_none (by omega), List.getElem?_eq_none (by simp; omega)]
      have hmn : m = n := by
        have := h4.len w
        rw [hx] at this
        injection this with h9 _
        exact h9.symm
      subst hmn
      have hl := h4.cells
      rw [hx] at hl
      have hl2 : (loadCells ⟨e.σ b, off, none⟩ m).run P w = .ok ((l.map Int.ofNat).map (Value.int .u8)).toArray w := by
        rw [← hnews]
        simpa [Builtin.firstCells] using hl
      have hrun := run_bytesToString w ⟨e.σ b, off, none⟩ m (c.cap (e.κ b)) (l.map Int.ofNat) hl2
      rw [show ByteArray.empty = bys [] from rfl, push_bys, List.nil_append] at hrun
      refine okV_pure hr (conv_ex ho (z := .string (bys l)) (by rw [hx]; simp [convert, run_underlying hu, run_underlying hu2, run_underlying hu3, hrun])) ⟨fun c hc => ?_, rfl⟩
      obtain ⟨i, hi, hic⟩ := List.mem_iff_getElem.1 hc
      have := (h6 i c (by rw [List.getElem?_eq_getElem hi, hic])).2
      omega
end

section
variable {P : Program} {B : Tb} {e : En} {s s' : St} {w : World} {ns : NS} {tm : Tm} {a : Act} {o : Oper} {v : AV} {q : Nat}

theorem op_range [FX] (ht : TbOk P B) (hr : Rep e s w) (hm : RTm e s.next ns tm a) {t : TypeId} {x : Operand} (ho : o.op = .range t x) {m : MOp} (hmm : rngC (mv ns x) (dsc B t) = m) (h : opA m tm s = .val v s') : OkV P e s w (execOp a.eval o) v s' := by
  have hne : m ≠ .none := by rintro rfl; cases h
  have hx := ev_R hm x
  cases hd : dsc B t <;> rw [hd] at hmm <;> first | exact absurd hmm.symm hne | skip
  have hu := ht.dsc hd (by intro hh; cases hh)
  subst hmm
  replace h : oRange (ev (mv ns x) tm) s = .val v s' := h
  generalize ev (mv ns x) tm = X at hx h
  cases X <;> first | (cases h; done) | skip
  rename_i l
  injection (show Nx.val (.ptr s.next 0) (s.add (.siter l 0)) = .val v s' from h) with h1 h2
  subst h1 h2
  obtain ⟨_, hx⟩ := hx
  refine ⟨e.up s.next w.heap.size 0, w.alloc (.stringIter (bys l) 0), .value (.pointer (some ⟨w.heap.size, 0, none⟩)), ?_, Stp.new hr _ _ _ rfl, .inl ⟨_, rfl, ptr_new rfl 0⟩⟩
  unfold execOp
  rw [ho]
  simp [Instr.range, run_underlying hu, hx]
theorem oNext_inv {X : AV} {str : Bool} (h : oNext X str s = .val v s') : ∃ b l p, X = .ptr b 0 ∧ s.get b = some (.siter l p) ∧ str = true ∧ nextS (l.drop p) l p b s = .val v s' := by
  cases X <;> first | (cases h; done) | skip
  rename_i b o
  cases o with
  | succ o => cases h
  | zero =>
    replace h : nextO (s.get b) str b s = .val v s' := h
    cases hg : s.get b with
    | none => rw [hg] at h; cases h
    | some ob =>
      rw [hg] at h
      cases ob <;> first | (cases h; done) | skip
      rename_i l p
      cases str with
      | false => cases h
      | true =>
        rw [show nextO (some (.siter l p)) true b s = nextS (dropR l p) l p b s from rfl, dropR_eq] at h
        exact ⟨b, l, p, rfl, hg, rfl, h⟩
theorem op_next [FX] (hr : Rep e s w) (hm : RTm e s.next ns tm a) {x : Operand} {str : Bool} (ho : o.op = .next x str) (h : oNext (ev (mv ns x) tm) str s = .val v s') : OkV P e s w (execOp a.eval o) v s' := by
  obtain ⟨b, l, p, hX, hg, rfl, hn⟩ := oNext_inv h
  clear h
  have h := hn
  have hx := ev_R hm x
  rw [hX] at hx
  obtain ⟨_, hx⟩ := hx
  obtain ⟨_, hσ, r, h5, h6⟩ := hr.obj b _ hg
  have h6 : r = .stringIter (bys l) p := h6
  subst h6
  have hobj : (getObj (e.σ b)).run P w = .ok (.stringIter (bys l) p) w := by simp [getObj, Sem.run, h5]
  have hset : ∀ ob : Obj, (setObj (e.σ b) ob).run P w = .ok () { w with heap := w.heap.setIfInBounds (e.σ b) ob } := fun ob => by simp [setObj, Sem.run, h5]
  by_cases hp : p < l.length
  · rw [List.drop_eq_getElem_cons hp] at h
    have hpb : p < (bys l).size := by rw [bys_size]; exact hp
    replace h : (Bool.rec (nextU (Utf8.decode (bys l) p) l p b s) (.val (.tup [.bool true, .int .i64 (.ofNat p), .int .i32 (.ofNat l[p])]) (s.put b (.siter l (p + 1)))) (Nat.ble l[p] 127) : Nx) = .val v s' := h
    obtain ⟨c, n, hdec, h⟩ : ∃ c n, Utf8.decode (bys l) p = (c, n) ∧ Nx.val (.tup [.bool true, .int .i64 (.ofNat p), .int .i32 (.ofNat c)]) (s.put b (.siter l (p + n))) = .val v s' := by
      cases h7 : Nat.ble l[p] 127 with
      | true =>
        rw [h7] at h
        have h7 := Nat.le_of_ble_eq_true h7
        have hat : ((bys l)[p]'hpb).toNat = l[p] := by
          have := bys_at l p
          rw [ByteArray.getElem?_lt' _ _ hpb, List.getElem?_eq_getElem hp] at this
          have h10 := Option.some.inj this
          rw [h10, UInt8.toNat_ofNat', Nat.mod_eq_of_lt (by omega)]
        have hdec := decode_ascii (bys l) p hpb (by rw [hat]; omega)
        rw [hat] at hdec
        exact ⟨_, _, hdec, h⟩
      | false =>
        rw [h7] at h
        cases hd : Utf8.decode (bys l) p with
        | mk c n =>
          rw [hd] at h
          exact ⟨c, n, rfl, h⟩
    injection h with h8 h9
    subst h8 h9
    refine ⟨e, { w with heap := w.heap.setIfInBounds (e.σ b) (.stringIter (bys l) (p + n)) }, .value (.tuple #[.bool true, .int .i64 p, .int .i32 c]), ?_, Stp.put hr hg _ _ rfl rfl rfl rfl rfl, .inl ⟨_, rfl, _, rfl, _, _, rfl, rfl, _, _, rfl, rfl, _, _, rfl, rfl, rfl⟩⟩
    unfold execOp
    rw [ho]
    simp [Instr.next, hx, hobj, hpb, hdec, hset, goInt]
  · rw [List.drop_eq_nil_of_le (by omega)] at h
    injection h with h8 h9
    subst h8 h9
    have hpb : ¬ p < (bys l).size := by rw [bys_size]; exact hp
    refine okV_pure hr (u := .tuple #[.bool false]) ?_ ⟨_, rfl, _, _, rfl, rfl, rfl⟩
    unfold execOp
    rw [ho]
    simp [Instr.next, hx, hobj, hpb]
end

section
variable {P : Program} {B : Tb} {e : En} {s s' : St} {w : World} {ns : NS} {tm : Tm} {a : Act} {o : Oper} {v : AV} {q : Nat}

theorem callV_val {X : AV} {l : List AV} : callV X l s ≠ .val v s' := by cases X <;> intro h <;> cases h
theorem cmpB_inv {b : Builtin} {as : List Operand} {ts : List TypeId} {m : MOp} (h : cmpB ns b as ts B = m) (hm : m ≠ .none) (hr : m ≠ .recov) :
    (∃ x y t tx, b = .append ∧ as = [x, y] ∧ ts = [t, tx] ∧ appC B (dsc B tx) (mv ns x) (mv ns y) (dsc B t) = m) ∨ (∃ x t, b = .len ∧ as = [x] ∧ ts = [t] ∧ lenC (mv ns x) (dsc B t) = m) ∨ ∃ x y k, as = [x, y] ∧ m = .mm k (mv ns x) (mv ns y) ∧ ((b = .max ∧ k = 0) ∨ (b = .min ∧ k = 1) ∨ (b = .complex ∧ k = 2)) := by
  unfold cmpB at h
  split at h <;> first | exact absurd h.symm hm | exact absurd h.symm hr | skip
  · exact .inl ⟨_, _, _, _, rfl, rfl, rfl, h⟩
  · exact .inr (.inl ⟨_, _, rfl, rfl, rfl, h⟩)
  · exact .inr (.inr ⟨_, _, 0, rfl, h.symm, .inl ⟨rfl, rfl⟩⟩)
  · exact .inr (.inr ⟨_, _, 1, rfl, h.symm, .inr (.inl ⟨rfl, rfl⟩)⟩)
  · exact .inr (.inr ⟨_, _, 2, rfl, h.symm, .inr (.inr ⟨rfl, rfl⟩)⟩)
theorem op_run [FX] (ht : TbOk P B) (hr : Rep e s w) (hm : RTm e s.next ns tm a) (h : opA (cmp ns o.op B) tm s = .val v s') : OkV P e s w (execOp a.eval o) v s' := by
  have hne : cmp ns o.op B ≠ .none := by intro hh; rw [hh] at h; cases h
  cases ho : o.op
  all_goals rw [ho] at h hne
  case move x => exact op_mov hr hm (.inl ho) h
  case assign x => exact op_mov hr hm (.inr ho) h
  case pick c x y => exact op_pick hr hm ho h
  case alloc t =>
    obtain ⟨hk, he⟩ := kn_inv rfl hne
    exact op_alloc ht hr ho (by rw [show cmp ns (.alloc t) B = kn B t (.alloc (zeroC B t) (sizeT B t) t) from rfl, he] at h; exact h)
  case box t x =>
    obtain ⟨hk, he⟩ := kn_inv rfl hne
    exact op_box hr hm ho (by rw [show cmp ns (.box t x) B = kn B t (.box (sizeT B t) t (mv ns x)) from rfl, he] at h; exact h)
  case build t ps => exact op_build ht hr hm ho rfl h
  case buildSlice t n ps =>
    obtain ⟨el, hd, hk, he⟩ := slcK_inv rfl hne
    refine op_row ht hr hm ho hd hk ?_
    rw [show cmp ns (.buildSlice t n ps) B = slcK B (dsc B t) _ from rfl, he] at h
    rw [hd] at h
    exact h
  case load t x =>
    obtain ⟨hk, he⟩ := kn_inv rfl hne
    exact op_load ht hr hm ho hk (by rw [show cmp ns (.load t x) B = kn B t (.load (aggT B t) (sizeT B t) (mv ns x)) from rfl, he] at h; exact h)
  case store t x y =>
    obtain ⟨hk, he⟩ := kn_inv rfl hne
    exact op_store ht hr hm ho hk (by rw [show cmp ns (.store t x y) B = kn B t (.store (sizeT B t) (mv ns x) (mv ns y)) from rfl, he] at h; exact h)
  case nilCheck x => exact op_nil hr hm ho h
  case binOp op t x y n => exact op_bin ht hr hm ho h
  case unOp op t x => exact op_un hr hm ho h
  case convert t d x => exact op_conv ht hr hm ho h
  case makeInterface t x =>
    obtain ⟨hk, he⟩ := kn_inv rfl hne
    obtain ⟨_, d, _, _, hu, _, hd⟩ := ht.info hk
    rw [show cmp ns (.makeInterface t x) B = kn B t (Bool.rec (.ifc t (mv ns x)) .none (ifaceB (dsc B t))) from rfl, he] at h
    cases hi : ifaceB (dsc B t) with
    | true => rw [hi] at h; cases h
    | false => rw [hi] at h; exact op_ifc hr hm ho hu (by rw [← hd]; exact hi) h
  case makeFunc f x c => exact op_func hr hm ho rfl h
  case makeMap t r => exact op_mkMap hr ho rfl h
  case makeSlice t l c =>
    obtain ⟨el, hd, hk, he⟩ := slcK_inv rfl hne
    refine op_mkSlice ht hr hm ho hd hk ?_
    rw [show cmp ns (.makeSlice t l c) B = slcK B (dsc B t) _ from rfl, he] at h
    rw [hd] at h
    exact h
  case slice t x lo hi mx => exact op_slice ht hr hm ho rfl h
  case fieldAddr t x i => exact op_fieldAddr ht hr hm ho h
  case field t x i => exact op_field ht hr hm ho h
  case indexAddr t x i => exact op_indexAddr ht hr hm ho rfl h
  case index t x i => exact op_index ht hr hm ho rfl h
  case lookup t x i ok => exact op_lookup ht hr hm ho rfl h
  case mapUpdate t m k x => exact op_update ht hr hm (.inl ho) rfl h
  case insert t m k x => exact op_update ht hr hm (.inr ho) rfl h
  case range t x => exact op_range ht hr hm ho rfl h
  case next x str => exact op_next hr hm ho h
  case typeAssert x xt t ok =>
    obtain ⟨hk, he⟩ := kn_inv rfl hne
    obtain ⟨_, d, _, _, hu, _, hd⟩ := ht.info hk
    rw [show cmp ns (.typeAssert x xt t ok) B = kn B t (Bool.rec (.assert (zero B t) t ok (mv ns x)) .none (ifaceB (dsc B t))) from rfl, he] at h
    cases hi : ifaceB (dsc B t) with
    | true => rw [hi] at h; cases h
    | false => rw [hi] at h; exact op_assert ht hr hm ho hu (by rw [← hd]; exact hi) h
  case extract x i => exact op_extract hr hm ho h
  case call c =>
    rw [show cmp ns (.call c) B = cmpC ns c.callee c B from rfl] at h hne
    cases hc : c.callee with
    | builtin b =>
      rw [hc] at h hne
      have hrec : cmpC ns (.builtin b) c B ≠ .recov := by intro hh; rw [hh] at h; cases h
      rcases cmpB_inv (show cmpB ns b c.args.toList c.argTypes.toList B = cmpC ns (.builtin b) c B from rfl) hne hrec with ⟨x, y, t, tx, rfl, h1, h2, h3⟩ | ⟨x, t, rfl, h1, h2, h3⟩ | ⟨x, y, k, h1, h2, h3⟩
      · exact op_append ht hr hm ho hc h1 h2 h3 h
      · exact op_len ht hr hm ho hc h1 h2 h3 h
      · rw [h2] at h
        exact op_mm hr hm ho h1 (by rcases h3 with ⟨rfl, h⟩ | ⟨rfl, h⟩ | ⟨rfl, h⟩ <;> simp [hc, h]) h
    | value f => rw [hc] at h; exact absurd h callV_val
    | invoke x n => rw [hc] at hne; exact absurd rfl hne
  case defer c =>
    rw [show cmp ns (.defer c) B = cmpD ns c.callee c from rfl] at h hne
    cases hc : c.callee with
    | value f =>
      rw [hc] at h
      exfalso
      replace h : deferN (callV (ev (mv ns f) tm) (evs (mapR (mv ns) c.args.toList) tm) s) = .val v s' := h
      cases hX : ev (mv ns f) tm <;> rw [hX] at h <;> cases h
    | builtin b => rw [hc] at hne; exact absurd rfl hne
    | invoke x n => rw [hc] at hne; exact absurd rfl hne
  case panic x =>
    exfalso
    replace h : panA (ev (mv ns x) tm) s = .val v s' := h
    cases hX : ev (mv ns x) tm <;> rw [hX] at h <;> cases h
  all_goals exact absurd rfl hne
end

section
variable {P : Program} {B : Tb} {e e' : En} {s s' : St} {w : World} {ns : NS} {tm : Tm} {a : Act} {o : Oper} {v : AV} {q k k' : Nat}

theorem RTm.ext [FX] (h : RTm e k ns tm a) (hx : Ext k e e') (hk : k ≤ k') : RTm e' k' ns tm a := ⟨h.1.ext hx hk, fun t => (h.2 t).ext hx hk⟩
theorem put_ev (ns : NS) (d t : Nat) (v : AV) (tm : Tm) : ev (mvT ns t) (put (md ns (some d)) v tm) = if d = t then v else ev (mvT ns t) tm := by
  rw [show md ns (some d) = mdT ns d from rfl]
  unfold mdT mvT
  cases hd : ns.at_ d with
  | none =>
    cases ht : ns.at_ t with
    | none =>
      show getA (.cons d v tm.l) t = if d = t then v else getA tm.l t
      show (Bool.rec (getA tm.l t) v (Nat.beq d t) : AV) = _
      cases hb : Nat.beq d t with
      | true => rw [if_pos (Nat.eq_of_beq_eq_true hb)]
      | false => rw [if_neg (Nat.ne_of_beq_eq_false hb)]
    | some u =>
      have hne : d ≠ t := by rintro rfl; rw [hd] at ht; cases ht
      rw [if_neg hne]
      rfl
  | some u =>
    cases ht : ns.at_ t with
    | none =>
      have hne : d ≠ t := by rintro rfl; rw [hd] at ht; cases ht
      rw [if_neg hne]
      rfl
    | some u2 =>
      show orUnd ((tm.g.setP (path d) (some v)).get (path t)) = if d = t then v else orUnd (tm.g.get (path t))
      rw [T.get_setP]
      by_cases hdt : d = t
      · subst hdt; rw [if_pos rfl, if_pos rfl]; rfl
      · rw [if_neg (fun hh => hdt (path_inj hh)), if_neg hdt]
theorem RTm.put [FX] (h : RTm e k ns tm a) {u : Value} (hv : R e k v u) {dst : Option Nat} (hd : ∀ d, dst = some d → d < a.tmps.size ∨ (v = und ∧ u = undef)) : RTm e k ns (Eng.put (md ns dst) v tm) (a.put dst u) := by
  cases dst with
  | none => exact h
  | some d =>
    refine ⟨h.1, fun t => ?_⟩
    rw [put_ev]
    by_cases hdt : d = t
    · subst hdt
      rw [if_pos rfl]
      show R e k v ((a.tmps.setIfInBounds d u).getD d undef)
      rw [Array.getD_eq_getD_getElem?, Array.getElem?_setIfInBounds, if_pos rfl]
      by_cases hlt : d < a.tmps.size
      · rw [if_pos hlt]; exact hv
      · rw [if_neg hlt]
        rcases hd d rfl with h1 | ⟨rfl, rfl⟩
        · exact absurd h1 hlt
        · exact hv
    · rw [if_neg hdt]
      show R e k _ ((a.tmps.setIfInBounds d u).getD t undef)
      rw [Array.getD_eq_getD_getElem?, Array.getElem?_setIfInBounds, if_neg hdt, ← Array.getD_eq_getD_getElem?]
      exact h.2 t
theorem put_size (a : Act) (dst : Option Nat) (u : Value) : (a.put dst u).tmps.size = a.tmps.size := by
  cases dst with
  | none => rfl
  | some d => simp [Act.put]
theorem put_defers (a : Act) (dst : Option Nat) (u : Value) : (a.put dst u).defers = a.defers := by cases dst <;> rfl
end

section
variable {P : Program} {B : Tb} {e e' : En} {s s' : St} {w : World} {ns : NS} {tm : Tm} {a : Act} {o : Oper} {v : AV} {q k k' : Nat}

theorem und_R : R e k und undef := ⟨#[], rfl, rfl⟩
theorem isB_inv {v : AV} {u : Value} {x b : Bool} (hv : R e k v u) (h : isB v x = some b) : ((match (some u : Option Value) with | some (.bool c) => some c | _ => none) == some x) = b := by
  cases v <;> first | (cases h; done) | skip
  · have hu : u = .bool _ := hv
    subst hu
    rename_i c
    cases h
    cases c <;> cases x <;> rfl
  · obtain ⟨cs, rfl, _⟩ := hv
    cases h
    rfl
theorem dstAt_eq : ∀ (l : List Oper) (j : Nat), dstAt l j = (l[j]?).bind (·.dst)
  | [], j => rfl
  | o :: l, 0 => rfl
  | o :: l, j + 1 => by
    rw [show dstAt (o :: l) (j + 1) = dstAt l j from rfl, dstAt_eq l j]
    rfl
theorem wanted_run [FX] {ops : Array Oper} (h : RTm e k ns tm a) {b : Bool} (hw : wantedA (Option.rec none (gdOf ns ops.toList) o.guard) tm = some b) : Region.wanted o (yielded ops a.tmps) = b := by
  unfold Region.wanted
  cases hg : o.guard with
  | none => rw [hg] at hw; cases hw; rfl
  | some p =>
    obtain ⟨j, want⟩ := p
    rw [hg] at hw
    replace hw : isB (ev (Option.rec (.val und) (fun d => mvT ns d) (dstAt ops.toList j)) tm) want = some b := hw
    rw [dstAt_eq, Array.getElem?_toList] at hw
    simp only
    unfold yielded
    cases hd : (ops[j]?).bind (·.dst) with
    | none =>
      rw [hd] at hw
      cases hw
      rfl
    | some d =>
      rw [hd] at hw
      have hR := h.2 d
      replace hw : isB (ev (mvT ns d) tm) want = some b := hw
      have h1 := isB_inv hR hw
      rw [Array.getD_eq_getD_getElem?] at h1
      show ((match (a.tmps[d]? : Option Value) with | some (.bool b) => some b | _ => none) == some want) = b
      cases ht : a.tmps[d]? with
      | none => rw [ht] at h1; exact h1
      | some u => rw [ht] at h1; exact h1
end

section
variable {P : Program} {B : Tb} {e e' : En} {s s' : St} {w : World} {ns : NS} {tm : Tm} {a : Act} {o : Oper} {v : AV} {q k k' : Nat}

theorem callV_inv {X : AV} {l : List AV} {f : Nat} {args : List AV} (h : callV X l s = .call f args s') : ∃ fi c, X = .fn f fi c ∧ args = fi ++ (l ++ c) ∧ s = s' := by
  cases X <;> first | (cases h; done) | skip
  rename_i g fi c
  injection h with h1 h2 h3
  subst h1
  rw [appR_eq, appR_eq] at h2
  exact ⟨fi, c, rfl, h2.symm, h3⟩
theorem op_call [FX] (hm : RTm e s.next ns tm a) {c : Call} (ho : o.op = .call c) {g : Operand} (hc : c.callee = .value g) {f : Nat} {args : List AV} (h : callV (ev (mv ns g) tm) (evs (mapR (mv ns) c.args.toList) tm) s = .call f args s') : s = s' ∧ ∃ vs : Array Value, RL e s.next args vs.toList ∧ (execOp a.eval o).run P w = (callFunc f vs).run P w := by
  obtain ⟨fi, cp, hX, rfl, rfl⟩ := callV_inv h
  have hg := ev_R hm g
  rw [hX] at hg
  obtain ⟨x, y, h1, h2, h3⟩ := hg
  have hl := evs_R hm c.args.toList
  refine ⟨rfl, x ++ c.args.map a.eval ++ y, ?_, ?_⟩
  · rw [Array.toList_append, Array.toList_append, Array.toList_map, List.append_assoc]
    exact h2.app (hl.app h3)
  · unfold execOp
    rw [ho]
    simp [resolve, hc, h1, Deferred.ofValue, invoke]
/-- A deferred call. -/
def RD (P : Program) (e : En) (k : Nat) (d : Nat × List AV) (x : Deferred) : Prop := ∃ (fv : Fn) (cap vs : Array Value), x.target = .fn fv cap ∧ RL e k d.2 vs.toList ∧ ∀ w, (invoke x.target x.args).run P w = (callFunc d.1 vs).run P w
def RDs (P : Program) (e : En) (k : Nat) : List (Nat × List AV) → List Deferred → Prop
  | [], l => l = []
  | d :: ds, l => ∃ x xs, l = x :: xs ∧ RD P e k d x ∧ RDs P e k ds xs
theorem RDs.ext (hx : Ext k e e') (hk : k ≤ k') : ∀ {ds : List (Nat × List AV)} {l : List Deferred}, RDs P e k ds l → RDs P e' k' ds l
  | [], _, h => h
  | d :: ds, _, h => by
    obtain ⟨x, xs, h1, ⟨fv, cap, vs, h2, h3, h4⟩, h5⟩ := h
    exact ⟨x, xs, h1, ⟨fv, cap, vs, h2, h3.ext hx hk, h4⟩, RDs.ext hx hk h5⟩
theorem deferN_inv {X : Nx} {f : Nat} {args : List AV} (h : deferN X = .defer f args s') : X = .call f args s' := by
  cases X <;> first | (cases h; done) | skip
  injection h with h1 h2 h3
  subst h1 h2 h3
  rfl
theorem op_defer [FX] (hm : RTm e s.next ns tm a) {c : Call} (ho : o.op = .defer c) {g : Operand} (hc : c.callee = .value g) {f : Nat} {args : List AV} (h : callV (ev (mv ns g) tm) (evs (mapR (mv ns) c.args.toList) tm) s = .call f args s') : s = s' ∧ ∃ x, (execOp a.eval o).run P w = .ok (.defer x) w ∧ RD P e s.next (f, args) x := by
  obtain ⟨fi, cp, hX, rfl, rfl⟩ := callV_inv h
  have hg := ev_R hm g
  rw [hX] at hg
  obtain ⟨x, y, h1, h2, h3⟩ := hg
  have hl := evs_R hm c.args.toList
  refine ⟨rfl, ⟨.fn (.func f) y, x ++ c.args.map a.eval⟩, ?_, .func f, y, x ++ c.args.map a.eval ++ y, rfl, ?_, fun w => ?_⟩
  · unfold execOp
    rw [ho]
    simp [resolve, hc, h1, Deferred.ofValue]
  · rw [Array.toList_append, Array.toList_append, Array.toList_map, List.append_assoc]
    exact h2.app (hl.app h3)
  · simp [invoke]
theorem op_panic [FX] (hm : RTm e s.next ns tm a) {x : Operand} (ho : o.op = .panic x) (h : panA (ev (mv ns x) tm) s = .pan v s') : s = s' ∧ ∃ u, (execOp a.eval o).run P w = .halt (.panic u) w ∧ R e s.next v u := by
  have hx := ev_R hm x
  generalize ev (mv ns x) tm = X at hx h
  cases X <;> first | (cases h; done) | skip
  rename_i t y
  injection h with h1 h2
  subst h1 h2
  obtain ⟨u, h3, h4⟩ := hx
  refine ⟨rfl, .iface t u, ?_, u, rfl, h4⟩
  unfold execOp
  rw [ho]
  simp [h3, Instr.panic, goPanic]
end
end Go.Proofs.YtiibijhldlillaaGreat.Eng
