/- A region that draws its order: what holds of its run in the text's own order. No condition beyond what each theorem says. -/
import Derived.Test.YtiibijhldlillaaGreatEf
import Derived.Test.YtiibijhldlillaaGreatEe
namespace Go.Proofs.YtiibijhldlillaaGreat.Eng
section
variable {e e' e'' : En} {w w' : World} {h h' F : T AObj} {G : St} {c K K' : Nat} {l0 l' : List Nat} {TP : Nat → Prop}

/-- A heap over a heap. -/
theorem heap_over (A Bh : T AObj) (TP : Nat → Prop) : ∀ K, ∃ h : T AObj, ∀ b, ((b < K ∧ TP b) → h.at_ b = A.at_ b) ∧ (¬(b < K ∧ TP b) → h.at_ b = Bh.at_ b)
  | 0 => ⟨Bh, fun b => ⟨fun h => absurd h.1 (Nat.not_lt_zero _), fun _ => rfl⟩⟩
  | K + 1 => by
    obtain ⟨h, hh⟩ := heap_over A Bh TP K
    rcases Classical.em (TP K) with hT | hT
    · refine ⟨h.setP (path K) (A.at_ K), fun b => ?_⟩
      have hat : (h.setP (path K) (A.at_ K)).at_ b = if K = b then A.at_ K else h.at_ b := by
        show (h.setP (path K) (A.at_ K)).get (path b) = _
        rw [T.get_setP]
        by_cases hk : K = b
        · subst hk; simp
        · rw [if_neg (fun e => hk (path_inj e)), if_neg hk]; rfl
      rw [hat]
      by_cases hk : K = b
      · subst hk; rw [if_pos rfl]; exact ⟨fun _ => rfl, fun hn => absurd ⟨Nat.lt_succ_self _, hT⟩ hn⟩
      · rw [if_neg hk]; exact ⟨fun h1 => (hh b).1 ⟨by have := h1.1; omega, h1.2⟩, fun hn => (hh b).2 fun h1 => hn ⟨by have := h1.1; omega, h1.2⟩⟩
    · refine ⟨h, fun b => ⟨fun h1 => (hh b).1 ⟨?_, h1.2⟩, fun hn => (hh b).2 fun h1 => hn ⟨by have := h1.1; omega, h1.2⟩⟩⟩
      have h2 : b ≠ K := fun e => hT (e ▸ h1.2)
      have := h1.1
      omega
theorem Rep.part [FX] {s : St} (hr : Rep e s w) (hs : ∀ b o, F.at_ b = some o → s.heap.at_ b = some o) (hb : ∀ b o, F.at_ b = some o → b < c ∧ ∀ r, RO e s.next b o r → RO e c b o r) : Rep e ⟨F, c, l'⟩ w :=
  ⟨fun b o hf => by
    obtain ⟨h1, h2, r, h3, h4⟩ := hr.obj b o (hs b o hf)
    exact ⟨(hb b o hf).1, h2, r, h3, (hb b o hf).2 r h4⟩, fun b o b' o' h1 h2 he => hr.inj b o b' o' (hs _ _ h1) (hs _ _ h2) he, fun g o hg => ⟨(hr.fx g o hg).1, fun b o' hb => (hr.fx g o hg).2 b o' (hs b o' hb)⟩⟩
/-- A part's step in the whole. -/
structure Fr [FX] (e : En) (w : World) (h : T AObj) (K : Nat) (l0 : List Nat) (F : T AObj) (c : Nat) (e' : En) (G : St) (w' : World) (TP : Nat → Prop) (h' : T AObj) : Prop where
  rep : Rep e ⟨h, K, l0⟩ w
  sub : ∀ b o, F.at_ b = some o → h.at_ b = some o
  lt : ∀ b o, F.at_ b = some o → b < c
  st : Stp e ⟨F, c, []⟩ w e' G w'
  in1 : ∀ b, TP b → b < G.next ∧ h'.at_ b = G.heap.at_ b
  out : ∀ b, ¬TP b → h'.at_ b = h.at_ b
  kp : ∀ b, ¬TP b → b < c → G.heap.at_ b = F.at_ b
theorem Fr.cls [FX] (f : Fr e w h K l0 F c e' G w' TP h') {b : Nat} {o : AObj} (hb : h'.at_ b = some o) : (G.heap.at_ b = some o ∧ b < G.next) ∨ (h.at_ b = some o ∧ F.at_ b = none ∧ ¬TP b) := by
  rcases Classical.em (TP b) with hT | hT
  · obtain ⟨h1, h2⟩ := f.in1 b hT
    exact .inl ⟨h2 ▸ hb, h1⟩
  · rw [f.out b hT] at hb
    cases hF : F.at_ b with
    | none => exact .inr ⟨hb, rfl, hT⟩
    | some o1 =>
      have h1 := f.sub b o1 hF
      rw [hb] at h1
      cases h1
      have h2 : G.heap.at_ b = some o := by rw [f.kp b hT (f.lt b _ hF), hF]
      exact .inl ⟨h2, (f.st.rep.obj b o h2).1⟩
theorem Fr.cross [FX] (f : Fr e w h K l0 F c e' G w' TP h') {b b' : Nat} {o o' : AObj} (h1 : G.heap.at_ b = some o) (h2 : h.at_ b' = some o') (h3 : F.at_ b' = none) (he : e'.σ b = e.σ b') : False := by
  rcases f.st.own b o h1 with ⟨b0, o0, h4, h5⟩ | h4
  · have := f.rep.inj b0 o0 b' o' (f.sub _ _ h4) h2 (h5.trans he)
    subst this
    rw [show F.at_ b0 = some o0 from h4] at h3
    cases h3
  · have := (f.rep.obj b' o' h2).2.1
    omega
theorem Fr.repA [FX] (f : Fr e w h K l0 F c e' G w' TP h') (hK : G.next ≤ K') (hx : Ext G.next e' e'') (_hfx : e''.fx = e.fx) (h5 : ∀ b o, h.at_ b = some o → ¬TP b → b < K' ∧ e''.σ b = e.σ b ∧ ∀ r, RO e K b o r → RO e'' K' b o r) : Rep e'' ⟨h', K', l'⟩ w' := by
  refine ⟨fun b o hb => ?_, fun b o b' o' hb hb' he => ?_, fun g o hg => ?_⟩
  · rcases f.cls hb with ⟨h1, h2⟩ | ⟨h1, h2, h3⟩
    · obtain ⟨_, q2, r, q3, q4⟩ := f.st.rep.obj b o h1
      have hσ := (hx b h2).1
      refine ⟨Nat.lt_of_lt_of_le h2 hK, by rw [hσ]; exact q2, r, by rw [hσ]; exact q3, q4.ext hx hK h2⟩
    · obtain ⟨_, q2, r, q3, q4⟩ := f.rep.obj b o h1
      obtain ⟨p1, p2, p3⟩ := h5 b o h1 h3
      refine ⟨p1, by rw [p2]; exact Nat.lt_of_lt_of_le q2 f.st.size, r, ?_, p3 r q4⟩
      rw [p2, f.st.kp (e.σ b) q2 fun b1 o1 hb1 he => ?_]
      · exact q3
      · have := f.rep.inj b1 o1 b o (f.sub _ _ hb1) h1 he
        subst this
        rw [show F.at_ b1 = some o1 from hb1] at h2
        cases h2
  · rcases f.cls hb with ⟨h1, h2⟩ | ⟨h1, h2, h3⟩ <;> rcases f.cls hb' with ⟨h1', h2'⟩ | ⟨h1', h2', h3'⟩
    · rw [(hx b h2).1, (hx b' h2').1] at he
      exact f.st.rep.inj b o b' o' h1 h1' he
    · rw [(hx b h2).1, (h5 b' o' h1' h3').2.1] at he
      exact (f.cross h1 h1' h2' he).elim
    · rw [(h5 b o h1 h3).2.1, (hx b' h2').1] at he
      exact (f.cross h1' h1 h2 he.symm).elim
    · rw [(h5 b o h1 h3).2.1, (h5 b' o' h1' h3').2.1] at he
      exact f.rep.inj b o b' o' h1 h1' he
  · have q := f.st.rep.fx g o hg
    refine ⟨q.1, fun b o' hb => ?_⟩
    rcases f.cls hb with ⟨h1, h2⟩ | ⟨h1, h2, h3⟩
    · rw [(hx b h2).1]; exact q.2 b o' h1
    · rw [(h5 b o' h1 h3).2.1]; exact (f.rep.fx g o hg).2 b o' h1
theorem Fr.own [FX] (f : Fr e w h K l0 F c e' G w' TP h') (hx : Ext G.next e' e'') (h5 : ∀ b o, h.at_ b = some o → ¬TP b → e''.σ b = e.σ b) {p : Nat → Prop} {m : Nat} (hm : m ≤ w.heap.size) (ho : ∀ b o, h.at_ b = some o → p (e.σ b) ∨ m ≤ e.σ b) : ∀ b o, h'.at_ b = some o → p (e''.σ b) ∨ m ≤ e''.σ b := fun b o hb => by
  rcases f.cls hb with ⟨h1, h2⟩ | ⟨h1, h2, h3⟩
  · rw [(hx b h2).1]
    rcases f.st.own b o h1 with ⟨b0, o0, h4, h6⟩ | h4
    · have := ho b0 o0 (f.sub _ _ h4)
      rw [h6] at this
      exact this
    · exact .inr (Nat.le_trans hm h4)
  · rw [h5 b o h1 h3]
    exact ho b o h1
/-- None, or a last one. -/
theorem last_of (p : Nat → Prop) : ∀ i, (∀ j, j < i → ¬p j) ∨ ∃ j, j < i ∧ p j ∧ ∀ j', j < j' → j' < i → ¬p j'
  | 0 => .inl fun j hj => absurd hj (Nat.not_lt_zero _)
  | i + 1 => by
    rcases Classical.em (p i) with h | h
    · exact .inr ⟨i, Nat.lt_succ_self _, h, fun j' h1 h2 => by omega⟩
    · rcases last_of p i with h1 | ⟨j, h1, h2, h3⟩
      · exact .inl fun j hj => by
          by_cases hji : j = i
          · subst hji; exact h
          · exact h1 j (by omega)
      · refine .inr ⟨j, by omega, h2, fun j' h4 h5 => ?_⟩
        by_cases hji : j' = i
        · subst hji; exact h
        · exact h3 j' h4 (by omega)
end
section
variable {ns : NS} {t : Nat}
theorem botU_ev [FX] (g : Rc → Option Nat) : ∀ {rs : List Rc} {tm : Tm}, (∀ r ∈ rs, r.md = md ns (g r)) → ev (mvT ns t) (botU rs tm) = .bot ∨ ((∀ r ∈ rs, g r ≠ some t) ∧ ev (mvT ns t) (botU rs tm) = ev (mvT ns t) tm)
  | [], tm, _ => .inr ⟨fun r hr => by simp at hr, rfl⟩
  | r :: rs, tm, h => by
    have h1 := h r (by simp)
    show ev (mvT ns t) (put r.md .bot (botU rs tm)) = .bot ∨ (_ ∧ ev (mvT ns t) (put r.md .bot (botU rs tm)) = _)
    rw [h1]
    rcases botU_ev g (rs := rs) (tm := tm) (fun q hq => h q (List.mem_cons_of_mem _ hq)) with h2 | ⟨h2, h3⟩
    · left
      cases hg : g r with
      | none => exact h2
      | some d =>
        rw [put_ev]
        by_cases hd : d = t
        · rw [if_pos hd]
        · rw [if_neg hd]; exact h2
    · cases hg : g r with
      | none =>
        right
        refine ⟨fun q hq => ?_, h3⟩
        rcases List.mem_cons.1 hq with rfl | hq
        · rw [hg]; (intro hh; cases hh)
        · exact h2 q hq
      | some d =>
        rw [put_ev]
        by_cases hd : d = t
        · left; rw [if_pos hd]
        · right
          rw [if_neg hd]
          refine ⟨fun q hq => ?_, h3⟩
          rcases List.mem_cons.1 hq with rfl | hq
          · rw [hg]; intro hh; cases hh; exact hd rfl
          · exact h2 q hq
theorem dnO_inv [FX] {d : Option Nat} {dn dn1 : Nat} (h : dnO d dn = some dn1) : (∀ x, bitR dn x = true → bitR dn1 x = true) ∧ ∀ t, d = some t → bitR dn t = false ∧ bitR dn1 t = true := by
  cases d with
  | none =>
    injection (show some dn = some dn1 from h) with h
    subst h
    exact ⟨fun x hx => hx, fun t ht => (by cases ht)⟩
  | some y =>
    replace h : (Bool.rec (some (Nat.lor dn (Nat.shiftLeft 1 y))) none (bitR dn y) : Option Nat) = some dn1 := h
    cases hb : bitR dn y with
    | true => rw [hb] at h; cases h
    | false =>
      rw [hb] at h
      injection (show some (Nat.lor dn (Nat.shiftLeft 1 y)) = some dn1 from h) with h
      subst h
      refine ⟨fun x hx => by rw [bitR_or, hx]; rfl, fun t ht => ?_⟩
      cases ht
      exact ⟨hb, by rw [bitR_or, bitR_one]; simp⟩
end
section
variable {P : Program} {ns : NS} {nt base M : Nat} {ops : Array Oper} {C : Ch}
/-- What the text's own order shows of an operation's step. -/
structure Fact (C : Ch) (i : Nat) : Prop where
  lg : ∀ b, b < (C.s i).next → b ∉ (C.G i).wr → (C.G i).heap.at_ b = (C.F i).at_ b
  bd : ∀ b o, (C.G i).heap.at_ b = some o → b < (C.G i).next
def Told [FX] (C : Ch) (ns : NS) (nt i : Nat) : Prop := ∃ (e : En) (w : World) (a : Act), Rep e ⟨(C.s i).heap, (C.s i).next, []⟩ w ∧ RTm e (C.s i).next ns (C.tm i) a ∧ a.tmps.size = nt
theorem Ch.Ok.of [FX] (hC : C.Ok P ns nt ops base 0 M) (hM : M ≤ ops.size) {i : Nat} (hi : i < M) : ∃ o, ops[i]? = some o ∧ preOf (psOf ops i) o.after.toList = some (C.p i) ∧ dnO o.dst (C.dn i) = some (C.dn (i + 1)) ∧ C.rs (i + 1) = C.r i :: C.rs i ∧
    DStep P ns nt ops base i o (C.p i) (C.rs i) (C.tm i) (C.tl i) (C.s i) (C.F i) (C.G i) (C.v i) (C.r i) (C.tm (i + 1)) (C.s (i + 1)) := by
  have hlt : i < ops.size := by omega
  have ho : ops[i]? = some ops[i] := by simp [hlt]
  exact ⟨ops[i], ho, hC i ops[i] (Nat.zero_le _) hi ho⟩
theorem ch_le [FX] (hC : C.Ok P ns nt ops base 0 M) (hM : M ≤ ops.size) {i : Nat} (hi : i < M) : (C.s i).next ≤ (C.s (i + 1)).next := by
  obtain ⟨_, _, _, _, _, D⟩ := hC.of hM hi
  have := D.ok.le
  rw [D.lo, D.hi] at this
  rw [D.nx]
  exact this
theorem ch_mono [FX] (hC : C.Ok P ns nt ops base 0 M) (hM : M ≤ ops.size) : ∀ {j i : Nat}, i ≤ j → j ≤ M → (C.s i).next ≤ (C.s j).next
  | 0, i, h, _ => by rw [show i = 0 by omega]; exact Nat.le_refl _
  | j + 1, i, h, hj => by
    by_cases hij : i = j + 1
    · rw [hij]; exact Nat.le_refl _
    · exact Nat.le_trans (ch_mono hC hM (j := j) (by omega) (by omega)) (ch_le hC hM (by omega))
theorem ch_rs [FX] (hC : C.Ok P ns nt ops base 0 M) (hM : M ≤ ops.size) (h0 : C.rs 0 = []) : ∀ {i : Nat}, i ≤ M → ixR (C.rs i) = i ∧ ∀ q, q ∈ C.rs i ↔ ∃ j, j < i ∧ q = C.r j
  | 0, _ => by
    rw [h0]
    exact ⟨rfl, fun q => ⟨fun h => by simp at h, fun ⟨j, hj, _⟩ => absurd hj (Nat.not_lt_zero _)⟩⟩
  | i + 1, hi => by
    obtain ⟨h1, h2⟩ := ch_rs hC hM h0 (i := i) (by omega)
    obtain ⟨_, _, _, _, h3, D⟩ := hC.of hM (i := i) (by omega)
    rw [h3]
    refine ⟨?_, fun q => ?_⟩
    · show (C.r i).ix + 1 = i + 1
      rw [D.ix, h1]
    · rw [List.mem_cons, h2]
      constructor
      · rintro (rfl | ⟨j, hj, rfl⟩)
        · exact ⟨i, by omega, rfl⟩
        · exact ⟨j, by omega, rfl⟩
      · rintro ⟨j, hj, rfl⟩
        by_cases hji : j = i
        · subst hji; exact .inl rfl
        · exact .inr ⟨j, by omega, rfl⟩
theorem ch_ix [FX] (hC : C.Ok P ns nt ops base 0 M) (hM : M ≤ ops.size) (h0 : C.rs 0 = []) {i : Nat} (hi : i < M) : (C.r i).ix = i := by
  obtain ⟨_, _, _, _, _, D⟩ := hC.of hM hi
  rw [D.ix, (ch_rs hC hM h0 (by omega)).1]
/-- Two that none orders. -/
theorem ch_un [FX] (hC : C.Ok P ns nt ops base 0 M) (hM : M ≤ ops.size) (h0 : C.rs 0 = []) {i j : Nat} {p : Nat} (hi : i ≤ M) (hj : j < i) (hn : bitR p j = false) : C.r j ∈ unR p (C.rs i) :=
  unR_mem.2 ⟨((ch_rs hC hM h0 hi).2 _).2 ⟨j, hj, rfl⟩, by rw [ch_ix hC hM h0 (by omega)]; exact hn⟩
theorem ch_md [FX] (hC : C.Ok P ns nt ops base 0 M) (hM : M ≤ ops.size) (h0 : C.rs 0 = []) {i : Nat} {p : Nat} (hi : i ≤ M) : ∀ q ∈ unR p (C.rs i), q.md = md ns (((ops[q.ix]?).bind (·.dst))) := fun q hq => by
  obtain ⟨j, hj, rfl⟩ := ((ch_rs hC hM h0 hi).2 q).1 (unR_mem.1 hq).1
  obtain ⟨_, ho, _, _, _, Dj⟩ := hC.of hM (i := j) (by omega)
  rw [ch_ix hC hM h0 (by omega), Dj.md, ho]
  rfl
theorem text_told [FX] (hC : C.Ok P ns nt ops base 0 M) (hM : M ≤ ops.size) (h0 : C.rs 0 = []) (hT : Told C ns nt 0) : ∀ {i : Nat}, i ≤ M → Told C ns nt i ∧ ∀ j, j < i → Fact C j
  | 0, _ => ⟨hT, fun j hj => absurd hj (Nat.not_lt_zero _)⟩
  | i + 1, hi => by
    obtain ⟨⟨e, w, a, hr, hm, hsz⟩, hfs⟩ := text_told hC hM h0 hT (i := i) (by omega)
    obtain ⟨o, ho, _, _, _, D⟩ := hC.of hM (i := i) (by omega)
    have hrF : Rep e ⟨C.F i, (C.s i).next, []⟩ w := hr.part D.sub fun b o hb => ⟨(hr.obj b o (D.sub b o hb)).1, fun r h => h⟩
    have hmb : RTm e (C.s i).next ns (botU (unR (C.p i) (C.rs i)) (C.tl i)) a := ⟨hm.1, fun t => by
      rcases botU_ev (t := t) (tm := C.tl i) _ (ch_md hC hM h0 (i := i) (p := C.p i) (by omega)) with h | ⟨_, h⟩
      · rw [h]; exact trivial
      · rw [h]
        rcases D.later t with h | ⟨_, h⟩
        · rw [h]; exact trivial
        · rw [h]; exact hm.2 t⟩
    obtain ⟨a', w', e', u, h1, h2, rfl, h3⟩ := wpOp_ex (D.run e w a hrF hmb hsz (fun a' w' => ∃ e' u, Stp e ⟨C.F i, (C.s i).next, []⟩ w e' (C.G i) w' ∧ R e' (C.G i).next (C.v i) u ∧ a' = a.put o.dst u ∧ ∀ d, o.dst = some d → d < nt ∨ (C.v i = und ∧ u = undef)) (fun _ _ _ => False) fun e' w' u h1 h2 h3 => ⟨e', u, h1, h2, rfl, h3⟩)
    have hle : (C.s i).next ≤ (C.G i).next := h1.nx
    have fct : Fact C i := ⟨fun b hb hn => by
      obtain ⟨l, q1, q2⟩ := h1.lg
      refine q2 b hb ?_
      rw [q1] at hn
      simpa using hn, fun b o hb => (h1.rep.obj b o hb).1⟩
    have hout : ∀ b, ¬(C.r i).TP b → (C.s (i + 1)).heap.at_ b = (C.s i).heap.at_ b := D.hp2 (fun b o hb => (hr.obj b o hb).1) fct.bd fct.lg
    have fr : Fr e w (C.s i).heap (C.s i).next [] (C.F i) (C.s i).next e' (C.G i) w' (C.r i).TP (C.s (i + 1)).heap :=
      ⟨hr, D.sub, fun b o hb => (hr.obj b o (D.sub b o hb)).1, h1, fun b hT => ⟨D.hi ▸ hT.1, D.hp1 b hT⟩, hout, fun b hT hb => fct.lg b hb fun hw => hT ⟨by rw [D.hi]; omega, .inl (D.tw b hw)⟩⟩
    refine ⟨⟨e', w', a.put o.dst u, ?_, ?_, by rw [put_size]; exact hsz⟩, fun j hj => ?_⟩
    · refine fr.repA (by rw [D.nx]; exact Nat.le_refl _) (Ext.refl _ _) h1.fx fun b o hb _ => ?_
      have hlt2 := (hr.obj b o hb).1
      exact ⟨by rw [D.nx]; exact Nat.lt_of_lt_of_le hlt2 hle, (h1.ext b hlt2).1, fun r hq => hq.ext h1.ext (by rw [D.nx]; exact hle) hlt2⟩
    · rw [D.nx, D.tmq]
      exact (hm.ext h1.ext hle).put h2 fun d hd => by rw [hsz]; exact h3 d hd
    · by_cases hji : j = i
      · subst hji; exact fct
      · exact hfs j (by omega)
end

section
variable {P : Program} {ns : NS} {nt base M : Nat} {ops : Array Oper} {C : Ch}
theorem ch_dn [FX] (hC : C.Ok P ns nt ops base 0 M) (hM : M ≤ ops.size) : ∀ {i : Nat}, i ≤ M → ∀ {j : Nat} {o : Oper} {t : Nat}, j < i → ops[j]? = some o → o.dst = some t → bitR (C.dn i) t = true
  | 0, _, j, _, _, hj, _, _ => absurd hj (Nat.not_lt_zero _)
  | i + 1, hi, j, o, t, hj, ho, hd => by
    obtain ⟨oi, hoi, _, h1, _, _⟩ := hC.of hM (i := i) (by omega)
    obtain ⟨h2, h3⟩ := dnO_inv h1
    by_cases hji : j = i
    · subst hji
      rw [hoi] at ho
      cases ho
      exact (h3 t hd).2
    · exact h2 t (ch_dn hC hM (i := i) (by omega) (by omega) ho hd)
theorem ch_one [FX] (hC : C.Ok P ns nt ops base 0 M) (hM : M ≤ ops.size) {i j : Nat} {oi oj : Oper} {t : Nat} (hij : j < i) (hiM : i < M) (hj : ops[j]? = some oj) (hi : ops[i]? = some oi) (hdj : oj.dst = some t) (hdi : oi.dst = some t) : False := by
  obtain ⟨_, h1, _, _⟩ := hC i oi (Nat.zero_le _) hiM hi
  have h2 := (dnO_inv h1).2 t hdi
  rw [ch_dn hC hM (by omega) hij hj hdj] at h2
  cases h2.1
theorem ch_uniq [FX] (hC : C.Ok P ns nt ops base 0 M) (hM : M ≤ ops.size) {i j : Nat} {oi oj : Oper} {t : Nat} (hjM : j < M) (hiM : i < M) (hj : ops[j]? = some oj) (hi : ops[i]? = some oi) (hdj : oj.dst = some t) (hdi : oi.dst = some t) : j = i := by
  rcases Nat.lt_trichotomy j i with h | h | h
  · exact (ch_one hC hM h hiM hj hi hdj hdi).elim
  · exact h
  · exact (ch_one hC hM h hjM hi hj hdi hdj).elim
theorem ch_slot [FX] (hC : C.Ok P ns nt ops base 0 M) (hM : M ≤ ops.size) (t : Nat) : ∀ {i : Nat}, i ≤ M → (∃ (j : Nat) (o : Oper), j < i ∧ ops[j]? = some o ∧ o.dst = some t ∧ ev (mvT ns t) (C.tm i) = C.v j) ∨ ((∀ (j : Nat) (o : Oper), j < i → ops[j]? = some o → o.dst ≠ some t) ∧ ev (mvT ns t) (C.tm i) = ev (mvT ns t) (C.tm 0))
  | 0, _ => .inr ⟨fun j o hj => absurd hj (Nat.not_lt_zero _), rfl⟩
  | i + 1, hi => by
    obtain ⟨oi, hoi, _, _, _, D⟩ := hC.of hM (i := i) (by omega)
    rw [D.tmq]
    cases hd : oi.dst with
    | none =>
      rcases ch_slot hC hM t (i := i) (by omega) with ⟨j, o, h1, h2, h3, h4⟩ | ⟨h1, h2⟩
      · exact .inl ⟨j, o, by omega, h2, h3, h4⟩
      · refine .inr ⟨fun j o hj ho => ?_, h2⟩
        by_cases hji : j = i
        · subst hji
          rw [hoi] at ho
          cases ho
          rw [hd]; (intro hh; cases hh)
        · exact h1 j o (by omega) ho
    | some d =>
      rw [put_ev]
      by_cases hdt : d = t
      · subst hdt
        rw [if_pos rfl]
        exact .inl ⟨i, oi, by omega, hoi, hd, rfl⟩
      · rw [if_neg hdt]
        rcases ch_slot hC hM t (i := i) (by omega) with ⟨j, o, h1, h2, h3, h4⟩ | ⟨h1, h2⟩
        · exact .inl ⟨j, o, by omega, h2, h3, h4⟩
        · refine .inr ⟨fun j o hj ho => ?_, h2⟩
          by_cases hji : j = i
          · subst hji
            rw [hoi] at ho
            cases ho
            rw [hd]; intro hh; cases hh; exact hdt rfl
          · exact h1 j o (by omega) ho
theorem ch_out [FX] (hC : C.Ok P ns nt ops base 0 M) (hM : M ≤ ops.size) (h0 : C.rs 0 = []) (hT : Told C ns nt 0) {j : Nat} (hj : j < M) {b : Nat} (hb : ¬(C.r j).TP b) : (C.s (j + 1)).heap.at_ b = (C.s j).heap.at_ b := by
  obtain ⟨_, _, _, _, _, D⟩ := hC.of hM hj
  obtain ⟨⟨e, w, a, hr, _⟩, _⟩ := text_told hC hM h0 hT (i := j) (by omega)
  have fct := (text_told hC hM h0 hT (i := M) (Nat.le_refl _)).2 j hj
  exact D.hp2 (fun b o hb => (hr.obj b o hb).1) fct.bd fct.lg b hb
theorem ch_no [FX] (hC : C.Ok P ns nt ops base 0 M) (hM : M ≤ ops.size) (h0 : C.rs 0 = []) (hT : Told C ns nt 0) {b : Nat} : ∀ {i : Nat}, i ≤ M → (∀ j, j < i → ¬(C.r j).TP b) → (C.s i).heap.at_ b = (C.s 0).heap.at_ b
  | 0, _, _ => rfl
  | i + 1, hi, h => by
    rw [ch_out hC hM h0 hT (by omega) (h i (by omega))]
    exact ch_no hC hM h0 hT (by omega) fun j hj => h j (by omega)
theorem ch_hit [FX] (hC : C.Ok P ns nt ops base 0 M) (hM : M ≤ ops.size) (h0 : C.rs 0 = []) (hT : Told C ns nt 0) {b j : Nat} (hTj : (C.r j).TP b) : ∀ {i : Nat}, j < i → i ≤ M → (∀ j', j < j' → j' < i → ¬(C.r j').TP b) → (C.s i).heap.at_ b = (C.G j).heap.at_ b
  | 0, hj, _, _ => absurd hj (Nat.not_lt_zero _)
  | i + 1, hj, hi, h => by
    by_cases hji : j = i
    · subst hji
      obtain ⟨_, _, _, _, _, D⟩ := hC.of hM (i := j) (by omega)
      exact D.hp1 b hTj
    · rw [ch_out hC hM h0 hT (by omega) (h i (by omega) (by omega))]
      exact ch_hit hC hM h0 hT hTj (by omega) (by omega) fun j' h1 h2 => h j' h1 (by omega)
theorem ch_lg [FX] (hC : C.Ok P ns nt ops base 0 M) (hM : M ≤ ops.size) : ∀ {i : Nat}, i ≤ M → ∃ l, (C.s i).wr = l ++ (C.s 0).wr ∧ ∀ j, j < i → ∀ b, b ∈ (C.G j).wr → b < base → b ∈ l
  | 0, _ => ⟨[], rfl, fun j hj => absurd hj (Nat.not_lt_zero _)⟩
  | i + 1, hi => by
    obtain ⟨l, h1, h2⟩ := ch_lg hC hM (i := i) (by omega)
    obtain ⟨_, _, _, _, _, D⟩ := hC.of hM (i := i) (by omega)
    obtain ⟨m, h3, h4⟩ := oldR_eq base (C.s i).wr (C.G i).wr
    refine ⟨m ++ l, by rw [D.lg, h3, h1, List.append_assoc], fun j hj b hb hlt => ?_⟩
    rw [List.mem_append]
    by_cases hji : j = i
    · subst hji; exact .inl (h4 b hb hlt)
    · exact .inr (h2 j (by omega) b hb hlt)
/-- What holds when a set of the operations has come up. -/
structure DI [FX] (C : Ch) (ns : NS) (nt M : Nat) (ops : Array Oper) (e0 : En) (w0 : World) (a0 : Act) (D : Nat → Prop) (e : En) (h : T AObj) (a : Act) (w : World) : Prop where
  rep : Rep e ⟨h, (C.s M).next, []⟩ w
  low : ∀ j, D j → j < M
  no : ∀ b, (∀ j, j < M → D j → ¬(C.r j).TP b) → h.at_ b = (C.s 0).heap.at_ b
  hit : ∀ b j, j < M → D j → (C.r j).TP b → (∀ j', j < j' → j' < M → D j' → ¬(C.r j').TP b) → h.at_ b = (C.G j).heap.at_ b
  ext : Ext (C.s 0).next e0 e
  own : ∀ b o, h.at_ b = some o → (∃ b0 o0, (C.s 0).heap.at_ b0 = some o0 ∧ e0.σ b0 = e.σ b) ∨ w0.heap.size ≤ e.σ b
  os : w.os = w0.os
  tape : w.tape = w0.tape
  output : w.output = w0.output
  size : w0.heap.size ≤ w.heap.size
  kp : ∀ k, k < w0.heap.size → (∀ b o, (C.s 0).heap.at_ b = some o → e0.σ b ≠ k) → w.heap[k]? = w0.heap[k]?
  dead : ∀ j, j < M → ¬D j → ∀ b, (C.s j).next ≤ b → b < (C.s (j + 1)).next → e.lv b = false
  sl1 : ∀ (j : Nat) (o : Oper) (t : Nat), D j → ops[j]? = some o → o.dst = some t → R e (C.s M).next (C.v j) (a.tmps.getD t undef)
  sl0 : ∀ t, (∀ (j : Nat) (o : Oper), D j → ops[j]? = some o → o.dst ≠ some t) → R e (C.s M).next (ev (mvT ns t) (C.tm 0)) (a.tmps.getD t undef)
  tmps : a.tmps.size = nt
  defers : a.defers = a0.defers
  fx : e.fx = e0.fx
theorem put_getD (a : Act) (dst : Option Nat) (u : Value) (t : Nat) : (dst = some t → t < a.tmps.size → (a.put dst u).tmps.getD t undef = u) ∧ (dst = some t → ¬t < a.tmps.size → (a.put dst u).tmps.getD t undef = undef) ∧ (dst ≠ some t → (a.put dst u).tmps.getD t undef = a.tmps.getD t undef) := by
  cases dst with
  | none => exact ⟨fun h => ((by cases h)), fun h => ((by cases h)), fun _ => rfl⟩
  | some d =>
    refine ⟨fun h hlt => ?_, fun h hlt => ?_, fun h => ?_⟩
    · cases h
      show (a.tmps.setIfInBounds t u).getD t undef = u
      rw [Array.getD_eq_getD_getElem?, Array.getElem?_setIfInBounds, if_pos rfl, if_pos hlt]; rfl
    · cases h
      show (a.tmps.setIfInBounds t u).getD t undef = undef
      rw [Array.getD_eq_getD_getElem?, Array.getElem?_setIfInBounds, if_pos rfl, if_neg hlt]; rfl
    · have hne : d ≠ t := fun hh => h (by rw [hh])
      show (a.tmps.setIfInBounds d u).getD t undef = _
      rw [Array.getD_eq_getD_getElem?, Array.getElem?_setIfInBounds, if_neg hne, ← Array.getD_eq_getD_getElem?]
/-- The slots that an operation may look at. -/
theorem di_tb [FX] (hC : C.Ok P ns nt ops base 0 M) (hM : M ≤ ops.size) (h0 : C.rs 0 = []) (hT : Told C ns nt 0)
    {e0 : En} {w0 : World} {a0 : Act} {D : Nat → Prop} {e : En} {h : T AObj} {a : Act} {w : World} {i p : Nat} {o : Oper} {tml : Tm} (hi : i ≤ M) (ho : ops[i]? = some o) (hDi : ¬D i) (hp : ∀ x, bitR p x = true → D x)
    (hcl : ∀ j, D j → ∀ p', (∃ oj, ops[j]? = some oj ∧ preOf (psOf ops j) oj.after.toList = some p') → ∀ x, bitR p' x = true → D x)
    (hlater : ∀ t, ev (mvT ns t) tml = .bot ∨ ((∀ (j : Nat) (o : Oper), i < j → ops[j]? = some o → o.dst = some t → ∃ p', preOf (psOf ops j) o.after.toList = some p' ∧ bitR p' i = true) ∧ ev (mvT ns t) tml = ev (mvT ns t) (C.tm i)))
    (hgl : Gl e (C.s i).next) (hI : DI C ns nt M ops e0 w0 a0 D e h a w) : RTm e (C.s i).next ns (botU (unR p (C.rs i)) tml) a := ⟨hgl, fun t => by
  obtain ⟨⟨es, ws, as, hrs, hms, _⟩, _⟩ := text_told hC hM h0 hT (i := i) hi
  rcases botU_ev (t := t) (tm := tml) _ (ch_md hC hM h0 (i := i) (p := p) hi) with h1 | ⟨hn, h1⟩
  · rw [h1]; exact trivial
  · rw [h1]
    rcases hlater t with h2 | ⟨hl, h2⟩
    · rw [h2]; exact trivial
    · rw [h2]
      have hbd := hms.2 t
      rcases ch_slot hC hM t (i := i) hi with ⟨j, oj, h3, h4, h5, h6⟩ | ⟨h3, h4⟩
      · rw [h6] at hbd ⊢
        have hDj : D j := by
          cases hb : bitR p j with
          | true => exact hp j hb
          | false =>
            have h7 := hn _ (ch_un hC hM h0 hi h3 hb)
            rw [ch_ix hC hM h0 (by omega), h4] at h7
            exact absurd h5 h7
        exact hbd.bd (hI.sl1 j oj t hDj h4 h5)
      · rw [h4] at hbd ⊢
        refine hbd.bd (hI.sl0 t fun j oj hDj hoj hd => ?_)
        rcases Nat.lt_trichotomy j i with hji | hji | hji
        · exact h3 j oj hji hoj hd
        · subst hji; exact hDi hDj
        · obtain ⟨p', h5, h6⟩ := hl j oj hji hoj hd
          exact hDi (hcl j hDj p' ⟨oj, hoj, h5⟩ i h6)⟩
theorem di_step [FX] (hC : C.Ok P ns nt ops base 0 M) (hM : M ≤ ops.size) (h0 : C.rs 0 = []) (hT : Told C ns nt 0)
    {e0 : En} {w0 : World} {a0 : Act} {D : Nat → Prop} {e : En} {h : T AObj} {a : Act} {w : World} {i : Nat} {o : Oper} (hiM : i < M) (ho : ops[i]? = some o) (hDi : ¬D i) (hp : ∀ x, bitR (C.p i) x = true → D x)
    (hcl : ∀ j, D j → ∀ p', (∃ oj, ops[j]? = some oj ∧ preOf (psOf ops j) oj.after.toList = some p') → ∀ x, bitR p' x = true → D x)
    (hgl : Gl e (C.s i).next) (hI : DI C ns nt M ops e0 w0 a0 D e h a w) {K : Act → World → Prop} {Q : Exit → Act → World → Prop} (hK : ∀ e' h' a' w', DI C ns nt M ops e0 w0 a0 (fun j => j = i ∨ D j) e' h' a' w' → K a' w') : wpOp P ops Q i K a w := by
  have hclC : ∀ j, D j → ∀ x, bitR (C.p j) x = true → D x := fun j hj x hx => by
    obtain ⟨oj, hoj, h1, _⟩ := hC.of hM (hI.low j hj)
    exact hcl j hj _ ⟨oj, hoj, h1⟩ x hx
  obtain ⟨_, _, _, Dd⟩ := hC i o (Nat.zero_le _) hiM ho
  obtain ⟨⟨es, ws, as, hrs, hms, _⟩, _⟩ := text_told hC hM h0 hT (i := i) (by omega)
  have hfacts := (text_told hC hM h0 hT (i := M) (Nat.le_refl _)).2
  have hsub : ∀ b o', (C.F i).at_ b = some o' → h.at_ b = some o' := fun b o' hb => by
    have hs := Dd.sub b o' hb
    have hbl : b < (C.s i).next := (hrs.obj b o' hs).1
    have hlow : ∀ j, j < i → (C.r j).TP b → D j := fun j hj hTj => by
      cases hbit : bitR (C.p i) j with
      | true => exact hp j hbit
      | false => exact (Dd.c1 _ (ch_un hC hM h0 (by omega) hj hbit) b o' hb hTj).elim
    have hhigh : ∀ j, i ≤ j → j < M → D j → ¬(C.r j).TP b := fun j hij hj hDj hTj => by
      by_cases hji : j = i
      · subst hji; exact hDi hDj
      · obtain ⟨_, _, _, _, _, Dj⟩ := hC.of hM hj
        cases hbit : bitR (C.p j) i with
        | true => exact hDi (hclC j hDj i hbit)
        | false => exact Dj.c2 _ (ch_un hC hM h0 (by omega) (by omega) hbit) b hTj ⟨by rw [Dd.lo]; exact hbl, Dd.dom b o' hb⟩
    rcases last_of (fun j => (C.r j).TP b) i with hn | ⟨j, h1, h2, h3⟩
    · rw [hI.no b fun j hj hDj => by
        rcases Nat.lt_or_ge j i with h1 | h1
        · exact hn j h1
        · exact hhigh j h1 hj hDj]
      rw [← ch_no hC hM h0 hT (by omega) hn]
      exact hs
    · rw [hI.hit b j (by omega) (hlow j h1 h2) h2 fun j' h4 h5 h6 => by
        rcases Nat.lt_or_ge j' i with h7 | h7
        · exact h3 j' h4 h7
        · exact hhigh j' h7 h5 h6]
      rw [← ch_hit hC hM h0 hT h2 h1 (by omega) h3]
      exact hs
  have hrF : Rep e ⟨C.F i, (C.s i).next, []⟩ w := hI.rep.part hsub fun b o' hb => by
    obtain ⟨h1, _, r', _, h2⟩ := hrs.obj b o' (Dd.sub b o' hb)
    exact ⟨h1, fun r hr => h2.bd hr⟩
  have hmb := di_tb hC hM h0 hT (by omega) ho hDi hp hcl Dd.later hgl hI
  refine Dd.run e w a hrF hmb hI.tmps K Q fun e' w' u h1 h2 h3 => ?_
  obtain ⟨h', hh'⟩ := heap_over (C.G i).heap h (C.r i).TP (C.G i).next
  have in1 : ∀ b, (C.r i).TP b → b < (C.G i).next ∧ h'.at_ b = (C.G i).heap.at_ b := fun b hb => by
    have : b < (C.G i).next := Dd.hi ▸ hb.1
    exact ⟨this, (hh' b).1 ⟨this, hb⟩⟩
  have out : ∀ b, ¬(C.r i).TP b → h'.at_ b = h.at_ b := fun b hb => (hh' b).2 fun hx => hb hx.2
  have hle : (C.s i).next ≤ (C.G i).next := h1.nx
  have hGN : (C.G i).next ≤ (C.s M).next := by rw [← Dd.nx]; exact ch_mono hC hM (by omega) (Nat.le_refl _)
  have fr : Fr e w h (C.s M).next [] (C.F i) (C.s i).next e' (C.G i) w' (C.r i).TP h' :=
    ⟨hI.rep, hsub, fun b o hb => (hrF.obj b o hb).1, h1, in1, out, fun b hT hb => (hfacts i hiM).lg b hb fun hw => hT ⟨by rw [Dd.hi]; omega, .inl (Dd.tw b hw)⟩⟩
  have hlv : Lv e (e.mix e' (C.s i).next (C.G i).next) := mix_lv fun b q1 q2 => hI.dead i hiM hDi b q1 (by rw [Dd.nx]; exact q2)
  have hmx : Ext (C.G i).next e' (e.mix e' (C.s i).next (C.G i).next) := mix_ext h1.ext
  have h5 : ∀ b, ¬(C.r i).TP b → (e.mix e' (C.s i).next (C.G i).next).σ b = e.σ b ∧ (e.mix e' (C.s i).next (C.G i).next).κ b = e.κ b ∧ (e.mix e' (C.s i).next (C.G i).next).lv b = e.lv b := fun b hT =>
    mix_out fun hx => hT ⟨by rw [Dd.hi]; exact hx.2, .inr (by rw [Dd.lo]; exact hx.1)⟩
  refine hK (e.mix e' (C.s i).next (C.G i).next) h' _ w' ?_
  exact {
    rep := fr.repA hGN hmx rfl fun b o' hb hT => ⟨(hI.rep.obj b o' hb).1, (h5 b hT).1, fun r hr => hr.lv hlv (h5 b hT).2.1⟩
    low := fun j hj => hj.elim (fun hh => by rw [hh]; exact hiM) (hI.low j)
    no := fun b hn => by
      rw [out b (hn i hiM (.inl rfl))]
      exact hI.no b fun j hj hD => hn j hj (.inr hD)
    hit := fun b j hj hD hTj hl => by
      rcases hD with rfl | hD
      · exact (in1 b hTj).2
      · have hnT : ¬(C.r i).TP b := fun hTi => by
          rcases Nat.lt_trichotomy i j with hij | hij | hij
          · obtain ⟨_, _, _, _, _, Dj⟩ := hC.of hM hj
            cases hbit : bitR (C.p j) i with
            | true => exact hDi (hclC j hD i hbit)
            | false => exact Dj.c3 _ (ch_un hC hM h0 (by omega) hij hbit) b hTj hTi
          · subst hij; exact hDi hD
          · exact hl i hij hiM (.inl rfl) hTi
        rw [out b hnT]
        exact hI.hit b j hj hD hTj fun j' q1 q2 q3 => hl j' q1 q2 (.inr q3)
    ext := fun b hb => by
      have hc := ch_mono hC hM (Nat.zero_le i) (by omega)
      obtain ⟨q1, q2, q3⟩ := mix_out (e := e) (e' := e') (lo := (C.s i).next) (hi := (C.G i).next) (b := b) (fun hx => by have := hx.1; omega)
      obtain ⟨q4, q5, q6⟩ := hI.ext b hb
      exact ⟨q1.trans q4, q2.trans q5, q3.trans q6⟩
    own := fr.own hmx (fun b o' hb hT => (h5 b hT).1) (p := fun x => ∃ b0 o0, (C.s 0).heap.at_ b0 = some o0 ∧ e0.σ b0 = x) hI.size hI.own
    os := h1.os.trans hI.os
    tape := h1.tape.trans hI.tape
    output := h1.output.trans hI.output
    size := Nat.le_trans hI.size h1.size
    kp := fun k hk hn => by
      rw [h1.kp k (Nat.lt_of_lt_of_le hk hI.size) fun b o' hb he => ?_, hI.kp k hk hn]
      rcases hI.own b o' (hsub b o' hb) with ⟨b0, o0, q1, q2⟩ | q1
      · exact hn b0 o0 q1 (q2.trans he)
      · omega
    dead := fun j hj hnD b q1 q2 => by
      have hji : j ≠ i := fun hx => hnD (.inl hx)
      have h6 := hI.dead j hj (fun hx => hnD (.inr hx)) b q1 q2
      rw [(mix_out (e := e) (e' := e') (lo := (C.s i).next) (hi := (C.G i).next) (b := b) (fun hx => by
        rw [← Dd.nx] at hx
        rcases Nat.lt_or_ge j i with hij | hij
        · have := ch_mono hC hM (i := j + 1) (j := i) hij (by omega)
          have := hx.1; omega
        · have := ch_mono hC hM (i := i + 1) (j := j) (by omega) (by omega)
          have := hx.2; omega)).2.2]
      exact h6
    sl1 := fun j oj t hD hoj hd => by
      obtain ⟨p1, p2, p3⟩ := put_getD a o.dst u t
      by_cases hji : j = i
      · subst hji
        rw [ho] at hoj
        cases hoj
        rcases Nat.lt_or_ge t a.tmps.size with q | q
        · rw [p1 hd q]
          exact h2.ext hmx hGN
        · rw [p2 hd (by omega)]
          rcases h3 t hd with q2 | ⟨q2, _⟩
          · rw [hI.tmps] at q; exact absurd q2 (Nat.not_lt.2 q)
          · rw [q2]; exact und_R
      · have hDj : D j := hD.resolve_left hji
        rw [p3 fun hd' => hji (ch_uniq hC hM (hI.low j hDj) hiM hoj ho hd hd')]
        exact (hI.sl1 j oj t hDj hoj hd).lv hlv
    sl0 := fun t ht => by
      obtain ⟨_, _, p3⟩ := put_getD a o.dst u t
      rw [p3 (ht i o (.inl rfl) ho)]
      exact (hI.sl0 t fun j oj hD => ht j oj (.inr hD)).lv hlv
    tmps := by rw [put_size]; exact hI.tmps
    defers := by rw [put_defers]; exact hI.defers
    fx := hI.fx }
/-- All that is done is done: the text's own state. -/
theorem di_all [FX] (hC : C.Ok P ns nt ops base 0 M) (hM : M ≤ ops.size) (h0 : C.rs 0 = []) (hT : Told C ns nt 0) (hb : base = (C.s 0).next)
    {e0 e1 : En} {w w1 : World} {a a1 : Act} {D : Nat → Prop} {h1 : T AObj} (hgl : Gl e0 (C.s 0).next) (hI : DI C ns nt M ops e0 w a D e1 h1 a1 w1) (hall : ∀ j, j < M → D j) :
    Stp e0 ⟨(C.s 0).heap, (C.s 0).next, (C.s 0).wr⟩ w e1 (C.s M) w1 ∧ RTm e1 (C.s M).next ns (C.tm M) a1 := by
  have hN : ∀ b, h1.at_ b = (C.s M).heap.at_ b := fun b => by
    rcases last_of (fun j => (C.r j).TP b) M with hn | ⟨j, q1, q2, q3⟩
    · rw [hI.no b fun j hj _ => hn j hj, ch_no hC hM h0 hT (Nat.le_refl _) hn]
    · rw [hI.hit b j q1 (hall j q1) q2 fun j' p1 p2 _ => q3 j' p1 p2, ch_hit hC hM h0 hT q2 q1 (Nat.le_refl _) q3]
  have hrep : Rep e1 (C.s M) w1 := ⟨fun b o hb => hI.rep.obj b o (by show h1.at_ b = _; rw [hN]; exact hb), fun b o b' o' hb hb' he => hI.rep.inj b o b' o' (by show h1.at_ b = _; rw [hN]; exact hb) (by show h1.at_ b' = _; rw [hN]; exact hb') he, fun g o hg => ⟨(hI.rep.fx g o hg).1, fun b o' hb => (hI.rep.fx g o hg).2 b o' (by show h1.at_ b = _; rw [hN]; exact hb)⟩⟩
  have hcM := ch_mono hC hM (Nat.zero_le M) (Nat.le_refl _)
  refine ⟨{
    rep := hrep
    ext := hI.ext
    nx := hcM
    own := fun b o hb => hI.own b o (by rw [hN]; exact hb)
    os := hI.os
    tape := hI.tape
    output := hI.output
    size := hI.size
    kp := hI.kp
    fx := hI.fx
    lg := ?_ }, hgl.ext hI.ext hcM, fun t => ?_⟩
  · obtain ⟨l, q1, q2⟩ := ch_lg hC hM (i := M) (Nat.le_refl _)
    refine ⟨l, q1, fun b hb' hn => ?_⟩
    rw [ch_no hC hM h0 hT (Nat.le_refl _) (b := b) (fun j hj hTP => ?_)]
    obtain ⟨_, _, _, _, _, Dj⟩ := hC.of hM hj
    have hcj := ch_mono hC hM (Nat.zero_le j) (by omega)
    have hb2 : b < (C.s 0).next := hb'
    obtain ⟨_, p1 | p1⟩ := hTP
    · rcases Dj.tl b p1 with p2 | p2
      · exact hn (q2 j hj b p2 (by rw [hb]; exact hb2))
      · omega
    · rw [Dj.lo] at p1; omega
  · rcases ch_slot hC hM t (i := M) (Nat.le_refl _) with ⟨j, o, h2, h3, h4, h5⟩ | ⟨h2, h3⟩
    · rw [h5]; exact hI.sl1 j o t (hall j h2) h3 h4
    · rw [h3]; exact hI.sl0 t fun j o hD ho => h2 j o (hI.low j hD) ho
end
theorem Stp.relog [FX] {e e' : En} {h : T AObj} {k : Nat} {l : List Nat} {w w' : World} {G : St} {base : Nat} (hb : base ≤ k) (h1 : Stp e ⟨h, k, []⟩ w e' G w') {e0 : En} {s0 : St} {w0 : World} (h0 : Stp e0 s0 w0 e ⟨h, k, l⟩ w) (hbase : base = s0.next) : Stp e0 s0 w0 e' ⟨G.heap, G.next, oldR base G.wr l⟩ w' where
  rep := ⟨h1.rep.obj, h1.rep.inj, h1.rep.fx⟩
  fx := h1.fx.trans h0.fx
  ext := h0.ext.trans h1.ext h0.nx
  nx := Nat.le_trans h0.nx h1.nx
  own := fun b o hb => by
    rcases h1.own b o hb with ⟨b1, o1, q1, q2⟩ | q1
    · rcases h0.own b1 o1 q1 with ⟨b0, o0, q3, q4⟩ | q3
      · exact .inl ⟨b0, o0, q3, q4.trans q2⟩
      · exact .inr (q2 ▸ q3)
    · exact .inr (Nat.le_trans h0.size q1)
  os := h1.os.trans h0.os
  tape := h1.tape.trans h0.tape
  output := h1.output.trans h0.output
  size := Nat.le_trans h0.size h1.size
  kp := fun k' hk hn => by
    rw [h1.kp k' (Nat.lt_of_lt_of_le hk h0.size) fun b o hb he => ?_, h0.kp k' hk hn]
    rcases h0.own b o hb with ⟨b0, o0, q3, q4⟩ | q3
    · exact hn b0 o0 q3 (q4.trans he)
    · omega
  lg := by
    obtain ⟨l0, q1, q2⟩ := h0.lg
    obtain ⟨l1, q3, q4⟩ := h1.lg
    obtain ⟨m, q5, q6⟩ := oldR_eq base l G.wr
    have q1 : l = l0 ++ s0.wr := q1
    have q3 : G.wr = l1 := by simpa using q3
    refine ⟨m ++ l0, by rw [show (⟨G.heap, G.next, oldR base G.wr l⟩ : St).wr = oldR base G.wr l from rfl, q5, q1, List.append_assoc], fun b hb2 hn => ?_⟩
    rw [List.mem_append, not_or] at hn
    have q7 := q4 b (show b < k by omega) fun hm => hn.1 (q6 b (by rw [q3]; exact hm) (by omega))
    exact q7.trans (q2 b hb2 hn.2)
theorem dops_ok [FX] {P : Program} {B : Tb} (ht : TbOk P B) (hmx : P.follows .mixedOrders = true) {n : Nat} (hF : ∀ m, m < n → FnOk P B m) : DopsOk P B n := by
  intro ns nt id ops tm s e w a Q hr hm hsz hQ
  have hr0 : ∀ m, run B n (.dops (dosOf B ns nt ops) [] 0 s.next ⟨tm.g, .nil⟩ s) ≠ .bad m := fun m hh => by rw [hh] at hQ; exact hQ
  obtain ⟨C, M, _, hM, hC, c1, c2, c3, _, hE⟩ := chain ht n hF ops.toList 0 [] 0 ⟨tm.g, .nil⟩ s _ rfl (Nat.zero_le _) (fun q hq => by simp at hq) rfl hr0 rfl
  have hm0 : RTm e s.next ns (C.tm 0) a := by rw [c2]; exact hm.fresh
  have hT : Told C ns nt 0 := ⟨e, w, a, by rw [c3]; exact ⟨hr.obj, hr.inj, hr.fx⟩, by rw [c3]; exact hm0, hsz⟩
  have hx0 : Ext s.next e ⟨e.σ, e.κ, fun b => if b < s.next then e.lv b else false, e.fx⟩ := fun b hb => ⟨rfl, rfl, by simp [hb]⟩
  have hcM : s.next ≤ (C.s M).next := by rw [← c3]; exact ch_mono hC hM (Nat.zero_le _) (Nat.le_refl _)
  have hgl0 : Gl ⟨e.σ, e.κ, fun b => if b < s.next then e.lv b else false, e.fx⟩ (C.s 0).next := by rw [c3]; exact hm.1.ext hx0 (Nat.le_refl _)
  have hstart : ∃ h1, DI C ns nt M ops ⟨e.σ, e.κ, fun b => if b < s.next then e.lv b else false, e.fx⟩ w a (fun j => (Array.replicate ops.size false).getD j false = true) ⟨e.σ, e.κ, fun b => if b < s.next then e.lv b else false, e.fx⟩ h1 a w.drew := by
    refine ⟨(C.s 0).heap, ?_⟩
    have hnone : ∀ j, ¬ (Array.replicate ops.size false).getD j false = true := fun j hj => by
      rcases Nat.lt_or_ge j ops.size with h' | h'
      · simp [h'] at hj
      · simp [h'] at hj
    exact {
      rep := ⟨fun b o hb => by
        rw [c3] at hb
        obtain ⟨q1, q2, r, q3, q4⟩ := hr.obj b o hb
        exact ⟨Nat.lt_of_lt_of_le q1 hcM, q2, r, q3, q4.ext hx0 hcM q1⟩, fun b o b' o' hb hb' he => by rw [c3] at hb hb'; exact hr.inj b o b' o' hb hb' he, fun g o hg => ⟨(hr.fx g o hg).1, fun b o' hb => (hr.fx g o hg).2 b o' (by rw [c3] at hb; exact hb)⟩⟩
      low := fun j hD => absurd hD (hnone j)
      no := fun b _ => rfl
      hit := fun b j _ hD => absurd hD (hnone j)
      ext := Ext.refl _ _
      own := fun b o hb => .inl ⟨b, o, hb, rfl⟩
      os := rfl
      tape := rfl
      output := rfl
      size := Nat.le_refl _
      kp := fun _ _ _ => rfl
      dead := fun j hj _ b q1 _ => by
        have := ch_mono hC hM (Nat.zero_le j) (by omega)
        rw [c3] at this
        show (if b < s.next then e.lv b else false) = false
        rw [if_neg (by omega)]
      sl1 := fun j o t hD => absurd hD (hnone j)
      sl0 := fun t _ => (hm0.2 t).ext hx0 hcM
      tmps := hsz
      defers := rfl
      fx := rfl }
  have hStp : ∀ {e1 w1}, Stp ⟨e.σ, e.κ, fun b => if b < s.next then e.lv b else false, e.fx⟩ ⟨(C.s 0).heap, (C.s 0).next, (C.s 0).wr⟩ w e1 (C.s M) w1 → Stp e s w e1 (C.s M) w1 := fun {e1 w1} h => by
    rw [c3] at h
    exact { rep := h.rep, ext := hx0.trans h.ext (Nat.le_refl _), nx := h.nx, own := h.own, os := h.os, tape := h.tape, output := h.output, size := h.size, kp := h.kp, lg := h.lg, fx := h.fx }
  have hcl : ∀ {listed : Array Bool}, Closed .any ops listed → ∀ j, listed.getD j false = true → ∀ p', (∃ oj, ops[j]? = some oj ∧ preOf (psOf ops j) oj.after.toList = some p') → ∀ x, bitR p' x = true → listed.getD x false = true := fun {listed} hc j hD p' ⟨oj, hoj, hpo⟩ x hx =>
    (pre_listed hc j hoj hpo (fun e he hb => hc j oj hoj hD e he hb) hx).1
  have hset : ∀ {listed : Array Bool} {j : Nat}, j < listed.size → (fun k => k = j ∨ listed.getD k false = true) = fun k => (listed.setIfInBounds j true).getD k false = true := fun {listed j} hj => by
    funext k
    apply propext
    by_cases hk : k = j
    · subst hk
      rw [getD_set_self hj]
      simp
    · rw [getD_set_ne false (Ne.symm hk)]
      simp [hk]
  have hglI : ∀ {e1 h1 a1 w1 D i}, i ≤ M → DI C ns nt M ops ⟨e.σ, e.κ, fun b => if b < s.next then e.lv b else false, e.fx⟩ w a D e1 h1 a1 w1 → Gl e1 (C.s i).next := fun {e1 h1 a1 w1 D i} hi hI => hgl0.ext hI.ext (ch_mono hC hM (Nat.zero_le i) hi)
  generalize hrun : run B n (.dops (dosOf B ns nt ops) [] 0 s.next ⟨tm.g, .nil⟩ s) = r0 at *
  cases hE with
  | all hMN =>
    refine wp_region_inv hmx (fun listed a1 w1 => ∃ e1 h1, DI C ns nt M ops ⟨e.σ, e.κ, fun b => if b < s.next then e.lv b else false, e.fx⟩ w a (fun j => listed.getD j false = true) e1 h1 a1 w1) ?_ ?_ ?_ ⟨_, hstart⟩
    · intro j o ho e' he hb
      obtain ⟨q, hq⟩ := (preOf_inv (hC j o (Nat.zero_le _) (by rw [hMN]; exact (Array.getElem?_eq_some_iff.1 ho).1) ho).1).1 e' (by simpa using he) hb
      exact (psOf_at hq).1
    · rintro listed a1 w1 j o ⟨e1, h1, hI⟩ hs ho hl hall hc
      have hj : j < ops.size := (Array.getElem?_eq_some_iff.1 ho).1
      refine di_step hC hM c1 hT (by omega) ho (by rw [hl]; (intro hh; cases hh)) (fun x hx => (pre_listed hc j ho (hC j o (Nat.zero_le _) (by omega) ho).1 hall hx).1) (hcl hc) (hglI (by omega) hI) hI fun e' h' a' w' hI' => ⟨e', h', ?_⟩
      rw [← hset (by omega)]
      exact hI'
    · rintro listed a1 w1 ⟨e1, h1, hI⟩ hall
      obtain ⟨q1, q2⟩ := di_all hC hM c1 hT (by rw [c3]) hgl0 hI fun j hj => hall j (by omega)
      exact hQ e1 a1 w1 (hStp q1) q2 hI.tmps hI.defers
  | pan o p tml G v s' ho hp hS =>
    have hMlt : M < ops.size := (Array.getElem?_eq_some_iff.1 ho).1
    refine wp_region_inv hmx (fun listed a1 w1 => ∃ e1 h1, DI C ns nt M ops ⟨e.σ, e.κ, fun b => if b < s.next then e.lv b else false, e.fx⟩ w a (fun j => listed.getD j false = true) e1 h1 a1 w1) ?_ ?_ ?_ ⟨_, hstart⟩
    · intro j oj hoj e' he hb
      have hpj : ∃ p', preOf (psOf ops j) oj.after.toList = some p' := by
        rcases Nat.lt_trichotomy j M with h1 | h1 | h1
        · exact ⟨_, (hC j oj (Nat.zero_le _) h1 hoj).1⟩
        · subst h1
          rw [ho] at hoj
          cases hoj
          exact ⟨p, hp⟩
        · obtain ⟨p', q, _⟩ := hS.wait j oj h1 hoj
          exact ⟨p', q⟩
      obtain ⟨p', hp'⟩ := hpj
      obtain ⟨q, hq⟩ := (preOf_inv hp').1 e' (by simpa using he) hb
      exact (psOf_at hq).1
    · rintro listed a1 w1 j oj ⟨e1, h1, hI⟩ hs hoj hl hall hc
      have hj : j < ops.size := (Array.getElem?_eq_some_iff.1 hoj).1
      rcases Nat.lt_trichotomy j M with h2 | h2 | h2
      · refine di_step hC hM c1 hT h2 hoj (by rw [hl]; (intro hh; cases hh)) (fun x hx => (pre_listed hc j hoj (hC j oj (Nat.zero_le _) h2 hoj).1 hall hx).1) (hcl hc) (hglI (by omega) hI) hI fun e' h' a' w' hI' => ⟨e', h', ?_⟩
        rw [← hset (by omega)]
        exact hI'
      · subst h2
        rw [ho] at hoj
        cases hoj
        have hpre : ∀ x, bitR p x = true → listed.getD x false = true := fun x hx => (pre_listed hc j ho hp hall hx).1
        have hallD : ∀ k, k < j → listed.getD k false = true := fun k hk => by
          cases hb : bitR p k with
          | true => exact hpre k hb
          | false =>
            have := ch_un hC hM c1 (Nat.le_refl _) hk hb
            rw [hS.un] at this
            cases this
        obtain ⟨q1, q2⟩ := di_all hC hM c1 hT (by rw [c3]) hgl0 hI hallD
        have hmb := di_tb (p := p) hC hM c1 hT (Nat.le_refl _) ho (by rw [hl]; (intro hh; cases hh)) hpre (hcl hc) hS.later (hglI (Nat.le_refl _) hI) hI
        rw [hS.un] at hmb
        have q3 : Rep e1 ⟨(C.s j).heap, (C.s j).next, []⟩ w1 := ⟨q1.rep.obj, q1.rep.inj, q1.rep.fx⟩
        refine hS.run e1 w1 a1 q3 hmb hI.tmps _ Q fun e' w' u q4 q5 => ?_
        rw [hS.sp] at hQ
        refine hQ e' a1 w' u ?_ (q2.ext q4.ext q4.nx) hI.tmps hI.defers q5
        exact Stp.relog (h := (C.s j).heap) (k := (C.s j).next) (l := (C.s j).wr) (by rw [← c3]; exact ch_mono hC hM (Nat.zero_le _) (Nat.le_refl _)) q4 (hStp q1) rfl
      · obtain ⟨p', q1, q2⟩ := hS.wait j oj h2 hoj
        have := hI.low M ((pre_listed hc j hoj q1 hall q2).1)
        omega
    · rintro listed a1 w1 ⟨e1, h1, hI⟩ hall
      have := hI.low M (hall M hMlt)
      omega
/-- **What the run tells holds of the program.** -/
theorem all_ok [FX] {P : Program} {B : Tb} (ht : TbOk P B) (hX : ExtOk P B) (hmx : P.follows .mixedOrders = true) : ∀ n, (OpsOk P B n ∧ CodeOk P B n ∧ FnOk P B n) ∧ LvOk P B n ∧ RfnOk P B n ∧ RopsOk P B n ∧ RcodeOk P B n := by
  intro n
  induction n using Nat.strongRecOn with
  | ind n ih =>
    cases n with
    | zero => exact ⟨⟨fun _ _ _ _ _ _ _ _ _ _ _ _ _ _ _ h => ((by cases h)), fun _ _ _ _ _ _ _ _ _ _ _ _ _ h => ((by cases h)), fun _ _ _ _ _ _ _ _ _ _ _ _ _ h => ((by cases h))⟩, fun _ _ _ _ _ _ _ _ _ _ _ _ _ _ _ _ _ h => ((by cases h)), fun _ _ _ _ _ _ _ _ _ _ _ _ _ h => ((by cases h)), fun _ _ _ _ _ _ _ _ _ _ _ _ _ _ _ _ _ _ _ _ _ h => ((by cases h)), fun _ _ _ _ _ _ _ _ _ _ _ _ _ _ _ _ _ h => ((by cases h))⟩
    | succ n =>
      obtain ⟨⟨h1, h2, h3⟩, h4, h5, h6, h7⟩ := ih n (Nat.lt_succ_self n)
      exact ⟨⟨ops_step ht h1 h3, code_step h1 (dops_ok ht hmx fun m hm => (ih m (by omega)).1.2.2) h2, fn_step ht hX h2 h4⟩, lv_step ht h4 h5, rfn_step ht h7, rops_step ht h6 h3, rcode_step h6 h2 h7⟩
/-- **A call that runs, called in the program.** -/
theorem run_calls [FX] {P : Program} {B : Tb} (ht : TbOk P B) (hX : ExtOk P B) (hmx : P.follows .mixedOrders = true) {n f : Nat} {args : List AV} {s s' : St} {v : AV} {vs : Array Value} {e : En} {w : World} (hx : B.ext.at_ f = none) (h : run B n (.fn f args s) = .ret v s') (hr : Rep e s w) (hgl : Gl e s.next) (hl : RL e s.next args vs.toList) :
    Calls P f vs w fun en w' => ∃ e' u, en = .returned u ∧ Stp e s w e' s' w' ∧ R e' s'.next v u := by
  cases n with
  | zero => cases h
  | succ n =>
    replace h : callO (B.ext.at_ f) B (run B n) f args s = .ret v s' := h
    rw [hx] at h
    replace h : fnO (B.fn.at_ f) B (run B n) f args s = .ret v s' := h
    exact (body_calls ht (all_ok ht hX hmx n).1.2.1 (all_ok ht hX hmx n).2.1 hr hgl hl (by rw [h]; exact fun e' w' x h1 h2 => ⟨e', x, rfl, h1, h2⟩)).2

theorem tisOf_at (P : Program) : ∀ (l : List TypeInfo) (k t : Nat), (tisOf P l k)[t]? = (l[t]?).map (tiOf P (k + t))
  | [], k, t => by simp [tisOf]
  | i :: l, k, 0 => by simp [tisOf]
  | i :: l, k, t + 1 => by
    show (tisOf P l (k + 1))[t]? = _
    rw [tisOf_at P l (k + 1) t, show k + 1 + t = k + (t + 1) by omega]
    rfl
theorem tisOf_len (P : Program) : ∀ (l : List TypeInfo) (k : Nat), (tisOf P l k).length = l.length
  | [], k => rfl
  | i :: l, k => by show (tisOf P l (k + 1)).length + 1 = _; rw [tisOf_len P l (k + 1)]; rfl
theorem tb_ok [FX] (P : Program) (ext : T Nat) (xf : Nat → List AV → St → Option (AV × St)) (hn : P.funcs.toList.all (fun fn => !(fn.name == "runtime.NumGoroutine")) = true) : TbOk P (tb P ext xf) where
  ty := fun t i h => by
    replace h : (T.ofL (tisOf P P.types.toList 0) 0 .leaf).at_ t = some i := h
    rw [ofL_at] at h
    by_cases hc : 0 ≤ t ∧ t < 0 + (tisOf P P.types.toList 0).length
    · rw [if_pos hc, Nat.sub_zero, tisOf_at] at h
      cases ht : P.types.toList[t]? with
      | none => rw [ht] at h; cases h
      | some ti =>
        rw [ht] at h
        cases h
        have hi : P.info? t = some ti := by
          unfold Tables.info?
          rw [Array.getElem?_toList] at ht
          have hlt := (Array.getElem?_eq_some_iff.1 ht).1
          rw [if_pos hlt]
          exact ht
        refine ⟨ti, hi, rfl, by rw [Nat.zero_add]; rfl, by rw [Nat.zero_add]; rfl, by rw [Nat.zero_add]; rfl, by rw [Nat.zero_add]; rfl, rfl, fun z hz => ?_⟩
        replace hz : ti.zero.map ofV = some z := hz
        cases hzz : ti.zero with
        | none => rw [hzz] at hz; cases hz
        | some v => rw [hzz] at hz; cases hz; exact ⟨v, rfl, rfl⟩
    · rw [if_neg hc, T.at_leaf] at h; cases h
  fn := fun f fn h => by
    replace h : (T.ofL P.funcs.toList 0 .leaf).at_ f = some fn := h
    rw [ofL_at] at h
    by_cases hc : 0 ≤ f ∧ f < 0 + P.funcs.toList.length
    · rw [if_pos hc, Nat.sub_zero] at h
      have hm := List.mem_of_getElem? h
      rw [Array.getElem?_toList] at h
      have := List.all_eq_true.1 hn fn hm
      exact ⟨h, by simpa using this⟩
    · rw [if_neg hc, T.at_leaf] at h; cases h

theorem eqLit_eq {u v : Value} (h : eqLit u v = true) : u = v := by
  unfold eqLit at h
  split at h <;> first | rfl | (cases h; done) | skip
  · rw [Bool.and_eq_true] at h
    rw [Nat.eq_of_beq_eq_true h.1, Nat.eq_of_beq_eq_true h.2]
  · rw [Nat.eq_of_beq_eq_true h]
theorem eqCp_eq {a b : Cp} (h : eqCp a b = true) : a = b := by
  cases a <;> cases b <;> first | (cases h; done) | (rw [Nat.eq_of_beq_eq_true (show Nat.beq _ _ = true from h)])
theorem eqL_eq : ∀ {l m : List Nat}, eqL l m = true → l = m
  | [], [], _ => rfl
  | [], _ :: _, h => by cases h
  | _ :: _, [], h => by cases h
  | a :: l, b :: m, h => by
    replace h : (Bool.rec false (eqL l m) (Nat.beq a b) : Bool) = true := h
    cases hb : Nat.beq a b with
    | false => rw [hb] at h; cases h
    | true => rw [hb] at h; rw [Nat.eq_of_beq_eq_true hb, eqL_eq h]
section
variable {e : En} {k : Nat}
mutual
theorem eqAV_R : ∀ {x y : AV} {v : Value}, eqAV x y = true → R e k y v → R e k x v
  | .bot, _, _, _, _ => trivial
  | .int kd n, y, v, h, hR => by
    replace h : eqN kd n y = true := h
    cases y <;> first | (cases h; done) | skip
    have h := (Bool.and_eq_true _ _).mp h
    rw [of_decide_eq_true h.1, of_decide_eq_true h.2]
    exact hR
  | .bool b, y, v, h, hR => by
    replace h : eqB b y = true := h
    cases y <;> first | (cases h; done) | skip
    rw [eq_of_beq (show (b == _) = true from h)]
    exact hR
  | .str l, y, v, h, hR => by
    replace h : eqS1 l y = true := h
    cases y <;> first | (cases h; done) | skip
    rw [eqL_eq (show eqL l _ = true from h)]
    exact hR
  | .lit u, y, v, h, hR => by
    replace h : eqV1 u y = true := h
    cases y <;> first | (cases h; done) | skip
    rw [eqLit_eq (show eqLit u _ = true from h)]
    exact hR
  | .ptr b o, y, v, h, hR => by
    replace h : eqP b o y = true := h
    cases y <;> first | (cases h; done) | skip
    have h := (Bool.and_eq_true _ _).mp h
    rw [Nat.eq_of_beq_eq_true h.1, Nat.eq_of_beq_eq_true h.2]
    exact hR
  | .slc b o n c, y, v, h, hR => by
    replace h : eqSl b o n c y = true := h
    cases y <;> first | (cases h; done) | skip
    have h := (Bool.and_eq_true _ _).mp h
    have h1 := (Bool.and_eq_true _ _).mp h.1
    have h2 := (Bool.and_eq_true _ _).mp h.2
    rw [Nat.eq_of_beq_eq_true h1.1, Nat.eq_of_beq_eq_true h1.2, Nat.eq_of_beq_eq_true h2.1, eqCp_eq h2.2]
    exact hR
  | .map b, y, v, h, hR => by
    replace h : eqM b y = true := h
    cases y <;> first | (cases h; done) | skip
    rw [Nat.eq_of_beq_eq_true (show Nat.beq b _ = true from h)]
    exact hR
  | .agg l, y, v, h, hR => by
    replace h : eqAg (eqAVs l) y = true := h
    cases y <;> first | (cases h; done) | skip
    obtain ⟨cs, h1, h2⟩ := hR
    exact ⟨cs, h1, eqAVs_R (show eqAVs l _ = true from h) h2⟩
  | .tup l, y, v, h, hR => by
    replace h : eqTu (eqAVs l) y = true := h
    cases y <;> first | (cases h; done) | skip
    obtain ⟨cs, h1, h2⟩ := hR
    exact ⟨cs, h1, eqAVs_R (show eqAVs l _ = true from h) h2⟩
  | .ifc t a, y, v, h, hR => by
    replace h : eqI t (eqAV a) y = true := h
    cases y <;> first | (cases h; done) | skip
    have h := (Bool.and_eq_true _ _).mp h
    obtain ⟨u, h1, h2⟩ := hR
    rw [Nat.eq_of_beq_eq_true h.1]
    exact ⟨u, h1, eqAV_R h.2 h2⟩
  | .fn f a c, y, v, h, hR => by
    replace h : eqF f (eqAVs a) (eqAVs c) y = true := h
    cases y <;> first | (cases h; done) | skip
    have h := (Bool.and_eq_true _ _).mp h
    have h2 := (Bool.and_eq_true _ _).mp h.2
    obtain ⟨p, q, h3, h4, h5⟩ := hR
    rw [Nat.eq_of_beq_eq_true h.1]
    exact ⟨p, q, h3, eqAVs_R h2.1 h4, eqAVs_R h2.2 h5⟩
  | .cls _ _ _, _, _, h, _ => by cases h
  | .emp, y, v, h, hR => by
    replace h : eqE y = true := h
    cases y <;> first | (cases h; done) | exact hR
theorem eqAVs_R : ∀ {l m : List AV} {vs : List Value}, eqAVs l m = true → RL e k m vs → RL e k l vs
  | [], [], _, _, hR => hR
  | [], _ :: _, _, h, _ => by cases h
  | _ :: _, [], _, h, _ => by cases h
  | a :: l, b :: m, vs, h, hR => by
    replace h : and (eqAV a b) (eqAVs l m) = true := h
    have h := (Bool.and_eq_true _ _).mp h
    obtain ⟨v, us, h1, h2, h3⟩ := hR
    exact ⟨v, us, h1, eqAV_R h.1 h2, eqAVs_R h.2 h3⟩
end
end
theorem eqAVs_at : ∀ {l m : List AV}, eqAVs l m = true → l.length = m.length ∧ ∀ (j : Nat) (a : AV), l[j]? = some a → ∃ b, m[j]? = some b ∧ eqAV a b = true
  | [], [], _ => ⟨rfl, fun j a h => by simp at h⟩
  | [], _ :: _, h => by cases h
  | _ :: _, [], h => by cases h
  | x :: l, y :: m, h => by
    replace h : and (eqAV x y) (eqAVs l m) = true := h
    have h := (Bool.and_eq_true _ _).mp h
    obtain ⟨h1, h2⟩ := eqAVs_at h.2
    refine ⟨by simp [h1], fun j a hj => ?_⟩
    cases j with
    | zero => cases hj; exact ⟨y, rfl, h.1⟩
    | succ j => exact h2 j a hj
theorem okRow_at {c : T (List AV)} : ∀ {lit : List (List AV)} {i : Nat}, okRow lit c i = true → ∀ (j : Nat) (l : List AV), lit[j]? = some l → oneL l = true ∧ ∃ m, c.at_ (i + j) = some m ∧ eqAVs l m = true
  | [], _, _, j, l, h => by simp at h
  | x :: lit, i, h, j, l, hj => by
    replace h : and (and (oneL x) (Option.rec false (fun m => eqAVs x m) (c.at_ i))) (okRow lit c (i + 1)) = true := h
    have h := (Bool.and_eq_true _ _).mp h
    have h1 := (Bool.and_eq_true _ _).mp h.1
    cases j with
    | zero =>
      cases hj
      cases hc : c.at_ i with
      | none => rw [hc] at h1; cases (show false = true from h1.2)
      | some m => rw [hc] at h1; exact ⟨h1.1, m, rfl, h1.2⟩
    | succ j =>
      obtain ⟨h0, m, h1, h2⟩ := okRow_at h.2 j l hj
      exact ⟨h0, m, by rw [← h1]; congr 1; omega, h2⟩
theorem okObs_mem {c0 : Nat} {h : T AObj} : ∀ {l : List OB}, okObs c0 h l = true → ∀ o ∈ l, c0 ≤ o.b ∧ okOb o (h.at_ o.b) = true
  | [], _, o, ho => by simp at ho
  | x :: l, hh, o, ho => by
    replace hh : and (and (Nat.ble c0 x.b) (okOb x (h.at_ x.b))) (okObs c0 h l) = true := hh
    have hh := (Bool.and_eq_true _ _).mp hh
    rcases List.mem_cons.1 ho with rfl | ho
    · have h1 := (Bool.and_eq_true _ _).mp hh.1
      exact ⟨Nat.le_of_ble_eq_true h1.1, h1.2⟩
    · exact okObs_mem hh.2 o ho
theorem layM_at {h : T AObj} : ∀ (l : List OB) {b : Nat} {o : AObj}, (layM l h).at_ b = some o → (∃ x ∈ l, x.b = b ∧ o = x.obj) ∨ ((∀ x ∈ l, x.b ≠ b) ∧ h.at_ b = some o)
  | [], b, o, hb => .inr ⟨fun x hx => by simp at hx, hb⟩
  | x :: l, b, o, hb => by
    replace hb : ((layM l h).set x.b x.obj).at_ b = some o := hb
    rw [T.at_set] at hb
    by_cases hx : x.b = b
    · rw [if_pos hx] at hb
      cases hb
      exact .inl ⟨x, by simp, hx, rfl⟩
    · rw [if_neg hx] at hb
      rcases layM_at l hb with ⟨y, h1, h2⟩ | ⟨h1, h2⟩
      · exact .inl ⟨y, by simp [h1], h2⟩
      · refine .inr ⟨fun y hy => ?_, h2⟩
        rcases List.mem_cons.1 hy with rfl | hy
        · exact hx
        · exact h1 y hy
theorem layM_ne {h : T AObj} : ∀ (l : List OB) {b : Nat}, (∀ x ∈ l, x.b ≠ b) → (layM l h).at_ b = h.at_ b
  | [], b, _ => rfl
  | x :: l, b, hn => by
    show ((layM l h).set x.b x.obj).at_ b = _
    rw [T.at_set, if_neg (hn x (by simp)), layM_ne l fun y hy => hn y (by simp [hy])]
theorem okOb_RO [FX] {e : En} {k b : Nat} {x : OB} {o : AObj} {r : Obj} (h : okOb x (some o) = true) (hR : RO e k b o r) : RO e k b x.obj r := by
  cases o with
  | cells c n size t room =>
    replace h : and (and (okRow x.rows c 0) (Nat.beq (lenR x.rows) n)) (and (Nat.beq x.size size) (and (Nat.beq x.t t) (x.room == room))) = true := h
    have h := (Bool.and_eq_true _ _).mp h
    have h1 := (Bool.and_eq_true _ _).mp h.1
    have h2 := (Bool.and_eq_true _ _).mp h.2
    have h3 := (Bool.and_eq_true _ _).mp h2.2
    have hn := Nat.eq_of_beq_eq_true h1.2
    have hs := Nat.eq_of_beq_eq_true h2.1
    have ht := Nat.eq_of_beq_eq_true h3.1
    have hro := eq_of_beq h3.2
    obtain ⟨cs, fz, q1, q2, q3, q4, q5⟩ := hR
    show RO e k b (.cells (putE x.rows 0 .leaf) (lenR x.rows) x.size x.t x.room) r
    rw [hn, hs, ht, hro]
    refine ⟨cs, fz, q1, q2, q3, q4, fun i l hi => ?_⟩
    rw [putE_at, Nat.zero_add, T.at_leaf] at hi
    by_cases hc : 0 ≤ i ∧ i < x.rows.length
    · rw [if_pos hc, Nat.sub_zero] at hi
      obtain ⟨h0, m, h4, h5⟩ := okRow_at h1.1 i l hi
      rw [Nat.zero_add] at h4
      obtain ⟨h6, h7, h8⟩ := q5 i m h4
      obtain ⟨h9, h10⟩ := eqAVs_at h5
      refine ⟨h6, by rw [h9, h7], fun j a hj => ?_⟩
      obtain ⟨y, h11, h12⟩ := h10 j a hj
      obtain ⟨h13, v, h14, h15⟩ := h8 j y h11
      exact ⟨oneL_all h0 a (List.mem_of_getElem? hj), v, h14, eqAV_R h12 h15⟩
    · rw [if_neg hc] at hi; cases hi
  | map kk es => cases h
  | siter l p => cases h
theorem Rep.none [FX] {e : En} {w : World} (h : ∀ g o, FX.F g = some o → w.heap[g]? = some o) (c : Nat) : Rep e ⟨.leaf, c, []⟩ w :=
  ⟨fun b o hb => (by rw [T.at_leaf] at hb; cases hb), fun b o b' o' hb => (by rw [T.at_leaf] at hb; cases hb), fun g o hg => ⟨h g o hg, fun b o' hb => (by rw [T.at_leaf] at hb; cases hb)⟩⟩
/-- **What is known of a call is what it answers**, wherever the numbers have not come to those that it takes. -/
theorem memo_ok [FX] {P : Program} {B : Tb} {n f : Nat} (hF : FnOk P B n) {m : Memo} (h : memB m (run B n (.fn f m.args ⟨.leaf, m.c0, []⟩)) = true) {s : St} {e : En} {w : World} {vs : Array Value} (hle : s.next ≤ m.c0) (hr : Rep e s w) (hgl : Gl e s.next) (hl : RL e s.next m.args vs.toList)
    {o : Oper} {a : Act} {K : Act → World → Prop} {Q : Exit → Act → World → Prop} (hK : ∀ e' w' u, Stp e s w e' ⟨layM m.objs s.heap, m.c1, s.wr⟩ w' → R e' m.c1 m.v u → K (a.put o.dst u) w') : o.upon P a K Q ((callFunc f vs).run P w) := by
  have hr0 : Rep e ⟨.leaf, m.c0, []⟩ w := Rep.none (fun g o hg => (hr.fx g o hg).1) m.c0
  refine hF f m.args ⟨.leaf, m.c0, []⟩ e w vs hr0 (hgl.ext (Ext.refl _ _) hle) (hl.ext (Ext.refl _ _) hle) ?_
  generalize run B n (.fn f m.args ⟨.leaf, m.c0, []⟩) = r at h
  cases r with
  | ok _ _ _ _ => cases h
  | pan _ _ _ _ => cases h
  | okR _ _ _ _ => cases h
  | retR _ _ => cases h
  | bad _ => cases h
  | ret v g =>
    replace h : and (eqAV m.v v) (and (Nat.ble g.next m.c1) (okObs m.c0 g.heap m.objs)) = true := h
    have h := (Bool.and_eq_true _ _).mp h
    have h1 := (Bool.and_eq_true _ _).mp h.2
    have hg1 := Nat.le_of_ble_eq_true h1.1
    have hob := okObs_mem h1.2
    intro e' w' u st hu
    have hnx : m.c0 ≤ g.next := st.nx
    have hext : Ext m.c0 e e' := st.ext
    have hlit : ∀ x ∈ m.objs, ∃ oG, g.heap.at_ x.b = some oG ∧ okOb x (some oG) = true := fun x hx => by
      have h2 := (hob x hx).2
      cases hG : g.heap.at_ x.b with
      | none => rw [hG] at h2; cases h2
      | some oG => rw [hG] at h2; exact ⟨oG, rfl, h2⟩
    have hnone : ∀ b o, (⟨.leaf, m.c0, []⟩ : St).heap.at_ b = some o → False := fun b o hb => by rw [show (⟨.leaf, m.c0, []⟩ : St).heap = .leaf from rfl, T.at_leaf] at hb; cases hb
    have hfar : ∀ {b oG}, g.heap.at_ b = some oG → w.heap.size ≤ e'.σ b := fun {b oG} hb => by
      rcases st.own b oG hb with ⟨b0, o0, q, _⟩ | q
      · exact (hnone b0 o0 q).elim
      · exact q
    have hold : ∀ {b o}, s.heap.at_ b = some o → b < s.next ∧ e'.σ b = e.σ b ∧ e.σ b < w.heap.size ∧ ∃ r, w'.heap[e'.σ b]? = some r ∧ RO e' m.c1 b o r := fun {b o} hb => by
      obtain ⟨q1, q2, r, q3, q4⟩ := hr.obj b o hb
      have q5 := (hext b (by omega)).1
      refine ⟨q1, q5, q2, r, ?_, q4.ext (fun b' hb' => hext b' (by omega)) (by omega) q1⟩
      rw [q5, st.kp _ q2 fun b1 o1 hb1 => (hnone b1 o1 hb1).elim]
      exact q3
    refine hK e' w' u ?_ (eqAV_R h.1 (hu.ext (Ext.refl _ _) hg1))
    exact {
      rep := ⟨fun b o hb => by
        rcases layM_at m.objs hb with ⟨x, hx, rfl, rfl⟩ | ⟨_, hb2⟩
        · obtain ⟨oG, q1, q2⟩ := hlit x hx
          obtain ⟨q3, q4, r, q5, q6⟩ := st.rep.obj x.b oG q1
          exact ⟨show x.b < m.c1 by omega, q4, r, q5, (okOb_RO q2 q6).mono hg1⟩
        · obtain ⟨q1, q2, q3, r, q4, q5⟩ := hold hb2
          exact ⟨show b < m.c1 by omega, by rw [q2]; exact Nat.lt_of_lt_of_le q3 st.size, r, q4, q5⟩, fun b o b' o' hb hb' he => by
        rcases layM_at m.objs hb with ⟨x, hx, rfl, rfl⟩ | ⟨_, hb2⟩ <;> rcases layM_at m.objs hb' with ⟨x', hx', rfl, rfl⟩ | ⟨_, hb2'⟩
        · obtain ⟨oG, q1, _⟩ := hlit x hx
          obtain ⟨oG', q1', _⟩ := hlit x' hx'
          exact st.rep.inj _ _ _ _ q1 q1' he
        · obtain ⟨oG, q1, _⟩ := hlit x hx
          obtain ⟨_, q2, q3, _⟩ := hold hb2'
          have := hfar q1
          omega
        · obtain ⟨oG, q1, _⟩ := hlit x' hx'
          obtain ⟨_, q2, q3, _⟩ := hold hb2
          have := hfar q1
          omega
        · obtain ⟨_, q2, _⟩ := hold hb2
          obtain ⟨_, q2', _⟩ := hold hb2'
          exact hr.inj _ _ _ _ hb2 hb2' (by rw [← q2, ← q2']; exact he), fun g o hg => by
        have q := st.rep.fx g o hg
        refine ⟨q.1, fun b o' hb => ?_⟩
        rcases layM_at m.objs hb with ⟨x, hx, rfl, rfl⟩ | ⟨_, hb2⟩
        · obtain ⟨oG, q1, _⟩ := hlit x hx
          exact q.2 x.b oG q1
        · rw [(hold hb2).2.1]
          exact (hr.fx g o hg).2 b o' hb2⟩
      fx := st.fx
      ext := fun b hb => hext b (by omega)
      nx := show s.next ≤ m.c1 by omega
      own := fun b o hb => by
        rcases layM_at m.objs hb with ⟨x, hx, rfl, rfl⟩ | ⟨_, hb2⟩
        · obtain ⟨oG, q1, _⟩ := hlit x hx
          exact .inr (hfar q1)
        · exact .inl ⟨b, o, hb2, (hold hb2).2.1.symm⟩
      os := st.os
      tape := st.tape
      output := st.output
      size := st.size
      kp := fun k hk _ => st.kp k hk fun b o hb => (hnone b o hb).elim
      lg := ⟨[], rfl, fun b hb _ => layM_ne m.objs fun x hx he => by
        have := (hob x hx).1
        omega⟩ }
/-- One of many. -/
theorem find_ok [FX] {P : Program} {B : Tb} {n f : Nat} (hF : FnOk P B n) : ∀ {l : List Memo}, (∀ m ∈ l, memB m (run B n (.fn f m.args ⟨.leaf, m.c0, []⟩)) = true) → ∀ {args : List AV} {s s' : St} {v : AV}, findMemo l args s = some (v, s') → ∀ {e : En} {w : World} {vs : Array Value}, Rep e s w → Gl e s.next → RL e s.next args vs.toList →
    ∀ {o : Oper} {a : Act} {K : Act → World → Prop} {Q : Exit → Act → World → Prop}, (∀ e' w' u, Stp e s w e' s' w' → R e' s'.next v u → K (a.put o.dst u) w') → o.upon P a K Q ((callFunc f vs).run P w)
  | [], _, _, _, _, _, h, _, _, _, _, _, _, _, _, _, _, _ => by cases h
  | m :: l, hall, args, s, s', v, h, e, w, vs, hr, hgl, hl, o, a, K, Q, hK => by
    replace h : (Bool.rec (findMemo l args s) (some (m.v, ⟨layM m.objs s.heap, m.c1, s.wr⟩)) (and (eqAVs m.args args) (Nat.ble s.next m.c0)) : Option (AV × St)) = some (v, s') := h
    cases hc : and (eqAVs m.args args) (Nat.ble s.next m.c0) with
    | false => rw [hc] at h; exact find_ok hF (fun m hm => hall m (by simp [hm])) h hr hgl hl hK
    | true =>
      rw [hc] at h
      have hc := (Bool.and_eq_true _ _).mp hc
      injection (show some (m.v, (⟨layM m.objs s.heap, m.c1, s.wr⟩ : St)) = some (v, s') from h) with h
      injection h with h1 h2
      subst h1 h2
      exact memo_ok hF (hall m (by simp)) (Nat.le_of_ble_eq_true hc.2) hr hgl (eqAVs_R hc.1 hl) hK
/-- A call of no arguments that answers true. -/
theorem true_calls [FX] {P : Program} {B : Tb} (ht : TbOk P B) (hX : ExtOk P B) (hmx : P.follows .mixedOrders = true) {n f : Nat} {args : List AV} {vs : Array Value} {w : World} (hx : B.ext.at_ f = none) (h : isTrue (run B n (.fn f args ⟨.leaf, 1000, []⟩)) = true) (hl : ∀ e, RL e 1000 args vs.toList) (hfx : ∀ g o, FX.F g = some o → w.heap[g]? = some o) :
    Calls P f vs w fun en w' => en = .returned (.bool true) ∧ RowKit.Below w.heap.size w w' := by
  let e : En := ⟨id, fun _ => 0, fun _ => true, fun _ => none⟩
  have hr0 : Rep e ⟨.leaf, 1000, []⟩ w := Rep.none (e := e) hfx 1000
  have hgl : Gl e 1000 := fun g hg => ⟨hg, rfl, rfl⟩
  cases hrun : run B n (.fn f args ⟨.leaf, 1000, []⟩) with
  | ret v s' =>
    rw [hrun] at h
    unfold isTrue at h
    split at h <;> first | (cases h; done) | skip
    rename_i s2 heq
    injection heq with h1 h2
    subst h1 h2
    refine (run_calls ht hX hmx hx hrun hr0 hgl (hl e)).mono fun en w' hh => ?_
    obtain ⟨e', u, rfl, st, hu⟩ := hh
    rw [show u = .bool true from hu]
    exact ⟨rfl, st.os, st.tape, st.output, st.size, fun k hk => st.kp k hk fun b o hb => by rw [T.at_leaf] at hb; cases hb⟩
  | ok _ _ _ _ => rw [hrun] at h; cases h
  | pan _ _ _ _ => rw [hrun] at h; cases h
  | okR _ _ _ _ => rw [hrun] at h; cases h
  | retR _ _ => rw [hrun] at h; cases h
  | bad _ => rw [hrun] at h; cases h
end Go.Proofs.YtiibijhldlillaaGreat.Eng
