/- A plain region's operations, one after the other. No condition beyond what each theorem says. -/
import Derived.Test.YtiibijhldlillaaGreatEd
import Derived.Tactics
import Derived.LoopN
import Derived.Defers
import Derived.Recover
namespace Go.Proofs.YtiibijhldlillaaGreat.Eng
section
variable {P : Program} {B : Tb}

/-- How code ends, in the program's words. -/
def Ex.out : Ex → Exit
  | .normal => .normal
  | .exit i => .exit i
  | .goto l => .goto l
  | .ret => .ret
/-- What the run's end says of code's. -/
def OutQ [FX] (P : Program) (ns : NS) (nt : Nat) (e : En) (s : St) (w : World) (Q : Exit → Act → World → Prop) : Out → Prop
  | .ok ex tm' ds' s' => ∀ e' a' w', Stp e s w e' s' w' → RTm e' s'.next ns tm' a' → a'.tmps.size = nt → RDs P e' s'.next ds' a'.defers → Q ex.out a' w'
  | .pan v tm' ds' s' => ∀ e' a' w' u, Stp e s w e' s' w' → RTm e' s'.next ns tm' a' → a'.tmps.size = nt → RDs P e' s'.next ds' a'.defers → R e' s'.next v u → Q (.panic [{ v := u, recovered := false }]) a' w'
  | _ => False
theorem OutQ.step [FX] {ns : NS} {nt : Nat} {e e1 : En} {s s1 : St} {w w1 : World} {Q : Exit → Act → World → Prop} {r : Out} (h : Stp e s w e1 s1 w1) (hq : OutQ P ns nt e s w Q r) : OutQ P ns nt e1 s1 w1 Q r := by
  cases r with
  | ok ex tm' ds' s' => exact fun e' a' w' h1 h2 h3 h4 => hq e' a' w' (h.trans h1) h2 h3 h4
  | pan v tm' ds' s' => exact fun e' a' w' u h1 h2 h3 h4 h5 => hq e' a' w' u (h.trans h1) h2 h3 h4 h5
  | ret v s' => exact hq
  | okR e tm m s => exact hq
  | retR m s => exact hq
  | bad l => exact hq
/-- What the run's end says of a call's. -/
def FnQ [FX] (e : En) (s : St) (w : World) (o : Oper) (a : Act) (K : Act → World → Prop) (Q : Exit → Act → World → Prop) : Out → Prop
  | .ret v s' => ∀ e' w' u, Stp e s w e' s' w' → R e' s'.next v u → K (a.put o.dst u) w'
  | .pan v _ _ s' => ∀ e' w' u, Stp e s w e' s' w' → R e' s'.next v u → Q (.panic [{ v := u, recovered := false }]) a w'
  | _ => False
/-- What the run tells of a call. -/
def FnOk [FX] (P : Program) (B : Tb) (n : Nat) : Prop := ∀ (f : Nat) (args : List AV) (s : St) (e : En) (w : World) (vs : Array Value), Rep e s w → Gl e s.next → RL e s.next args vs.toList →
  ∀ {o : Oper} {a : Act} {K : Act → World → Prop} {Q : Exit → Act → World → Prop}, FnQ e s w o a K Q (run B n (.fn f args s)) → o.upon P a K Q ((callFunc f vs).run P w)
/-- What the run tells of a row of operations. -/
def OpsOk [FX] (P : Program) (B : Tb) (n : Nat) : Prop := ∀ (ns : NS) (nt : Nat) (ops : Array Oper) (l : List Oper) (tm : Tm) (ds : Ds) (s : St) (e : En) (w : World) (a : Act) (Q : Exit → Act → World → Prop),
  Rep e s w → RTm e s.next ns tm a → a.tmps.size = nt → RDs P e s.next ds a.defers → OutQ P ns nt e s w Q (run B n (.ops (mapR (moOf B ns nt ops.toList) l) tm ds s)) → wpList P ops Q l a w
theorem dstC_inv [FX] {nt : Nat} {m m' : MOp} {d : Option Nat} (h : dstC nt m d = m') (hm : m' ≠ .none) : m' = m ∧ ∀ x, d = some x → x < nt := by
  cases d with
  | none => exact ⟨h.symm, fun x hx => (by cases hx)⟩
  | some y =>
    obtain ⟨h1, h2⟩ := gateM (show (Bool.rec .none m (Nat.ble (y + 1) nt) : MOp) = m' from h) hm
    exact ⟨h2, fun x hx => by cases hx; exact Nat.le_of_ble_eq_true h1⟩
theorem callB_inv {m : MOp} (h : callB m = true) : ∃ g as, m = .call g as := by
  unfold callB at h
  split at h
  · exact ⟨_, _, rfl⟩
  · cases h
/-- An act: a call, a deferred one, a panic, a recover. -/
def actM : MOp → Bool
  | .call _ _ => true
  | .defer _ _ => true
  | .panic _ => true
  | .recov => true
  | _ => false
/-- Which operations are acts. -/
inductive Acts (ns : NS) (op : Op) (m : MOp) : Prop where
  | call (c : Call) (x : Operand) (h : op = .call c) (h2 : c.callee = .value x) (h3 : m = .call (mv ns x) (mapR (mv ns) c.args.toList))
  | defer (c : Call) (x : Operand) (h : op = .defer c) (h2 : c.callee = .value x) (h3 : m = .defer (mv ns x) (mapR (mv ns) c.args.toList))
  | panic (x : Operand) (h : op = .panic x) (h2 : m = .panic (mv ns x))
  | recov (c : Call) (h : op = .call c) (h2 : c.callee = .builtin .recover) (h3 : m = .recov)
theorem cmp_act [FX] {B : Tb} {ns : NS} {op : Op} {m : MOp} (h : cmp ns op B = m) (ha : actM m = true) : Acts ns op m := by
  have hne : m ≠ .none := by rintro rfl; cases ha
  have hkn : ∀ {t m'}, kn B t m' = m → m' = m := fun {t m'} hh => (kn_inv hh hne).2.symm
  cases op
  all_goals try (subst h; cases (show false = true from ha); done)
  all_goals try (have h2 := hkn h; subst h2; cases (show false = true from ha); done)
  case build t ps => rcases bldOf_inv (m := m) h hne with ⟨_, _, _, _, _, h2⟩ | ⟨_, _, _, _, h2⟩ <;> subst h2 <;> cases (show false = true from ha)
  case buildSlice t n ps => obtain ⟨_, _, _, h2⟩ := slcK_inv (m' := m) h hne; subst h2; cases (show false = true from ha)
  case makeSlice t l c => obtain ⟨_, _, _, h2⟩ := slcK_inv (m' := m) h hne; subst h2; cases (show false = true from ha)
  case insert t m k x => obtain ⟨_, _, _, _, _, h2⟩ := kk_inv h hne; subst h2; cases (show false = true from ha)
  case mapUpdate t m k x => obtain ⟨_, _, _, _, _, h2⟩ := kk_inv h hne; subst h2; cases (show false = true from ha)
  case lookup t x i ok => obtain ⟨_, _, _, _, _, h2⟩ := kk_inv h hne; subst h2; cases (show false = true from ha)
  case makeInterface t x => have h2 := hkn h; cases hb : ifaceB (dsc B t) <;> rw [hb] at h2 <;> subst h2 <;> cases (show false = true from ha)
  case typeAssert x xt t ok => have h2 := hkn h; cases hb : ifaceB (dsc B t) <;> rw [hb] at h2 <;> subst h2 <;> cases (show false = true from ha)
  case makeFunc f x c => cases f <;> subst h <;> cases (show false = true from ha)
  case makeMap t r => cases r <;> first | (subst h; cases (show false = true from ha); done) | (rw [show cmp ns (.makeMap t none) B = cmpMk none (kkOf B (dsc B t)) from rfl] at h; cases hk : kkOf B (dsc B t) <;> rw [hk] at h <;> subst h <;> cases (show false = true from ha))
  case range t x => rw [show cmp ns (.range t x) B = rngC (mv ns x) (dsc B t) from rfl] at h; cases hd : dsc B t <;> rw [hd] at h <;> subst h <;> cases (show false = true from ha)
  case indexAddr t x i => rw [show cmp ns (.indexAddr t x i) B = iaOf B (mv ns x) (mv ns i) (dsc B t) from rfl] at h; cases hd : dsc B t <;> rw [hd] at h <;> first | (subst h; cases (show false = true from ha); done) | (have h2 := hkn h; subst h2; cases (show false = true from ha))
  case index t x i => rw [show cmp ns (.index t x i) B = ixOf B (mv ns x) (mv ns i) (dsc B t) from rfl] at h; cases hd : dsc B t <;> rw [hd] at h <;> first | (subst h; cases (show false = true from ha); done) | (have h2 := hkn h; subst h2; cases (show false = true from ha))
  case slice t x lo hi mx =>
    cases mx with
    | some y => subst h; cases (show false = true from ha)
    | none =>
      rw [show cmp ns (.slice t x lo hi none) B = cutOf B (mv ns x) (mvo ns lo) (mvo ns hi) (dsc B t) from rfl] at h
      cases hd : dsc B t <;> rw [hd] at h <;> first | (subst h; cases (show false = true from ha); done) | (have h2 := hkn h; subst h2; cases (show false = true from ha))
  case panic x => exact .panic x rfl h.symm
  case defer c =>
    rw [show cmp ns (.defer c) B = cmpD ns c.callee c from rfl] at h
    cases hc : c.callee <;> rw [hc] at h <;> first | exact .defer c _ rfl hc h.symm | (subst h; cases (show false = true from ha))
  case call c =>
    rw [show cmp ns (.call c) B = cmpC ns c.callee c B from rfl] at h
    cases hc : c.callee with
    | value f => rw [hc] at h; exact .call c f rfl hc h.symm
    | invoke x n => rw [hc] at h; subst h; cases (show false = true from ha)
    | builtin b =>
      rw [hc] at h
      have happ : ∀ {X Y tx t}, appC B tx X Y (dsc B t) = m → False := fun {X Y tx t} h3 => by
        cases hd : dsc B t <;> rw [hd] at h3 <;> first | (subst h3; cases (show false = true from ha); done) | (have h4 := hkn h3; obtain ⟨_, h5⟩ := gateM h4 hne; subst h5; cases (show false = true from ha))
      have hlen : ∀ {X t}, lenC X (dsc B t) = m → False := fun {X t} h3 => by
        cases hd : dsc B t <;> rw [hd] at h3 <;> subst h3 <;> cases (show false = true from ha)
      replace h : cmpB ns b c.args.toList c.argTypes.toList B = m := h
      unfold cmpB at h
      split at h <;> first | exact (happ h).elim | exact (hlen h).elim | exact .recov c rfl hc h.symm | (subst h; cases (show false = true from ha))
theorem ops_step [FX] (ht : TbOk P B) {n : Nat} (hO : OpsOk P B n) (hF : FnOk P B n) : OpsOk P B (n + 1) := by
  intro ns nt ops l tm ds s e w a Q hr hm hsz hds h
  cases l with
  | nil => exact wpList_nil (h e a w (Stp.refl hr) hm hsz hds)
  | cons o l =>
    replace h : OutQ P ns nt e s w Q (goOp (wantedA (Option.rec none (gdOf ns ops.toList) o.guard) tm) (moOf B ns nt ops.toList o) (run B n) (mapR (moOf B ns nt ops.toList) l) tm ds s) := h
    cases hw : wantedA (Option.rec none (gdOf ns ops.toList) o.guard) tm with
    | none => rw [hw] at h; exact h.elim
    | some b =>
      rw [hw] at h
      have hwant := wanted_run (ops := ops) hm hw
      unfold wpList
      rw [hwant]
      cases b with
      | false =>
        rw [if_neg (by decide)]
        replace h : OutQ P ns nt e s w Q (run B n (.ops (mapR (moOf B ns nt ops.toList) l) (put (md ns o.dst) und tm) ds s)) := h
        exact hO ns nt ops l _ ds s e w _ Q hr (hm.put und_R (fun d _ => .inr ⟨rfl, rfl⟩)) (by rw [put_size]; exact hsz) (by rw [put_defers]; exact hds) h
      | true =>
        rw [if_pos rfl]
        left
        replace h : OutQ P ns nt e s w Q (nextOps (opA (dstC nt (cmp ns o.op B) o.dst) tm s) (dstC nt (cmp ns o.op B) o.dst) (run B n) (mapR (moOf B ns nt ops.toList) l) (md ns o.dst) tm ds) := h
        have hne : dstC nt (cmp ns o.op B) o.dst ≠ .none := by intro hh; rw [hh] at h; exact h
        obtain ⟨hdc, hlt⟩ := dstC_inv rfl hne
        rw [hdc] at h
        have hput : ∀ d, o.dst = some d → d < a.tmps.size := fun d hd => by rw [hsz]; exact hlt d hd
        cases hx : opA (cmp ns o.op B) tm s with
        | val v s1 =>
          rw [hx] at h
          replace h : OutQ P ns nt e s w Q (run B n (.ops (mapR (moOf B ns nt ops.toList) l) (put (md ns o.dst) v tm) ds s1)) := h
          obtain ⟨e1, w1, nx, h1, h2, h3⟩ := op_run ht hr hm hx
          unfold Oper.wp
          rw [h1]
          have hrest : ∀ u, R e1 s1.next v u → wpList P ops Q l (a.put o.dst u) w1 := fun u hu =>
            hO ns nt ops l _ ds s1 e1 w1 _ Q h2.rep ((hm.ext h2.ext h2.nx).put hu (fun d hd => .inl (hput d hd))) (by rw [put_size]; exact hsz) (by rw [put_defers]; exact hds.ext h2.ext h2.nx) (h.step h2)
          rcases h3 with ⟨u, rfl, hu⟩ | ⟨rfl, rfl⟩
          · exact hrest u hu
          · exact hrest undef und_R
        | call f args s1 =>
          rw [hx] at h
          replace h : OutQ P ns nt e s w Q (Bool.rec (.bad [916]) (ret2 (run B n (.fn f args s1)) (run B n) (mapR (moOf B ns nt ops.toList) l) (md ns o.dst) tm ds) (callB (cmp ns o.op B))) := h
          cases hb : callB (cmp ns o.op B) with
          | false => rw [hb] at h; exact h.elim
          | true =>
            rw [hb] at h
            obtain ⟨g, as, hm2⟩ := callB_inv hb
            cases cmp_act hm2 rfl with
            | call c x hop hcal hm3 =>
              rw [hm2, hm3] at hx
              obtain ⟨rfl, vs, hvs, hexec⟩ := op_call (P := P) (w := w) hm hop hcal hx
              unfold Oper.wp
              rw [hexec]
              refine hF f args s e w vs hr hm.1 hvs ?_
              generalize run B n (.fn f args s) = r at h
              cases r with
              | ret v s2 =>
                exact fun e1 w1 u h1 hu => hO ns nt ops l _ ds s2 e1 w1 _ Q h1.rep ((hm.ext h1.ext h1.nx).put hu (fun d hd => .inl (hput d hd))) (by rw [put_size]; exact hsz) (by rw [put_defers]; exact hds.ext h1.ext h1.nx) (OutQ.step h1 h)
              | pan v tm2 ds2 s2 => exact fun e1 w1 u h1 hu => h e1 a w1 u h1 (hm.ext h1.ext h1.nx) hsz (hds.ext h1.ext h1.nx) hu
              | ok _ _ _ _ => exact h.elim
              | okR _ _ _ _ => exact h.elim
              | retR _ _ => exact h.elim
              | bad _ => exact h.elim
            | defer c x _ _ hm3 => cases hm3
            | panic x _ hm3 => cases hm3
            | recov c _ _ hm3 => cases hm3
        | defer f args s1 =>
          rw [hx] at h
          replace h : OutQ P ns nt e s w Q (Bool.rec (.bad [913]) (run B n (.ops (mapR (moOf B ns nt ops.toList) l) (put (md ns o.dst) und tm) ((f, args) :: ds) s1)) (Nat.beq (actB (cmp ns o.op B)) 2)) := h
          cases hb : Nat.beq (actB (cmp ns o.op B)) 2 with
          | false => rw [hb] at h; exact h.elim
          | true =>
            rw [hb] at h
            have ha : actM (cmp ns o.op B) = true := by cases hm2 : cmp ns o.op B <;> rw [hm2] at hb <;> first | rfl | cases hb
            cases cmp_act rfl ha with
            | defer c x hop hcal hm3 =>
              rw [hm3] at hx
              obtain ⟨rfl, x2, hexec, hrd⟩ := op_defer (P := P) (w := w) hm hop hcal (deferN_inv hx)
              unfold Oper.wp
              rw [hexec]
              show wpList P ops Q l (({ a with defers := x2 :: a.defers } : Act).put o.dst undef) w
              refine hO ns nt ops l _ _ s e w _ Q hr ?_ (by rw [put_size]; exact hsz) (by rw [put_defers]; exact ⟨x2, a.defers, rfl, hrd, hds⟩) h
              exact RTm.put (a := { a with defers := x2 :: a.defers }) hm und_R fun d hd => .inr ⟨rfl, rfl⟩
            | call c x _ _ hm3 => rw [hm3] at hb; cases hb
            | panic x _ hm3 => rw [hm3] at hb; cases hb
            | recov c _ _ hm3 => rw [hm3] at hb; cases hb
        | recov s1 => rw [hx] at h; exact h.elim
        | pan v s1 =>
          rw [hx] at h
          replace h : OutQ P ns nt e s w Q (Bool.rec (.bad [915]) (.pan v tm ds s1) (Nat.beq (actB (cmp ns o.op B)) 3)) := h
          cases hb : Nat.beq (actB (cmp ns o.op B)) 3 with
          | false => rw [hb] at h; exact h.elim
          | true =>
            rw [hb] at h
            have ha : actM (cmp ns o.op B) = true := by cases hm2 : cmp ns o.op B <;> rw [hm2] at hb <;> first | rfl | cases hb
            cases cmp_act rfl ha with
            | panic x hop hm3 =>
              rw [hm3] at hx
              obtain ⟨rfl, u, hexec, hu⟩ := op_panic (P := P) (w := w) hm hop hx
              unfold Oper.wp
              rw [hexec]
              exact h e a w u (Stp.refl hr) hm hsz hds hu
            | call c x _ _ hm3 => rw [hm3] at hb; cases hb
            | defer c x _ _ hm3 => rw [hm3] at hb; cases hb
            | recov c _ _ hm3 => rw [hm3] at hb; cases hb
        | bad m => rw [hx] at h; exact h.elim
end

section
variable {P : Program} {B : Tb} {e e' : En} {s s' : St} {w : World} {ns : NS} {nt : Nat} {tm tm' : Tm} {a : Act} {k : Nat} {ex : Ex} {Q : Exit → Act → World → Prop}

/-- What the run's end says of a drawn region's. -/
def OutD [FX] (ns : NS) (nt : Nat) (e : En) (s : St) (w : World) (a0 : Act) (Q : Exit → Act → World → Prop) : Out → Prop
  | .ok ex tm' [] s' => ∀ e' a' w', Stp e s w e' s' w' → RTm e' s'.next ns tm' a' → a'.tmps.size = nt → a'.defers = a0.defers → Q ex.out a' w'
  | .pan v tm' [] s' => ∀ e' a' w' u, Stp e s w e' s' w' → RTm e' s'.next ns tm' a' → a'.tmps.size = nt → a'.defers = a0.defers → R e' s'.next v u → Q (.panic [{ v := u, recovered := false }]) a' w'
  | _ => False
/-- What the run tells of a region that draws its order. -/
def DopsOk [FX] (P : Program) (B : Tb) (n : Nat) : Prop := ∀ (ns : NS) (nt id : Nat) (ops : Array Oper) (tm : Tm) (s : St) (e : En) (w : World) (a : Act) (Q : Exit → Act → World → Prop),
  Rep e s w → RTm e s.next ns tm a → a.tmps.size = nt → OutD ns nt e s w a Q (run B n (.dops (dosOf B ns nt ops) [] 0 s.next ⟨tm.g, .nil⟩ s)) → (Code.region id ops true).wp P Q a w
/-- What the run tells of code. -/
def CodeOk [FX] (P : Program) (B : Tb) (n : Nat) : Prop := ∀ (c : Code) (f : Nat) (tm : Tm) (ds : Ds) (s : St) (e : En) (w : World) (a : Act) (Q : Exit → Act → World → Prop),
  Rep e s w → RTm e s.next (nsOf B f) tm a → a.tmps.size = ntOf B f → RDs P e s.next ds a.defers → OutQ P (nsOf B f) (ntOf B f) e s w Q (run B n (.code c f tm ds s)) → c.wp P Q a w ∧ ∀ b, c = .loop b → Code.rounds P b Q n a w
theorem RTm.fresh (h : RTm e k ns tm a) : RTm e k ns ⟨tm.g, .nil⟩ a := ⟨h.1, fun t => by
  have h1 := h.2 t
  unfold mvT at *
  cases hd : ns.at_ t with
  | none => exact trivial
  | some u => rw [hd] at h1; exact h1⟩
theorem badIn_q [FX] {r : Out} {id : Nat} (h : OutQ P ns nt e s w Q (badIn r id)) : OutQ P ns nt e s w Q r := by
  cases r <;> exact h
theorem setDs_q [FX] {r : Out} {ds : Ds} (hds : RDs P e s.next ds a.defers) (h : OutQ P ns nt e s w Q (setDs r ds)) : OutD ns nt e s w a Q r := by
  cases r with
  | ok ex tm' ds' s' =>
    cases ds' with
    | nil => exact fun e' a' w' h1 h2 h3 h4 => h e' a' w' h1 h2 h3 (by rw [h4]; exact hds.ext h1.ext h1.nx)
    | cons d ds' => exact h.elim
  | pan v tm' ds' s' =>
    cases ds' with
    | nil => exact fun e' a' w' u h1 h2 h3 h4 h5 => h e' a' w' u h1 h2 h3 (by rw [h4]; exact hds.ext h1.ext h1.nx) h5
    | cons d ds' => exact h.elim
  | ret _ _ => exact h.elim
  | okR _ _ _ _ => exact h.elim
  | retR _ _ => exact h.elim
  | bad _ => exact h.elim
/-- What comes first, of a sequence or a loop's round. -/
theorem seqO_q [FX] {r : Out} {rn : Rn} {b : Code} {f : Nat} {N : Act → World → Prop} (h : OutQ P ns nt e s w Q (seqO r rn b f)) (hN : ∀ tm1 ds1 s1 e1 a1 w1, Stp e s w e1 s1 w1 → RTm e1 s1.next ns tm1 a1 → a1.tmps.size = nt → RDs P e1 s1.next ds1 a1.defers → OutQ P ns nt e1 s1 w1 Q (rn (.code b f tm1 ds1 s1)) → N a1 w1) : OutQ P ns nt e s w (Exit.then N Q) r := by
  cases r with
  | ok x tm ds s1 =>
    cases x with
    | normal => exact fun e1 a1 w1 h1 h2 h3 h4 => hN tm ds s1 e1 a1 w1 h1 h2 h3 h4 (OutQ.step h1 h)
    | exit i => exact h
    | goto l => exact h
    | ret => exact h
  | pan v tm ds s1 => exact h
  | ret _ _ => exact h
  | okR _ _ _ _ => exact h
  | retR _ _ => exact h
  | bad _ => exact h
theorem blockO_q [FX] {r : Out} {id : Nat} (h : OutQ P ns nt e s w Q (blockO r id)) : OutQ P ns nt e s w (Exit.inBlock id Q) r := by
  cases r with
  | ok x tm ds s1 =>
    cases x with
    | normal => exact h
    | exit i =>
      replace h : OutQ P ns nt e s w Q (Bool.rec (.ok (.exit i) tm ds s1) (.ok .normal tm ds s1) (Nat.beq i id)) := h
      intro e1 a1 w1 h1 h2 h3 h4
      show (if i = id then Q .normal a1 w1 else Q (.exit i) a1 w1)
      cases hb : Nat.beq i id with
      | true => rw [hb] at h; rw [if_pos (Nat.eq_of_beq_eq_true hb)]; exact h e1 a1 w1 h1 h2 h3 h4
      | false => rw [hb] at h; rw [if_neg (Nat.ne_of_beq_eq_false hb)]; exact h e1 a1 w1 h1 h2 h3 h4
    | goto l => exact h
    | ret => exact h
  | pan v tm ds s1 => exact h
  | ret _ _ => exact h
  | okR _ _ _ _ => exact h
  | retR _ _ => exact h
  | bad _ => exact h
theorem code_step [FX] {n : Nat} (hO : OpsOk P B n) (hD : DopsOk P B n) (hC : CodeOk P B n) : CodeOk P B (n + 1) := by
  intro c f tm ds s e w a Q hr hm hsz hds h
  cases c with
  | skip => exact ⟨wp_skip (h e a w (Stp.refl hr) hm hsz hds), fun b hb => (by cases hb)⟩
  | region id ops dr =>
    refine ⟨?_, fun b hb => (by cases hb)⟩
    cases dr with
    | false =>
      have h2 := badIn_q (show OutQ P (nsOf B f) (ntOf B f) e s w Q (badIn (run B n (.ops (mosOf B (nsOf B f) (ntOf B f) ops) ⟨tm.g, .nil⟩ ds s)) id) from h)
      exact wp_region_list (hO _ _ ops ops.toList _ ds s e w a Q hr hm.fresh hsz hds h2)
    | true =>
      have h2 := badIn_q (show OutQ P (nsOf B f) (ntOf B f) e s w Q (badIn (setDs (run B n (.dops (dosOf B (nsOf B f) (ntOf B f) ops) [] 0 s.next ⟨tm.g, .nil⟩ s)) ds) id) from h)
      exact hD _ _ id ops tm s e w a Q hr hm hsz (setDs_q hds h2)
  | seq x y =>
    refine ⟨wp_seq ?_, fun b hb => (by cases hb)⟩
    exact (hC x f tm ds s e w a _ hr hm hsz hds (seqO_q (show OutQ P (nsOf B f) (ntOf B f) e s w Q (seqO (run B n (.code x f tm ds s)) (run B n) y f) from h) fun tm1 ds1 s1 e1 a1 w1 h1 h2 h3 h4 h5 => (hC y f tm1 ds1 s1 e1 w1 a1 Q h1.rep h2 h3 h4 h5).1)).1
  | cond c x y =>
    refine ⟨?_, fun b hb => (by cases hb)⟩
    have hc := ev_R hm c
    replace h : OutQ P (nsOf B f) (ntOf B f) e s w Q (condO (ev (mv (nsOf B f) c) tm) (run B n) x y f tm ds s) := h
    cases hv : ev (mv (nsOf B f) c) tm <;> rw [hv] at h hc <;> first | exact h.elim | skip
    rename_i t
    have hc2 : a.eval c = .bool t := hc
    cases t with
    | true => exact wp_cond_true hc2 (hC x f tm ds s e w a Q hr hm hsz hds h).1
    | false => exact wp_cond_false hc2 (hC y f tm ds s e w a Q hr hm hsz hds h).1
  | block id c =>
    refine ⟨wp_block ?_, fun b hb => (by cases hb)⟩
    exact (hC c f tm ds s e w a _ hr hm hsz hds (blockO_q (show OutQ P (nsOf B f) (ntOf B f) e s w Q (blockO (run B n (.code c f tm ds s)) id) from h))).1
  | loop b =>
    have key : Code.rounds P b Q (n + 1) a w := by
      rw [rounds_succ]
      exact (hC b f tm ds s e w a _ hr hm hsz hds (seqO_q (show OutQ P (nsOf B f) (ntOf B f) e s w Q (seqO (run B n (.code b f tm ds s)) (run B n) (.loop b) f) from h) fun tm1 ds1 s1 e1 a1 w1 h1 h2 h3 h4 h5 => (hC (.loop b) f tm1 ds1 s1 e1 w1 a1 Q h1.rep h2 h3 h4 h5).2 b rfl)).1
    exact ⟨wp_loop_rounds (n + 1) key, fun b' hb => by cases hb; exact key⟩
  | rangeFunc g ps x y => exact h.elim
  | exit id => exact ⟨wp_exit (h e a w (Stp.refl hr) hm hsz hds), fun b hb => (by cases hb)⟩
  | scope c => exact h.elim
  | label l => exact ⟨wp_label (h e a w (Stp.refl hr) hm hsz hds), fun b hb => (by cases hb)⟩
  | goto l => exact h.elim
  | ret => exact ⟨wp_ret (h e a w (Stp.refl hr) hm hsz hds), fun b hb => (by cases hb)⟩
  | refuse m => exact h.elim
end

section
variable {P : Program} {B : Tb} {e e' : En} {s s' : St} {w : World} {ns : NS} {tm tm' : Tm} {a : Act} {k : Nat} {ex : Ex}

/-- What is told of some functions apart. -/
def ExtOk [FX] (P : Program) (B : Tb) : Prop := ∀ (f c : Nat) (args : List AV) (s s' : St) (v : AV) (e : En) (w : World) (vs : Array Value), B.ext.at_ f = some c → B.xf c args s = some (v, s') → Rep e s w → Gl e s.next → RL e s.next args vs.toList →
  ∀ {o : Oper} {a : Act} {K : Act → World → Prop} {Q : Exit → Act → World → Prop}, (∀ e' w' u, Stp e s w e' s' w' → R e' s'.next v u → K (a.put o.dst u) w') → o.upon P a K Q ((callFunc f vs).run P w)
theorem argsT_at : ∀ (l : List AV) (i : Nat) (tm : Tm) (t : Nat), (argsT l i tm).g.at_ t = if i ≤ t ∧ t < i + l.length then l[t - i]? else tm.g.at_ t
  | [], i, tm, t => by show tm.g.at_ t = _; rw [if_neg (by rintro ⟨h1, h2⟩; rw [List.length_nil] at h2; omega)]
  | b :: l, i, tm, t => by
    show (argsT l (i + 1) ⟨tm.g.set i b, tm.l⟩).g.at_ t = _
    rw [argsT_at l (i + 1)]
    show (if i + 1 ≤ t ∧ t < i + 1 + l.length then l[t - (i + 1)]? else (tm.g.set i b).at_ t) = _
    rw [T.at_set]
    by_cases h1 : i + 1 ≤ t ∧ t < i + 1 + l.length
    · rw [if_pos h1, if_pos (by simp; omega), show t - i = (t - (i + 1)) + 1 by omega]
      rfl
    · rw [if_neg h1]
      by_cases h2 : i = t
      · subst h2; rw [if_pos rfl, if_pos (by simp), Nat.sub_self]; rfl
      · rw [if_neg h2, if_neg (by simp; omega)]
theorem argsT_l : ∀ (l : List AV) (i : Nat) (tm : Tm), (argsT l i tm).l = tm.l
  | [], _, _ => rfl
  | b :: l, i, tm => argsT_l l (i + 1) ⟨tm.g.set i b, tm.l⟩
theorem args_RTm [FX] {args : List AV} {vs : Array Value} (hgl : Gl e k) (hl : RL e k args vs.toList) (m : Nat) : RTm e k ns (argsT args 0 ⟨.leaf, .nil⟩) { tmps := vs ++ Array.replicate m undef, defers := [] } := ⟨hgl, fun t => by
  unfold mvT
  cases hd : ns.at_ t with
  | none =>
    show R e k (getA (argsT args 0 ⟨.leaf, .nil⟩).l t) _
    rw [argsT_l]
    exact trivial
  | some u =>
    show R e k (orUnd ((argsT args 0 ⟨.leaf, .nil⟩).g.at_ t)) _
    rw [argsT_at]
    by_cases h : 0 ≤ t ∧ t < 0 + args.length
    · rw [if_pos h]
      obtain ⟨v, hv, hR⟩ := hl.at (i := t) (a := args[t]'(by omega)) (by rw [Nat.zero_add] at h; simp [h.2])
      rw [Nat.sub_zero, List.getElem?_eq_getElem (by omega)]
      have hlt : t < vs.size := by have := hl.len; simp at this; omega
      have h2 : (vs ++ Array.replicate m undef).getD t undef = v := by
        rw [Array.getElem?_toList] at hv
        rw [Array.getD_eq_getD_getElem?, Array.getElem?_append_left hlt, hv]
        rfl
      show R e k _ ((vs ++ Array.replicate m undef).getD t undef)
      rw [h2]
      exact hR
    · rw [if_neg h]
      exact trivial⟩
def resG (tmps : Array Value) : ResultVar → Sem Value
  | .tmp t => pure (tmps.getD t undef)
  | .cell x t => do loadVar t (← asAddr (tmps.getD x undef))
theorem results_eq (fn : Func) (tmps : Array Value) : results fn tmps = (do
    let vs ← fn.results.mapM (resG tmps)
    pure (if h : vs.size = 1 then vs[0] else .tuple vs)) := by
  unfold results
  congr 1
theorem res1_run [FX] (ht : TbOk P B) (hr : Rep e s w) (hm : RTm e s.next ns tm a) {r : ResultVar} {v : AV} (h : res1 r ns B tm s = some v) :
    ∃ u, (resG a.tmps r).run P w = .ok u w ∧ R e s.next v u := by
  cases r with
  | tmp t =>
    injection (show some (ev (mvT ns t) tm) = some v from h) with h1
    subst h1
    exact ⟨_, rfl, hm.2 t⟩
  | cell x t =>
    replace h : (Bool.rec none (valO (loadA (ev (mvT ns x) tm) (aggT B t) (sizeT B t) s)) (knownT B t) : Option AV) = some v := h
    cases hk : knownT B t with
    | false => rw [hk] at h; cases h
    | true =>
      rw [hk] at h
      replace h : valO (loadA (ev (mvT ns x) tm) (aggT B t) (sizeT B t) s) = some v := h
      cases hx : loadA (ev (mvT ns x) tm) (aggT B t) (sizeT B t) s <;> rw [hx] at h <;> first | (cases h; done) | skip
      rename_i v2 s2
      injection (show some v2 = some v from h) with h1
      subst h1
      obtain ⟨b, o, c, m, size, et, r, l, hp, _⟩ := loadA_inv hx
      obtain ⟨rfl, z, h2, h3⟩ := load_run ht hr hk (hm.2 x) hx
      refine ⟨z, ?_, h3⟩
      have hx2 := hm.2 x
      rw [hp] at hx2
      obtain ⟨_, hx3⟩ := hx2
      show (do loadVar t (← asAddr (a.tmps.getD x undef)) : Sem Value).run P w = .ok z w
      rw [hx3] at h2 ⊢
      simpa [Instr.loadAt, Instr.sureAddr, asAddr] using h2
theorem resL_run {g : ResultVar → Sem Value} (hg : ∀ r v, res1 r ns B tm s = some v → ∃ u, (g r).run P w = .ok u w ∧ R e k v u) : ∀ (l : List ResultVar) (avs : List AV), resL l ns B tm s = some avs → ∃ us, (l.mapM g).run P w = .ok us w ∧ RL e k avs us
  | [], avs, h => by
    injection (show some [] = some avs from h) with h1
    subst h1
    exact ⟨[], by rw [List.mapM_nil]; rfl, rfl⟩
  | r :: l, avs, h => by
    replace h : consO (res1 r ns B tm s) (resL l ns B tm s) = some avs := h
    cases h1 : res1 r ns B tm s with
    | none => rw [h1] at h; cases h
    | some v =>
      cases h2 : resL l ns B tm s with
      | none => rw [h1, h2] at h; cases h
      | some vs =>
        rw [h1, h2] at h
        injection (show some (v :: vs) = some avs from h) with h3
        subst h3
        obtain ⟨u, h4, h5⟩ := hg r v h1
        obtain ⟨us, h6, h7⟩ := resL_run hg l vs h2
        refine ⟨u :: us, ?_, u, us, rfl, h5, h7⟩
        rw [List.mapM_cons]
        simp [Sem.run_bind, h4, h6]
theorem results_run [FX] (ht : TbOk P B) (hr : Rep e s w) (hm : RTm e s.next ns tm a) {fn : Func} {v : AV} (h : resT (resL fn.results.toList ns B tm s) = some v) : ∃ u, (results fn a.tmps).run P w = .ok u w ∧ R e s.next v u := by
  cases hl : resL fn.results.toList ns B tm s with
  | none => rw [hl] at h; cases h
  | some avs =>
    rw [hl] at h
    obtain ⟨us, h1, h2⟩ := resL_run (P := P) (w := w) (e := e) (k := s.next) (fun r v hh => res1_run (P := P) ht hr hm hh) fn.results.toList avs hl
    have hrun : (results fn a.tmps).run P w = .ok (if h : us.toArray.size = 1 then us.toArray[0] else .tuple us.toArray) w := by
      rw [results_eq, Array.mapM_eq_mapM_toList]
      simp only [Sem.run_bind, map_eq_pure_bind, bind_assoc, pure_bind]
      rw [h1]
      rfl
    cases avs with
    | nil =>
      cases h
      rw [show us = [] from h2] at hrun
      exact ⟨_, hrun, #[], rfl, rfl⟩
    | cons x avs =>
      cases avs with
      | nil =>
        cases h
        obtain ⟨u, us', h3, h4, h5⟩ := h2
        rw [show us' = [] from h5] at h3
        subst h3
        exact ⟨u, hrun, h4⟩
      | cons y avs =>
        cases h
        have hlen := h2.len
        rw [dif_neg (by simp at hlen ⊢; omega)] at hrun
        exact ⟨_, hrun, us.toArray, rfl, by simpa using h2⟩
/-- What a frame is at when it leaves. -/
def MdR (e : En) (k : Nat) : Md → FrameMode → Prop
  | .ret, u => u = .returning
  | .pan v d, u => ∃ x, R e k v x ∧ u = .panicking [{ v := x, recovered := d }]
theorem MdR.ext {k' : Nat} {m : Md} {u : FrameMode} (hx : Ext k e e') (hk : k ≤ k') (h : MdR e k m u) : MdR e' k' m u := by
  cases m with
  | ret => exact h
  | pan v d =>
    obtain ⟨x, h1, h2⟩ := h
    exact ⟨x, h1.ext hx hk, h2⟩
theorem MdR.settle {m : Md} {u : FrameMode} (h : MdR e k m u) : MdR e k (settleM m) (settle u) := by
  cases m with
  | ret => cases h; rfl
  | pan v d =>
    obtain ⟨x, h1, rfl⟩ := h
    cases d with
    | false => exact ⟨x, h1, rfl⟩
    | true => rfl
theorem MdR.run {m : Md} {u : FrameMode} (h : MdR e k m u) : u ≠ .run := by
  cases m with
  | ret => cases h; (intro hh; cases hh)
  | pan v d => obtain ⟨x, _, rfl⟩ := h; (intro hh; cases hh)
/-- What the run's end says of a call's ending. -/
def EndQ [FX] (e : En) (s : St) (w : World) (Z : Ending → World → Prop) : Out → Prop
  | .ret v s' => ∀ e' w' x, Stp e s w e' s' w' → R e' s'.next v x → Z (.returned x) w'
  | .pan v _ _ s' => ∀ e' w' x, Stp e s w e' s' w' → R e' s'.next v x → Z (.panicked [{ v := x, recovered := false }]) w'
  | _ => False
theorem EndQ.step [FX] {e1 : En} {s1 : St} {w1 : World} {Z : Ending → World → Prop} {r : Out} (h : Stp e s w e1 s1 w1) (hq : EndQ e s w Z r) : EndQ e1 s1 w1 Z r := by
  cases r with
  | ret v s' => exact fun e' w' x h1 h2 => hq e' w' x (h.trans h1) h2
  | pan v tm ds s' => exact fun e' w' x h1 h2 => hq e' w' x (h.trans h1) h2
  | ok _ _ _ _ => exact hq
  | okR _ _ _ _ => exact hq
  | retR _ _ => exact hq
  | bad _ => exact hq
/-- What the run tells of leaving a function. -/
def LvOk [FX] (P : Program) (B : Tb) (n : Nat) : Prop := ∀ (f : Nat) (fn : Func) (tm : Tm) (ds : Ds) (m : Md) (s : St) (e : En) (w : World) (tmps : Array Value) (dl : List Deferred) (u : FrameMode) (Z : Ending → World → Prop), B.fn.at_ f = some fn →
  Rep e s w → RTm e s.next (nsOf B f) tm { tmps, defers := [] } → RDs P e s.next ds dl → MdR e s.next m u → EndQ e s w Z (run B n (.lv f tm ds m s)) → Leaves P fn tmps Z dl u w
/-- What the run's end says of a deferred function's. -/
def RetQ [FX] (e : En) (s : St) (w : World) (Z : Ending → FrameMode → World → Prop) : Out → Prop
  | .retR m s' => ∀ e' w' x u, Stp e s w e' s' w' → MdR e' s'.next m u → Z (.returned x) u w'
  | _ => False
def RfnOk [FX] (P : Program) (B : Tb) (n : Nat) : Prop := ∀ (f : Nat) (args : List AV) (m : Md) (s : St) (e : En) (w : World) (vs : Array Value) (u : FrameMode) (Z : Ending → FrameMode → World → Prop),
  Rep e s w → Gl e s.next → RL e s.next args vs.toList → MdR e s.next m u → RetQ e s w Z (run B n (.rfn f args m s)) → (callFunc f vs).run P w = .ok (.enter f vs) w ∧ CallsD P f vs u w Z
theorem ret1_q [FX] (ht : TbOk P B) {f : Nat} {fn : Func} {Z : Ending → World → Prop} (hr : Rep e s w) (hm : RTm e s.next (nsOf B f) tm a) (h : EndQ e s w Z (ret1 f fn B tm s)) : ∃ v, (results fn a.tmps).run P w = .ok v w ∧ Z (.returned v) w := by
  unfold ret1 at h
  cases ho : resT (resL fn.results.toList (nsOf B f) B tm s) with
  | none => rw [ho] at h; exact h.elim
  | some v =>
    rw [ho] at h
    obtain ⟨u, h1, h2⟩ := results_run (P := P) ht hr hm ho
    exact ⟨u, h1, h e w u (Stp.refl hr) h2⟩
theorem lv_step [FX] (ht : TbOk P B) {n : Nat} (hL : LvOk P B n) (hR : RfnOk P B n) : LvOk P B (n + 1) := by
  intro f fn tm ds m s e w tmps dl u Z hf hr hm hds hmd h
  cases ds with
  | nil =>
    rw [show dl = [] from hds]
    replace h : EndQ e s w Z (endO (B.fn.at_ f) m f B tm s) := h
    rw [hf] at h
    cases m with
    | ret =>
      cases hmd
      exact ret1_q ht hr hm h
    | pan v d =>
      cases d with
      | true => exact h.elim
      | false =>
        obtain ⟨x, hx, rfl⟩ := hmd
        exact h e w x (Stp.refl hr) hx
  | cons d ds =>
    obtain ⟨x, xs, rfl, ⟨fv, cap, vs, htar, hvs, hinv⟩, hxs⟩ := hds
    replace h : EndQ e s w Z (nextLv (run B n (.rfn d.1 d.2 m s)) f tm ds (run B n)) := h
    have key := hR d.1 d.2 m s e w vs u (fun
        | .returned _, u', w' => Leaves P fn tmps Z xs (settle u') w'
        | .panicked chain, u', w' => Leaves P fn tmps Z xs (raised u' chain) w'
        | .outgrown, _, w' => Z .outgrown w') hr hm.1 hvs hmd (by
      cases hrun : run B n (.rfn d.1 d.2 m s) with
      | retR m2 s2 =>
        rw [hrun] at h
        intro e1 w1 x1 u1 h1 h2
        exact hL f fn tm ds (settleM m2) s2 e1 w1 tmps xs (settle u1) Z hf h1.rep (hm.ext h1.ext h1.nx) (hxs.ext h1.ext h1.nx) h2.settle (EndQ.step h1 h)
      | ok _ _ _ _ => rw [hrun] at h; exact h.elim
      | ret _ _ => rw [hrun] at h; exact h.elim
      | pan _ _ _ _ => rw [hrun] at h; exact h.elim
      | okR _ _ _ _ => rw [hrun] at h; exact h.elim
      | bad _ => rw [hrun] at h; exact h.elim)
    obtain ⟨xt, xa⟩ := x
    simp only at htar hinv
    subst htar
    exact leaves_cons hmd.run ((hinv w).trans key.1) key.2
theorem callFunc_body (ht : TbOk P B) {f : Nat} {fn : Func} {c : Code} (hf : B.fn.at_ f = some fn) (hb : fn.body = some c) (vs : Array Value) (w : World) : P.funcs[f]? = some fn ∧ (callFunc f vs).run P w = .ok (.enter f vs) w := by
  obtain ⟨hfn, hname⟩ := ht.fn f fn hf
  refine ⟨hfn, ?_⟩
  have hname2 : ¬fn.name = "runtime.NumGoroutine" := by simpa using hname
  unfold callFunc
  simp [hfn, hname2, hb]
theorem enter_size {f : Nat} {fn : Func} (hf : B.fn.at_ f = some fn) {args : List AV} {vs : Array Value} (hl : RL e k args vs.toList) (hle : args.length ≤ fn.ntmps) : (vs ++ Array.replicate (fn.ntmps - vs.size) undef).size = ntOf B f := by
  have : ntOf B f = fn.ntmps := by unfold ntOf; rw [hf]
  have hsz : vs.size = args.length := by have := hl.len; simpa using this
  rw [this, Array.size_append, Array.size_replicate]
  omega
theorem body_calls [FX] (ht : TbOk P B) {n : Nat} (hC : CodeOk P B n) (hL : LvOk P B n) {f : Nat} {args : List AV} {vs : Array Value} {Z : Ending → World → Prop} (hr : Rep e s w) (hgl : Gl e s.next) (hl : RL e s.next args vs.toList) (h : EndQ e s w Z (fnO (B.fn.at_ f) B (run B n) f args s)) :
    (callFunc f vs).run P w = .ok (.enter f vs) w ∧ Calls P f vs w Z := by
  cases hf : B.fn.at_ f with
  | none => rw [hf] at h; exact h.elim
  | some fn =>
    rw [hf] at h
    replace h : EndQ e s w Z (bodyO fn.body fn B (run B n) f args s) := h
    cases hb : fn.body with
    | none => rw [hb] at h; exact h.elim
    | some c =>
      rw [hb] at h
      replace h : EndQ e s w Z (Bool.rec (.bad [f, 918]) (leaveFn (run B n (.code c f (argsT args 0 ⟨.leaf, .nil⟩) [] s)) f fn B (run B n)) (Nat.ble (lenR args) fn.ntmps)) := h
      cases hle : Nat.ble (lenR args) fn.ntmps with
      | false => rw [hle] at h; exact h.elim
      | true =>
        rw [hle] at h
        replace hle := Nat.le_of_ble_eq_true hle
        rw [lenR_eq] at hle
        obtain ⟨hfn, hcall⟩ := callFunc_body ht hf hb vs w
        refine ⟨hcall, calls_of_wp_defers hfn hb ?_⟩
        refine (hC c f _ [] s e w _ _ hr (args_RTm hgl hl _) (enter_size hf hl hle) rfl ?_).1
        replace h : EndQ e s w Z (leaveFn (run B n (.code c f (argsT args 0 ⟨.leaf, .nil⟩) [] s)) f fn B (run B n)) := h
        generalize run B n (.code c f (argsT args 0 ⟨.leaf, .nil⟩) [] s) = r at h
        cases r with
        | ok x tm ds s1 =>
          replace h : EndQ e s w Z (Bool.rec (.bad [f, 917]) (leaveN f fn B (run B n) tm s1 ds) (endE x)) := h
          cases hx : endE x with
          | false => rw [hx] at h; exact h.elim
          | true =>
            rw [hx] at h
            replace h : EndQ e s w Z (leaveN f fn B (run B n) tm s1 ds) := h
            intro e1 a1 w1 h1 h2 h3 h4
            have h5 : Leaves P fn a1.tmps Z a1.defers .returning w1 := by
              cases ds with
              | nil =>
                rw [show a1.defers = [] from h4]
                exact ret1_q ht h1.rep h2 (EndQ.step h1 h)
              | cons d ds => exact hL f fn tm (d :: ds) .ret s1 e1 w1 a1.tmps a1.defers .returning Z hf h1.rep h2 h4 rfl (EndQ.step h1 h)
            cases x <;> first | exact h5 | cases hx
        | pan v tm ds s1 =>
          replace h : EndQ e s w Z (leaveP f (run B n) v tm s1 ds) := h
          intro e1 a1 w1 u h1 h2 h3 h4 h5
          show Leaves P fn a1.tmps Z a1.defers (.panicking [{ v := u, recovered := false }]) w1
          cases ds with
          | nil =>
            rw [show a1.defers = [] from h4]
            exact h e1 w1 u h1 h5
          | cons d ds => exact hL f fn tm (d :: ds) (.pan v false) s1 e1 w1 a1.tmps a1.defers _ Z hf h1.rep h2 h4 ⟨u, h5, rfl⟩ (EndQ.step h1 h)
        | ret _ _ => exact h.elim
        | okR _ _ _ _ => exact h.elim
        | retR _ _ => exact h.elim
        | bad _ => exact h.elim
theorem fn_step [FX] (ht : TbOk P B) (hX : ExtOk P B) {n : Nat} (hC : CodeOk P B n) (hL : LvOk P B n) : FnOk P B (n + 1) := by
  intro f args s e w vs hr hgl hl o a K Q h
  have plain : FnQ e s w o a K Q (fnO (B.fn.at_ f) B (run B n) f args s) → o.upon P a K Q ((callFunc f vs).run P w) := fun h => by
    have hz : EndQ e s w (fun
        | .returned v, w'' => K (a.put o.dst v) w''
        | .panicked chain, w'' => Q (.panic chain) a w''
        | .outgrown, _ => LetsOut Q) (fnO (B.fn.at_ f) B (run B n) f args s) := by
      cases hrun : fnO (B.fn.at_ f) B (run B n) f args s <;> rw [hrun] at h <;> exact h
    obtain ⟨hcall, hZ⟩ := body_calls ht hC hL hr hgl hl hz
    rw [hcall, Oper.upon_enter]
    exact hZ
  replace h : FnQ e s w o a K Q (callO (B.ext.at_ f) B (run B n) f args s) := h
  cases hx : B.ext.at_ f with
  | none => rw [hx] at h; exact plain h
  | some c =>
    rw [hx] at h
    replace h : FnQ e s w o a K Q (extO (B.xf c args s) B (run B n) f args s) := h
    cases hp : B.xf c args s with
    | none => rw [hp] at h; exact plain h
    | some p =>
      rw [hp] at h
      exact hX f c args s p.2 p.1 e w vs hx hp hr hgl hl h
end

section
variable {P : Program} {B : Tb} {e e' : En} {s s' : St} {w : World} {ns : NS} {nt : Nat} {tm tm' : Tm} {a : Act} {k : Nat} {ex : Ex} {c₀ : Frame} {cs : List Frame} {Q : Exit → Act → List Frame → World → Prop}

/-- What the run's end says of a deferred function's code. -/
def OutS [FX] (ns : NS) (nt : Nat) (e : En) (s : St) (w : World) (c₀ : Frame) (cs : List Frame) (Q : Exit → Act → List Frame → World → Prop) : Out → Prop
  | .okR ex tm' m' s' => ∀ e' a' w' u', Stp e s w e' s' w' → RTm e' s'.next ns tm' a' → a'.tmps.size = nt → a'.defers = [] → MdR e' s'.next m' u' → Q ex.out a' ({ c₀ with mode := u' } :: cs) w'
  | _ => False
theorem OutS.step [FX] {e1 : En} {s1 : St} {w1 : World} {r : Out} (h : Stp e s w e1 s1 w1) (hq : OutS ns nt e s w c₀ cs Q r) : OutS ns nt e1 s1 w1 c₀ cs Q r := by
  cases r with
  | okR ex tm' m' s' => exact fun e' a' w' u' h1 => hq e' a' w' u' (h.trans h1)
  | ok _ _ _ _ => exact hq
  | ret _ _ => exact hq
  | pan _ _ _ _ => exact hq
  | retR _ _ => exact hq
  | bad _ => exact hq
def RopsOk [FX] (P : Program) (B : Tb) (n : Nat) : Prop := ∀ (ns : NS) (nt : Nat) (ops : Array Oper) (l : List Oper) (i : Nat) (tm : Tm) (m : Md) (s : St) (e : En) (w : World) (a : Act) (c₀ : Frame) (cs : List Frame) (u : FrameMode) (Q : Exit → Act → List Frame → World → Prop),
  ops.toList.drop i = l → Rep e s w → RTm e s.next ns tm a → a.tmps.size = nt → a.defers = [] → MdR e s.next m u → OutS ns nt e s w c₀ cs Q (run B n (.rops (mapR (moOf B ns nt ops.toList) l) tm m s)) →
  wpOpsS P ops Q (List.range' i l.length) a ({ c₀ with mode := u } :: cs) w
def RcodeOk [FX] (P : Program) (B : Tb) (n : Nat) : Prop := ∀ (c : Code) (f : Nat) (tm : Tm) (m : Md) (s : St) (e : En) (w : World) (a : Act) (c₀ : Frame) (cs : List Frame) (u : FrameMode) (Q : Exit → Act → List Frame → World → Prop),
  Rep e s w → RTm e s.next (nsOf B f) tm a → a.tmps.size = ntOf B f → a.defers = [] → MdR e s.next m u → OutS (nsOf B f) (ntOf B f) e s w c₀ cs Q (run B n (.rcode c f tm m s)) → c.wpS P Q a ({ c₀ with mode := u } :: cs) w
/-- A recover. -/
theorem recM_R {m : Md} {u : FrameMode} (h : MdR e k m u) : (∃ x u', recoverD ({ c₀ with mode := u } :: cs) = some (x, { c₀ with mode := u' } :: cs) ∧ R e k (recM m).1 x ∧ MdR e k (recM m).2 u') ∨ (recoverD ({ c₀ with mode := u } :: cs) = none ∧ R e k (recM m).1 .nilIface ∧ MdR e k (recM m).2 u) := by
  cases m with
  | ret => cases h; exact .inr ⟨rfl, rfl, rfl⟩
  | pan v d =>
    obtain ⟨x, hx, rfl⟩ := h
    cases d with
    | false => exact .inl ⟨x, .panicking [{ v := x, recovered := true }], rfl, hx, x, hx, rfl⟩
    | true => exact .inr ⟨rfl, rfl, x, hx, rfl⟩
theorem rops_step [FX] (ht : TbOk P B) {n : Nat} (hO : RopsOk P B n) (hF : FnOk P B n) : RopsOk P B (n + 1) := by
  intro ns nt ops l i tm m s e w a c₀ cs u Q hl hr hm hsz hds hmd h
  cases l with
  | nil => exact h e a w u (Stp.refl hr) hm hsz hds hmd
  | cons o l =>
    have hlt : i < ops.size := by
      rcases Nat.lt_or_ge i ops.size with h1 | h1
      · exact h1
      · rw [List.drop_eq_nil_of_le (by simpa using h1)] at hl; cases hl
    have ho : ops[i]? = some o := by
      have h1 : (ops.toList.drop i)[0]? = some o := by rw [hl]; rfl
      rw [List.getElem?_drop] at h1
      simpa using h1
    have hl2 : ops.toList.drop (i + 1) = l := by
      have h1 := congrArg (List.drop 1) hl
      rw [List.drop_drop] at h1
      exact h1
    rw [List.length_cons, List.range'_succ]
    replace h : OutS ns nt e s w c₀ cs Q (goR (wantedA (Option.rec none (gdOf ns ops.toList) o.guard) tm) (moOf B ns nt ops.toList o) (run B n) (mapR (moOf B ns nt ops.toList) l) tm m s) := h
    cases hw : wantedA (Option.rec none (gdOf ns ops.toList) o.guard) tm with
    | none => rw [hw] at h; exact h.elim
    | some b =>
      rw [hw] at h
      have hwant := wanted_run (ops := ops) hm hw
      simp only [wpOpsS, ho, hwant]
      cases b with
      | false =>
        rw [if_neg (by decide)]
        replace h : OutS ns nt e s w c₀ cs Q (run B n (.rops (mapR (moOf B ns nt ops.toList) l) (put (md ns o.dst) und tm) m s)) := h
        exact hO ns nt ops l (i + 1) _ m s e w _ c₀ cs u Q hl2 hr (hm.put und_R (fun d _ => .inr ⟨rfl, rfl⟩)) (by rw [put_size]; exact hsz) (by rw [put_defers]; exact hds) hmd h
      | true =>
        rw [if_pos rfl]
        replace h : OutS ns nt e s w c₀ cs Q (nextR (opA (dstC nt (cmp ns o.op B) o.dst) tm s) (dstC nt (cmp ns o.op B) o.dst) (run B n) (mapR (moOf B ns nt ops.toList) l) (md ns o.dst) tm m) := h
        have hne : dstC nt (cmp ns o.op B) o.dst ≠ .none := by intro hh; rw [hh] at h; exact h
        obtain ⟨hdc, hlt2⟩ := dstC_inv rfl hne
        rw [hdc] at h
        have hput : ∀ d, o.dst = some d → d < a.tmps.size := fun d hd => by rw [hsz]; exact hlt2 d hd
        cases hx : opA (cmp ns o.op B) tm s with
        | val v s1 =>
          rw [hx] at h
          replace h : OutS ns nt e s w c₀ cs Q (run B n (.rops (mapR (moOf B ns nt ops.toList) l) (put (md ns o.dst) v tm) m s1)) := h
          obtain ⟨e1, w1, nx, h1, h2, h3⟩ := op_run ht hr hm hx
          rw [h1]
          have hrest : ∀ x, R e1 s1.next v x → wpOpsS P ops Q (List.range' (i + 1) l.length) (a.put o.dst x) ({ c₀ with mode := u } :: cs) w1 := fun x hx =>
            hO ns nt ops l (i + 1) _ m s1 e1 w1 _ c₀ cs u Q hl2 h2.rep ((hm.ext h2.ext h2.nx).put hx (fun d hd => .inl (hput d hd))) (by rw [put_size]; exact hsz) (by rw [put_defers]; exact hds) (hmd.ext h2.ext h2.nx) (h.step h2)
          rcases h3 with ⟨x, rfl, hu⟩ | ⟨rfl, rfl⟩
          · exact hrest x hu
          · exact hrest undef und_R
        | call f args s1 =>
          rw [hx] at h
          replace h : OutS ns nt e s w c₀ cs Q (Bool.rec (.bad [916]) (retR2 (run B n (.fn f args s1)) (run B n) (mapR (moOf B ns nt ops.toList) l) (md ns o.dst) tm m) (callB (cmp ns o.op B))) := h
          cases hb : callB (cmp ns o.op B) with
          | false => rw [hb] at h; exact h.elim
          | true =>
            rw [hb] at h
            obtain ⟨g, as, hm2⟩ := callB_inv hb
            cases cmp_act hm2 rfl with
            | call c x hop hcal hm3 =>
              rw [hm2, hm3] at hx
              obtain ⟨rfl, vs, hvs, hexec⟩ := op_call (P := P) (w := w) hm hop hcal hx
              rw [hexec]
              have hup : o.upon P a (fun a' w' => wpOpsS P ops Q (List.range' (i + 1) l.length) a' ({ c₀ with mode := u } :: cs) w') (fun e a' w' => Q e a' ({ c₀ with mode := u } :: cs) w') ((callFunc f vs).run P w) := by
                refine hF f args s e w vs hr hm.1 hvs ?_
                replace h : OutS ns nt e s w c₀ cs Q (retR2 (run B n (.fn f args s)) (run B n) (mapR (moOf B ns nt ops.toList) l) (md ns o.dst) tm m) := h
                generalize run B n (.fn f args s) = r at h
                cases r with
                | ret v s2 =>
                  exact fun e1 w1 x h1 hu => hO ns nt ops l (i + 1) _ m s2 e1 w1 _ c₀ cs u Q hl2 h1.rep ((hm.ext h1.ext h1.nx).put hu (fun d hd => .inl (hput d hd))) (by rw [put_size]; exact hsz) (by rw [put_defers]; exact hds) (hmd.ext h1.ext h1.nx) (OutS.step h1 h)
                | pan _ _ _ _ => exact h.elim
                | ok _ _ _ _ => exact h.elim
                | okR _ _ _ _ => exact h.elim
                | retR _ _ => exact h.elim
                | bad _ => exact h.elim
              generalize (callFunc f vs).run P w = r2 at hup
              cases r2 with
              | ok nx w2 => cases nx <;> first | exact hup.elim | exact hup
              | halt x w2 => exact hup
            | defer c x _ _ hm3 => cases hm3
            | panic x _ hm3 => cases hm3
            | recov c _ _ hm3 => cases hm3
        | recov s1 =>
          rw [hx] at h
          replace h : OutS ns nt e s w c₀ cs Q (Bool.rec (.bad [914]) (run B n (.rops (mapR (moOf B ns nt ops.toList) l) (put (md ns o.dst) (recM m).1 tm) (recM m).2 s1)) (Nat.beq (actB (cmp ns o.op B)) 4)) := h
          cases hb : Nat.beq (actB (cmp ns o.op B)) 4 with
          | false => rw [hb] at h; exact h.elim
          | true =>
            rw [hb] at h
            have ha : actM (cmp ns o.op B) = true := by cases hm2 : cmp ns o.op B <;> rw [hm2] at hb <;> first | rfl | cases hb
            cases cmp_act rfl ha with
            | recov c hop hcal hm3 =>
              rw [hm3] at hx
              injection (show Nx.recov s = .recov s1 from hx) with hx
              subst hx
              have hexec : (execOp a.eval o).run P w = .ok .recover w := by
                unfold execOp
                rw [hop]
                simp [resolve, hcal, invoke, builtin]
              rw [hexec]
              rcases recM_R (c₀ := c₀) (cs := cs) hmd with ⟨x, u', h1, h2, h3⟩ | ⟨h1, h2, h3⟩
              · simp only [h1]
                exact hO ns nt ops l (i + 1) _ _ s e w _ c₀ cs u' Q hl2 hr (hm.put h2 (fun d hd => .inl (hput d hd))) (by rw [put_size]; exact hsz) (by rw [put_defers]; exact hds) h3 h
              · simp only [h1]
                exact hO ns nt ops l (i + 1) _ _ s e w _ c₀ cs u Q hl2 hr (hm.put h2 (fun d hd => .inl (hput d hd))) (by rw [put_size]; exact hsz) (by rw [put_defers]; exact hds) h3 h
            | call c x _ _ hm3 => rw [hm3] at hb; cases hb
            | defer c x _ _ hm3 => rw [hm3] at hb; cases hb
            | panic x _ hm3 => rw [hm3] at hb; cases hb
        | defer f args s1 => rw [hx] at h; exact h.elim
        | pan v s1 => rw [hx] at h; exact h.elim
        | bad m => rw [hx] at h; exact h.elim
theorem seqR_q [FX] {r : Out} {rn : Rn} {b : Code} {f : Nat} {N : Act → List Frame → World → Prop} (h : OutS ns nt e s w c₀ cs Q (seqR r rn b f)) (hN : ∀ tm1 m1 s1 e1 a1 w1 u1, Stp e s w e1 s1 w1 → RTm e1 s1.next ns tm1 a1 → a1.tmps.size = nt → a1.defers = [] → MdR e1 s1.next m1 u1 → OutS ns nt e1 s1 w1 c₀ cs Q (rn (.rcode b f tm1 m1 s1)) → N a1 ({ c₀ with mode := u1 } :: cs) w1) : OutS ns nt e s w c₀ cs (Exit.thenS N Q) r := by
  cases r with
  | okR x tm m s1 =>
    cases x with
    | normal => exact fun e1 a1 w1 u1 h1 h2 h3 h4 h5 => hN tm m s1 e1 a1 w1 u1 h1 h2 h3 h4 h5 (OutS.step h1 h)
    | exit i => exact h
    | goto l => exact h
    | ret => exact h
  | ok _ _ _ _ => exact h
  | pan _ _ _ _ => exact h
  | ret _ _ => exact h
  | retR _ _ => exact h
  | bad _ => exact h
theorem fromOk_q [FX] {r : Out} {m : Md} {u : FrameMode} (hmd : MdR e s.next m u) (h : OutS ns nt e s w c₀ cs Q (fromOk r m)) : OutQ P ns nt e s w (fun ex a' w' => Q ex a' ({ c₀ with mode := u } :: cs) w') r := by
  cases r with
  | ok x tm ds s1 =>
    cases ds with
    | nil => exact fun e1 a1 w1 h1 h2 h3 h4 => h e1 a1 w1 u h1 h2 h3 h4 (hmd.ext h1.ext h1.nx)
    | cons d ds => exact h.elim
  | okR _ _ _ _ => exact h.elim
  | pan _ _ _ _ => exact h.elim
  | ret _ _ => exact h.elim
  | retR _ _ => exact h.elim
  | bad _ => exact h.elim
theorem rcode_step [FX] {n : Nat} (hO : RopsOk P B n) (hC : CodeOk P B n) (hR : RcodeOk P B n) : RcodeOk P B (n + 1) := by
  intro c f tm m s e w a c₀ cs u Q hr hm hsz hds hmd h
  have plain : ∀ c, OutS (nsOf B f) (ntOf B f) e s w c₀ cs Q (fromOk (run B n (.code c f tm [] s)) m) → c.wpS P Q a ({ c₀ with mode := u } :: cs) w := fun c h =>
    wpS_of_wp (hC c f tm [] s e w a _ hr hm hsz (show a.defers = [] from hds) (fromOk_q hmd h)).1
  cases c with
  | skip => exact plain _ h
  | region id ops dr =>
    cases dr with
    | true => exact plain _ h
    | false =>
      replace h : OutS (nsOf B f) (ntOf B f) e s w c₀ cs Q (badIn (run B n (.rops (mosOf B (nsOf B f) (ntOf B f) ops) ⟨tm.g, .nil⟩ m s)) id) := h
      have h2 : OutS (nsOf B f) (ntOf B f) e s w c₀ cs Q (run B n (.rops (mosOf B (nsOf B f) (ntOf B f) ops) ⟨tm.g, .nil⟩ m s)) := by
        cases hrun : run B n (.rops (mosOf B (nsOf B f) (ntOf B f) ops) ⟨tm.g, .nil⟩ m s) <;> rw [hrun] at h <;> exact h
      refine wpS_region ?_
      have := hO (nsOf B f) (ntOf B f) ops ops.toList 0 _ m s e w a c₀ cs u Q rfl hr hm.fresh hsz hds hmd h2
      rw [List.range_eq_range', ← Array.length_toList]
      exact this
  | seq x y =>
    refine wpS_seq (hR x f tm m s e w a c₀ cs u _ hr hm hsz hds hmd (seqR_q (show OutS (nsOf B f) (ntOf B f) e s w c₀ cs Q (seqR (run B n (.rcode x f tm m s)) (run B n) y f) from h) fun tm1 m1 s1 e1 a1 w1 u1 h1 h2 h3 h4 h5 h6 => ?_))
    exact hR y f tm1 m1 s1 e1 w1 a1 c₀ cs u1 Q h1.rep h2 h3 h4 h5 h6
  | cond c x y =>
    have hc := ev_R hm c
    replace h : OutS (nsOf B f) (ntOf B f) e s w c₀ cs Q (condR (ev (mv (nsOf B f) c) tm) (run B n) x y f tm m s) := h
    cases hv : ev (mv (nsOf B f) c) tm <;> rw [hv] at h hc <;> first | exact h.elim | skip
    rename_i t
    have hc2 : a.eval c = .bool t := hc
    refine wpS_cond hc2 ?_
    cases t with
    | true => exact hR x f tm m s e w a c₀ cs u Q hr hm hsz hds hmd h
    | false => exact hR y f tm m s e w a c₀ cs u Q hr hm hsz hds hmd h
  | block id c => exact plain _ h
  | loop b => exact plain _ h
  | rangeFunc g ps x y => exact h.elim
  | exit id => exact plain _ h
  | scope c => exact h.elim
  | label l => exact h.elim
  | goto l => exact h.elim
  | ret => exact plain _ h
  | refuse m => exact h.elim
theorem rfn_step [FX] (ht : TbOk P B) {n : Nat} (hR : RcodeOk P B n) : RfnOk P B (n + 1) := by
  intro f args m s e w vs u Z hr hgl hl hmd h
  replace h : RetQ e s w Z (callR (B.ext.at_ f) B (run B n) f args m s) := h
  cases hx : B.ext.at_ f with
  | some c => rw [hx] at h; exact h.elim
  | none =>
    rw [hx] at h
    replace h : RetQ e s w Z (fnR (B.fn.at_ f) B (run B n) f args m s) := h
    cases hf : B.fn.at_ f with
    | none => rw [hf] at h; exact h.elim
    | some fn =>
      rw [hf] at h
      replace h : RetQ e s w Z (bodyR fn.body fn B (run B n) f args m s) := h
      cases hb : fn.body with
      | none => rw [hb] at h; exact h.elim
      | some c =>
        rw [hb] at h
        replace h : RetQ e s w Z (Bool.rec (.bad [f, 918]) (leaveR (run B n (.rcode c f (argsT args 0 ⟨.leaf, .nil⟩) m s)) f fn B) (Nat.ble (lenR args) fn.ntmps)) := h
        cases hle : Nat.ble (lenR args) fn.ntmps with
        | false => rw [hle] at h; exact h.elim
        | true =>
          rw [hle] at h
          replace hle := Nat.le_of_ble_eq_true hle
          rw [lenR_eq] at hle
          replace h : RetQ e s w Z (leaveR (run B n (.rcode c f (argsT args 0 ⟨.leaf, .nil⟩) m s)) f fn B) := h
          obtain ⟨hfn, hcall⟩ := callFunc_body ht hf hb vs w
          refine ⟨hcall, callsD_of_wpS hfn hb fun c₀ cs hu => ?_⟩
          have hc0 : ({ c₀ with mode := u } : Frame) = c₀ := by subst hu; rfl
          have key := hR c f (argsT args 0 ⟨.leaf, .nil⟩) m s e w { tmps := vs ++ Array.replicate (fn.ntmps - vs.size) undef, defers := [] } c₀ cs u (bodyPostS P fn c₀ cs Z) hr (args_RTm hgl hl _) (enter_size hf hl hle) rfl hmd (by
            generalize run B n (.rcode c f (argsT args 0 ⟨.leaf, .nil⟩) m s) = r at h
            cases r with
            | okR x tm m1 s1 =>
              replace h : RetQ e s w Z (Bool.rec (.bad [f, 933]) (.retR m1 s1) (and (endE x) (resB (resT (resL fn.results.toList (nsOf B f) B tm s1))))) := h
              cases hx2 : endE x with
              | false => rw [hx2] at h; exact h.elim
              | true =>
                cases hres : resT (resL fn.results.toList (nsOf B f) B tm s1) with
                | none => rw [hx2, hres] at h; exact h.elim
                | some v =>
                  rw [hx2, hres] at h
                  intro e1 a1 w1 u1 h1 h2 h3 h4 h5
                  obtain ⟨y, h6, h7⟩ := results_run (P := P) ht h1.rep h2 hres
                  have h8 : bodyPostS P fn c₀ cs Z .normal a1 ({ c₀ with mode := u1 } :: cs) w1 := ⟨h4, u1, rfl, y, h6, h e1 w1 y u1 h1 h5⟩
                  cases x <;> first | exact h8 | cases hx2
            | ok _ _ _ _ => exact h.elim
            | pan _ _ _ _ => exact h.elim
            | ret _ _ => exact h.elim
            | retR _ _ => exact h.elim
            | bad _ => exact h.elim)
          rw [hc0] at key
          exact key
end
end Go.Proofs.YtiibijhldlillaaGreat.Eng
