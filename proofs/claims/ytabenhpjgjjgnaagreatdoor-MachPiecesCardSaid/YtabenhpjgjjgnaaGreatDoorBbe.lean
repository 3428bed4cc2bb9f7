/- What an instruction leaves is such as a machine may be. A machine's function goes back, with its word. A machine stores a word into a word of a frame, as a closure. A machine pushes the address of a word of a frame, as a closure. Condition: what lies in memory can lie there; what each theorem says. -/
import Derived.Test.YtabenhpjgjjgnaaGreatDoorBay
import Derived.Test.YtabenhpjgjjgnaaGreatDoorBbd
import Derived.Test.YtabenhpjgjjgnaaGreatDoorBaw
import Derived.Test.YtabenhpjgjjgnaaGreatDoorBax
import Derived.Test.YtabenhpjgjjgnaaGreatDoorBav
import Derived.LoopN
/- What an instruction leaves is such as a machine may be. -/
namespace Go.Proofs.YtabenhpjgjjgnaaGreatDoor
open Go.RowKit
structure Inv (K : MK) (b : Int) (S : St) : Prop where
 sok : SOk K S
 ord0 : 0 ≤ S.ord
 ord1 : S.ord ≤ K.order.length
 nxt0 : 0 ≤ S.next
 nxt1 : S.next ≤ 65535
 dep0 : -b ≤ S.depth
 dep1 : S.depth ≤ b
 out : (S.out.length : Int) ≤ K.most
 hp : HOk K.high K.hn S.last S.blocks
structure Keep (K : MK) (S S' : St) : Prop where
 sok : SOk K S'
 ord : S'.ord = S.ord
 nxt : S'.next = S.next
 dep : S'.depth = S.depth
 out : S'.out = S.out
 last : S'.last = S.last
 blk : S'.blocks = S.blocks
 ste : S'.steps = S.steps
 kin : S'.kind = S.kind
structure Res (K : MK) (b : Int) (S S' : St) : Prop where
 inv : Inv K b S'
 ext : S.out <+: S'.out
 ste : S'.steps = S.steps
 kin : S'.kind = S.kind ∨ S'.kind = 1
section
variable {K : MK} {b : Int} {S : St}
theorem Inv.mono {c : Int} (i : Inv K b S) (h : b ≤ c) : Inv K c S := ⟨i.sok, i.ord0, i.ord1, i.nxt0, i.nxt1, by have := i.dep0; omega, by have := i.dep1; omega, i.out, i.hp⟩
theorem keep_refl (s : SOk K S) : Keep K S S := ⟨s, rfl, rfl, rfl, rfl, rfl, rfl, rfl, rfl⟩
theorem Keep.trans {A B C : St} (p : Keep K A B) (q : Keep K B C) : Keep K A C :=
 ⟨q.sok, q.ord.trans p.ord, q.nxt.trans p.nxt, q.dep.trans p.dep, q.out.trans p.out, q.last.trans p.last, q.blk.trans p.blk, q.ste.trans p.ste, q.kin.trans p.kin⟩
theorem Keep.inv {S' : St} (q : Keep K S S') (i : Inv K b S) : Inv K b S' :=
 ⟨q.sok, by rw [q.ord]; exact i.ord0, by rw [q.ord]; exact i.ord1, by rw [q.nxt]; exact i.nxt0, by rw [q.nxt]; exact i.nxt1, by rw [q.dep]; exact i.dep0, by rw [q.dep]; exact i.dep1, by rw [q.out]; exact i.out, by rw [q.last, q.blk]; exact i.hp⟩
theorem Keep.res {S' : St} (q : Keep K S S') (i : Inv K b S) : Res K b S S' := ⟨q.inv i, by rw [q.out]; exact List.prefix_refl _, q.ste, .inl q.kin⟩
theorem Res.trans {A B C : St} {c : Int} (p : Res K b A B) (q : Res K c B C) : Res K c A C :=
 ⟨q.inv, p.ext.trans q.ext, q.ste.trans p.ste, by
  rcases q.kin with h | h
  ·rw [h]; exact p.kin
  ·exact .inr h⟩
theorem Res.mono {S' : St} {c : Int} (q : Res K b S S') (h : b ≤ c) : Res K c S S' := ⟨q.inv.mono h, q.ext, q.ste, q.kin⟩
theorem Keep.on {A B C : St} {c : Int} (p : Keep K A B) (i : Inv K b A) (q : Inv K b B → Res K c B C) : Res K c A C := (p.res i).trans (q (p.inv i))
theorem keep_pops (s : SOk K S) (n : Nat) : Keep K S (popsM K n S).1 := by
 refine ⟨popsM_ok s n, ?_, ?_, ?_, ?_, ?_, ?_, ?_, ?_⟩
 all_goals
  unfold popsM
  split <;> rfl
theorem keep_push (k : KOk K) (s : SOk K S) (x : Nat) : Keep K S (pushM K x S).1 := by
 refine ⟨pushM_ok k s x, ?_, ?_, ?_, ?_, ?_, ?_, ?_, ?_⟩
 all_goals
  unfold pushM
  split <;> rfl
theorem keep_ws (s : SOk K S) (ws : Nat → Nat) : Keep K S { S with ws := ws } := ⟨⟨⟨s.mod0, s.mod1, s.proc0, s.proc1⟩, s.fp1, s.sp0, s.sp1, s.top⟩, rfl, rfl, rfl, rfl, rfl, rfl, rfl, rfl⟩
theorem keep_inp (s : SOk K S) (l : List UInt8) : Keep K S { S with inp := l } := ⟨⟨⟨s.mod0, s.mod1, s.proc0, s.proc1⟩, s.fp1, s.sp0, s.sp1, s.top⟩, rfl, rfl, rfl, rfl, rfl, rfl, rfl, rfl⟩
theorem keep_dec (s : SOk K S) (ar : List Int) : Keep K S { S with args := ar } := ⟨⟨⟨s.mod0, s.mod1, s.proc0, s.proc1⟩, s.fp1, s.sp0, s.sp1, s.top⟩, rfl, rfl, rfl, rfl, rfl, rfl, rfl, rfl⟩
theorem keep_address (k : KOk K) (s : SOk K S) (n : Int) : Keep K S (addressM K n S).1 := by
 unfold addressM
 split
 ·exact keep_refl s
 ·exact keep_push k s _
theorem keep_loads (k : KOk K) (s : SOk K S) (n : Int) : Keep K S (loadsM K n S).1 := by
 unfold loadsM
 split
 ·exact keep_push k s _
 ·exact keep_refl s
theorem keep_stores (s : SOk K S) (n : Int) : Keep K S (storesM K n S).1 := by
 unfold storesM
 have q := keep_pops s 1
 generalize popsM K 1 S = r at q ⊢
 unfold storesR
 split
 ·exact q
 ·exact q.trans (keep_ws q.sok _)
theorem keep_local (doF : Int → St → St × Nat) (hd : ∀ n, Keep K S (doF n S).1) (s : SOk K S) : Keep K S (localM K doF S).1 := by
 unfold localM
 split
 ·exact keep_refl s
 ·split
  ·exact keep_refl s
  ·exact hd _
theorem keep_global (doF : Int → St → St × Nat) (hd : ∀ n, Keep K S (doF n S).1) (s : SOk K S) : Keep K S (globalM K doF S).1 := by
 unfold globalM globalR
 split
 ·exact keep_refl s
 ·split
  ·exact keep_refl s
  ·exact hd _
theorem keep_li (k : KOk K) (s : SOk K S) : Keep K S (liM K S).1 := by
 unfold liM
 have q := keep_pops s 1
 generalize popsM K 1 S = r at q ⊢
 unfold liR
 split
 ·exact q
 ·exact q.trans (keep_loads k q.sok _)
theorem keep_si (s : SOk K S) : Keep K S (siM K S).1 := by
 unfold siM
 have q := keep_pops s 2
 generalize popsM K 2 S = r at q ⊢
 unfold siR
 split
 ·exact q
 ·exact q.trans (keep_ws q.sok _)
theorem keep_add (k : KOk K) (s : SOk K S) : Keep K S (addM K S).1 := by
 unfold addM
 have q := keep_pops s 1
 generalize popsM K 1 S = r at q ⊢
 unfold addR
 split
 ·exact q
 ·exact q.trans (keep_address k q.sok _)
theorem keep_ptr (k : KOk K) (s : SOk K S) : Keep K S (ptrM K S).1 := by
 unfold ptrM
 have q := keep_pops s 1
 generalize popsM K 1 S = r at q ⊢
 unfold ptrR ptrP
 split
 ·exact q
 ·split
  ·exact q
  ·exact q.trans (keep_address k q.sok _)
theorem keep_ix (k : KOk K) (s : SOk K S) : Keep K S (ixM K S).1 := by
 unfold ixM
 have q := keep_pops s 2
 generalize popsM K 2 S = r at q ⊢
 unfold ixR ixL
 split
 ·exact q
 ·split
  ·exact q.trans (keep_address k q.sok _)
  ·exact q
theorem keep_ixop (k : KOk K) (s : SOk K S) : Keep K S (ixopM K S).1 := by
 unfold ixopM
 have q := keep_pops s 3
 generalize popsM K 3 S = r at q ⊢
 unfold ixopR ixopL
 split
 ·exact q
 ·split
  ·exact q
  ·exact q.trans (keep_address k q.sok _)
theorem keep_ranges (k : KOk K) (s : SOk K S) : Keep K S (rangesM K S).1 := by
 unfold rangesM
 have q := keep_pops s 1
 generalize popsM K 1 S = r at q ⊢
 unfold rangesR
 split
 ·exact q
 ·split
  ·exact q.trans (keep_push k q.sok _)
  ·exact q
theorem keep_conv (k : KOk K) (s : SOk K S) : Keep K S (convM K S).1 := by
 unfold convM
 have q := keep_pops s 1
 generalize popsM K 1 S = r at q ⊢
 unfold convR
 split
 ·exact q
 ·split
  ·exact q
  ·exact q.trans (keep_push k q.sok _)
theorem keep_op (k : KOk K) (s : SOk K S) (n j : Nat) : Keep K S (opM K n j S).1 := by
 unfold opM
 have q := keep_pops s j
 generalize popsM K j S = r at q ⊢
 unfold opR
 split
 ·exact q
 ·split
  ·exact q
  ·exact q.trans (keep_push k q.sok _)
theorem keep_all (k : KOk K) : ∀ (l : List Nat) {S : St}, SOk K S → Keep K S (pushAll K l S).1
 | [], _, s => keep_refl s
 | x :: l, S, s => by
   unfold pushAll
   split
   ·exact keep_push k s x
   ·exact (keep_push k s x).trans (keep_all k l (pushM_ok k s x))
theorem keep_turns (k : KOk K) (s : SOk K S) (n : Nat) (l : List Nat) : Keep K S (turnsM K n l S).1 := by
 unfold turnsM
 have q := keep_pops s n
 generalize popsM K n S = r at q ⊢
 unfold turnsR
 split
 ·exact q
 ·exact q.trans (keep_all k _ q.sok)
theorem keep_number (k : KOk K) (s : SOk K S) : Keep K S (numberM K S).1 := by
 unfold numberM numberR
 split
 ·exact keep_refl s
 ·split
  ·exact keep_address k s _
  ·exact keep_refl s
theorem keep_moves (s : SOk K S) : Keep K S (movesM K S).1 := by
 unfold movesM
 have q := keep_pops s 2
 generalize popsM K 2 S = r at q ⊢
 unfold movesR
 split
 ·exact q
 ·exact q.trans (keep_ws q.sok _)
theorem keep_read (k : KOk K) (s : SOk K S) : Keep K S (readM K S).1 := by
 unfold readM
 exact (keep_inp s _).trans (keep_push k (keep_inp s _).sok _)
theorem Inv.next (i : Inv K b S) {x : Int} (h0 : 0 ≤ x) (h1 : x ≤ 65535) : Inv K b { S with next := x } :=
 ⟨⟨⟨i.sok.mod0, i.sok.mod1, i.sok.proc0, i.sok.proc1⟩, i.sok.fp1, i.sok.sp0, i.sok.sp1, i.sok.top⟩, i.ord0, i.ord1, h0, h1, i.dep0, i.dep1, i.out, i.hp⟩
theorem res_goes (k : KOk K) (i : Inv K b S) (far : Int) : Res K b S (goesM K far S).1 := by
 unfold goesM
 split
 ·exact (keep_refl i.sok).res i
 ·rename_i h
  have hc := code_le k i.sok
  have e : codeLen K S = (modOf K S).code.length := rfl
  exact ⟨i.next (by omega) (by omega), List.prefix_refl _, rfl, .inl rfl⟩
theorem res_jumps (k : KOk K) (i : Inv K b S) (z : Bool) : Res K b S (jumpsM K z S).1 := by
 unfold jumpsM
 have q := keep_pops i.sok 1
 generalize popsM K 1 S = r at q ⊢
 unfold jumpsR
 split
 ·exact q.res i
 ·split
  ·exact q.res i
  ·exact q.on i fun j => res_goes k j _
theorem res_keeps (k : KOk K) (i : Inv K b S) (z : Bool) : Res K b S (keepsM K z S).1 := by
 unfold keepsM
 have q := keep_pops i.sok 1
 generalize popsM K 1 S = r at q ⊢
 unfold keepsR
 split
 ·exact q.res i
 ·split
  ·exact q.res i
  ·exact (q.trans (keep_push k q.sok _)).on i fun j => res_goes k j _
theorem res_cases (k : KOk K) (i : Inv K b S) : Res K b S (casesM K S).1 := by
 unfold casesM
 have q := keep_pops i.sok 1
 generalize popsM K 1 S = r at q ⊢
 unfold casesR
 split
 ·exact q.res i
 ·exact q.on i fun j => res_goes k j _
theorem res_writes (i : Inv K b S) (s : List UInt8) : Res K b S (writesM K s S).1 := by
 unfold writesM writeM
 split
 ·exact (keep_refl i.sok).res i
 ·rename_i h
  refine ⟨⟨⟨⟨i.sok.mod0, i.sok.mod1, i.sok.proc0, i.sok.proc1⟩, i.sok.fp1, i.sok.sp0, i.sok.sp1, i.sok.top⟩, i.ord0, i.ord1, i.nxt0, i.nxt1, i.dep0, i.dep1, ?_, i.hp⟩, List.prefix_append _ _, rfl, .inl rfl⟩
  simp only [List.length_append]
  omega
theorem res_texts (i : Inv K b S) (z : Bool) : Res K b S (textsM K z S).1 := by
 unfold textsM
 have q := keep_pops i.sok 1
 generalize popsM K 1 S = r at q ⊢
 unfold textsR
 split
 ·exact q.res i
 ·exact q.on i fun j => res_writes j _
theorem res_putc (i : Inv K b S) : Res K b S (putcM K S).1 := by
 unfold putcM
 have q := keep_pops i.sok 1
 generalize popsM K 1 S = r at q ⊢
 unfold putcR
 split
 ·exact q.res i
 ·exact q.on i fun j => res_writes j _
theorem res_wrs (i : Inv K b S) : Res K b S (wrsM K S).1 := by
 unfold wrsM
 have q := keep_pops i.sok 2
 generalize popsM K 2 S = r at q ⊢
 unfold wrsR
 split
 ·exact q.res i
 ·generalize wrsL K.n r.1.ws (r.2.1.getD 1 0 + 1) (r.2.1.getD 0 0) = o
  cases o with
  | none => exact q.res i
  | some s => exact q.on i fun j => res_writes j _
theorem res_make (k : KOk K) (i : Inv K b S) : Res K b S (makeM K S).1 := by
 unfold makeM
 have q := keep_pops i.sok 1
 generalize popsM K 1 S = r at q ⊢
 unfold makeR
 split
 ·exact q.res i
 ·refine q.on i fun j => ?_
  unfold makeL
  split
  ·exact (keep_refl j.sok).res j
  ·split
   ·exact (keep_refl j.sok).res j
   ·split
    ·exact (keep_refl j.sok).res j
    ·split
     ·exact (keep_refl j.sok).res j
     ·rename_i h1 h2 h3
      exact ⟨⟨⟨⟨j.sok.mod0, j.sok.mod1, j.sok.proc0, j.sok.proc1⟩, j.sok.fp1, j.sok.sp0, j.sok.sp1, j.sok.top⟩, j.ord0, j.ord1, j.nxt0, j.nxt1, j.dep0, j.dep1, j.out, j.hp.make k.hn0 (by omega) (by simpa using h2) (by omega)⟩, List.prefix_refl _, rfl, .inl rfl⟩
theorem res_free (i : Inv K b S) : Res K b S (freeM K S).1 := by
 unfold freeM
 have q := keep_pops i.sok 1
 generalize popsM K 1 S = r at q ⊢
 unfold freeR
 split
 ·exact q.res i
 ·refine q.on i fun j => ?_
  unfold freeL
  split
  ·exact (keep_refl j.sok).res j
  ·split
   ·exact (keep_refl j.sok).res j
   ·exact ⟨⟨⟨⟨j.sok.mod0, j.sok.mod1, j.sok.proc0, j.sok.proc1⟩, j.sok.fp1, j.sok.sp0, j.sok.sp1, j.sok.top⟩, j.ord0, j.ord1, j.nxt0, j.nxt1, j.dep0, j.dep1, j.out, j.hp.free _⟩, List.prefix_refl _, rfl, .inl rfl⟩
theorem base_ge {p : ProcL} (h1 : 0 ≤ p.params) (h2 : 0 ≤ p.locals) : 5 ≤ baseN p := by unfold baseN; omega
theorem res_enter (k : KOk K) (i : Inv K b S) {m p : Int} (x : Int) (hm0 : 0 ≤ m) (hm1 : m < K.mods.length) (hp0 : 0 ≤ p) (hp1 : p < (K.mods.getD m.toNat default).procs.length) : Res K (b + 1) S (enterM K m p x S).1 := by
 have hb : b ≤ b + 1 := by omega
 unfold enterM
 split
 ·exact ((keep_refl i.sok).res i).mono hb
 ·split
  ·exact ((keep_refl i.sok).res i).mono hb
  ·rename_i h1 h2
   have hpm : procOf K m p ∈ (K.mods.getD m.toNat default).procs := getD_mem' _ _ _ (by omega)
   have hmm : K.mods.getD m.toNat default ∈ K.mods := getD_mem' _ _ _ (by omega)
   obtain ⟨⟨q0, q1⟩, ⟨q2, q3⟩, ⟨q4, q5⟩, ⟨q6, q7⟩, _⟩ := procOk k hmm hpm
   obtain ⟨_, ⟨u2, u3⟩, ⟨u4, u5⟩, _⟩ := hereOk k i.sok.toROk
   have hf := base_ge u2 u4
   have f1 := i.sok.fp1
   unfold floorN at h1
   refine ⟨⟨⟨⟨hm0, hm1, hp0, hp1⟩, ?_, ?_, ?_, ?_⟩, i.ord0, i.ord1, q0, q1, ?_, ?_, i.out, i.hp⟩, List.prefix_refl _, rfl, .inl rfl⟩
   ·show K.low ≤ enterAt K m p S; omega
   ·exact Int.le_refl _
   ·show enterAt K m p S + baseN (procOf K m p) ≤ enterAt K m p S + baseN (procOf K m p) + (procOf K m p).depth; omega
   ·show enterAt K m p S + baseN (procOf K m p) + (procOf K m p).depth ≤ K.high; omega
   ·show -(b + 1) ≤ S.depth + 1; have := i.dep0; omega
   ·show S.depth + 1 ≤ b + 1; have := i.dep1; omega
theorem res_begins (k : KOk K) (i : Inv K b S) (hb0 : 0 ≤ b) : Res K (b + 1) S (beginsM K S).1 := by
 have hb : b ≤ b + 1 := by omega
 unfold beginsM
 split
 ·exact ⟨⟨⟨⟨i.sok.mod0, i.sok.mod1, i.sok.proc0, i.sok.proc1⟩, i.sok.fp1, i.sok.sp0, i.sok.sp1, i.sok.top⟩, i.ord0, i.ord1, i.nxt0, i.nxt1, by simp only; omega, by simp only; omega, i.out, i.hp⟩, List.prefix_refl _, rfl, .inr rfl⟩
 ·split
  ·exact ((keep_refl i.sok).res i).mono hb
  ·rename_i h1 h2
   have o0 := i.ord0
   have o1 := i.ord1
   obtain ⟨⟨g0, g1⟩, g2, g3, g4⟩ := nextOk k o0 (by omega)
   obtain ⟨⟨q0, q1⟩, _, _, ⟨q6, q7⟩, _⟩ := procOk k g3 g4
   refine ⟨⟨⟨⟨g0, g1, Int.le_refl _, ?_⟩, Int.le_refl _, Int.le_refl _, ?_, ?_⟩, ?_, ?_, q0, q1, ?_, ?_, i.out, i.hp⟩, List.prefix_refl _, rfl, .inl rfl⟩
   ·show (0 : Int) < ((K.mods.getD (nextMod K S).toNat default).procs.length : Int); omega
   ·show K.low + baseN (nextP K S) ≤ K.low + baseN (nextP K S) + (nextP K S).depth; omega
   ·show K.low + baseN (nextP K S) + (nextP K S).depth ≤ K.high; omega
   ·show 0 ≤ S.ord + 1; omega
   ·show S.ord + 1 ≤ K.order.length; omega
   ·show -(b + 1) ≤ 0 + 1; omega
   ·show 0 + 1 ≤ b + 1; omega
theorem res_leave (k : KOk K) (i : Inv K b S) (hb0 : 0 ≤ b) (is : Bool) : Res K (b + 1) S (leaveM K is S).1 := by
 have hb : b ≤ b + 1 := by omega
 have r0 := ((keep_refl i.sok).res i).mono hb
 have B : Res K (b + 1) S (beginsM K S).1 := res_begins k i hb0
 unfold leaveM
 split
 ·exact r0
 ·unfold leaveL
  split
  ·exact B
  ·split
   ·exact r0
   ·split
    ·exact r0
    ·split
     ·exact r0
     ·split
      ·exact r0
      ·split
       ·exact r0
       ·split
        ·exact r0
        ·split
         ·exact r0
         ·split
          ·exact r0
          ·split
           ·exact r0
           ·rename_i h1 h2 h3 h4 h5 h6 h7 h8 h9
            have hm : K.mods.getD (S.ws (S.fp.toNat - 1 + 2)) default ∈ K.mods := getD_mem' _ _ _ (by omega)
            have hc : (K.mods.getD (S.ws (S.fp.toNat - 1 + 2)) default).code.length ≤ 65535 := by
             have h := k.may
             unfold checkB at h
             simp only [Bool.and_eq_true] at h
             have h1 := List.all_eq_true.1 h.1.1.2 _ hm
             unfold modB headB at h1
             simp only [Bool.and_eq_true, Bool.not_eq_true', decide_eq_false_iff_not] at h1
             omega
            have hd0 := i.dep0
            have hd1 := i.dep1
            refine ⟨⟨⟨⟨?_, ?_, ?_, ?_⟩, ?_, ?_, ?_, ?_⟩, i.ord0, i.ord1, ?_, ?_, ?_, ?_, i.out, i.hp⟩, List.prefix_refl _, rfl, .inl rfl⟩
            ·show (0 : Int) ≤ ((S.ws (S.fp.toNat - 1 + 2) : Nat) : Int); omega
            ·show ((S.ws (S.fp.toNat - 1 + 2) : Nat) : Int) < K.mods.length; omega
            ·show (0 : Int) ≤ ((S.ws (S.fp.toNat - 1 + 4) : Nat) : Int); omega
            ·show ((S.ws (S.fp.toNat - 1 + 4) : Nat) : Int) < ((K.mods.getD ((S.ws (S.fp.toNat - 1 + 2) : Nat) : Int).toNat default).procs.length : Int)
             rw [Int.toNat_natCast]; omega
            ·show K.low ≤ ((S.ws (S.fp.toNat - 1 + 1) : Nat) : Int); omega
            ·show ((S.ws (S.fp.toNat - 1 + 1) : Nat) : Int) + baseN (procOf K (S.ws (S.fp.toNat - 1 + 2) : Nat) (S.ws (S.fp.toNat - 1 + 4) : Nat)) ≤ S.fp; omega
            ·show S.fp ≤ ((S.ws (S.fp.toNat - 1 + 1) : Nat) : Int) + baseN (procOf K (S.ws (S.fp.toNat - 1 + 2) : Nat) (S.ws (S.fp.toNat - 1 + 4) : Nat)) + (procOf K (S.ws (S.fp.toNat - 1 + 2) : Nat) (S.ws (S.fp.toNat - 1 + 4) : Nat)).depth; omega
            ·show ((S.ws (S.fp.toNat - 1 + 1) : Nat) : Int) + baseN (procOf K (S.ws (S.fp.toNat - 1 + 2) : Nat) (S.ws (S.fp.toNat - 1 + 4) : Nat)) + (procOf K (S.ws (S.fp.toNat - 1 + 2) : Nat) (S.ws (S.fp.toNat - 1 + 4) : Nat)).depth ≤ K.high; omega
            ·show (0 : Int) ≤ ((S.ws (S.fp.toNat - 1 + 3) : Nat) : Int); omega
            ·show ((S.ws (S.fp.toNat - 1 + 3) : Nat) : Int) ≤ 65535; omega
            ·show -(b + 1) ≤ S.depth - 1; omega
            ·show S.depth - 1 ≤ b + 1; omega
theorem res_retf (k : KOk K) (i : Inv K b S) (hb0 : 0 ≤ b) : Res K (b + 1) S (retfM K S).1 := by
 have hb : b ≤ b + 1 := by omega
 unfold retfM
 have q := keep_pops i.sok 1
 generalize popsM K 1 S = r at q ⊢
 unfold retfR
 split
 ·exact (q.res i).mono hb
 ·refine q.on i fun j => ?_
  have B := res_leave k j hb0 true
  unfold retfL
  split
  ·exact B
  ·exact B.trans ((keep_push k B.inv.sok _).res B.inv)
theorem res_callf (k : KOk K) (i : Inv K b S) (x : Nat) : ∀ (n j : Nat), j + n = K.mods.length → Res K (b + 1) S (callfL K x S n j).1
 | 0, _, _ => ((keep_refl i.sok).res i).mono (by omega)
 | n + 1, j, h => by
   have r0 := ((keep_refl i.sok).res i).mono (show b ≤ b + 1 by omega)
   unfold callfL
   split
   ·exact res_callf k i x n (j + 1) (by omega)
   ·split
    ·exact res_callf k i x n (j + 1) (by omega)
    ·split
     ·exact r0
     ·split
      ·exact r0
      ·exact res_enter k i 0 (by omega) (by omega) (by omega) (by rw [Int.toNat_natCast]; omega)
theorem res_callfM (k : KOk K) (i : Inv K b S) : Res K (b + 1) S (callfM K S).1 := by
 unfold callfM
 have q := keep_pops i.sok 1
 generalize popsM K 1 S = r at q ⊢
 unfold callfR
 split
 ·exact (q.res i).mono (by omega)
 ·split
  ·exact (q.res i).mono (by omega)
  ·exact q.on i fun j => res_callf k j _ _ 0 (by omega)
theorem res_call (k : KOk K) (i : Inv K b S) (h1 : 0 ≤ S.args.getD 1 0) : Res K (b + 1) S (callM K S).1 := by
 have r0 := ((keep_refl i.sok).res i).mono (show b ≤ b + 1 by omega)
 unfold callM
 split
 ·exact r0
 ·rename_i hp
  have e : modOf K S = K.mods.getD S.mod.toNat default := rfl
  rw [e] at hp
  split
  ·exact r0
  ·split
   ·split
    ·exact r0
    ·exact res_enter k i _ i.sok.mod0 i.sok.mod1 h1 (by omega)
   ·exact res_enter k i _ i.sok.mod0 i.sok.mod1 h1 (by omega)
theorem res_callx (k : KOk K) (i : Inv K b S) (h0 : 0 ≤ S.args.getD 0 0) (h1 : 0 ≤ S.args.getD 1 0) : Res K (b + 1) S (callxM K S).1 := by
 have r0 := ((keep_refl i.sok).res i).mono (show b ≤ b + 1 by omega)
 have hm := module_in K k S i.sok.toROk h0
 unfold callxM
 generalize moduleM K S = r at hm ⊢
 unfold callxR
 split
 ·exact r0
 ·rename_i ht
  obtain ⟨m0, m1⟩ := hm (by simpa using ht)
  split
  ·exact r0
  ·split
   ·exact r0
   ·exact res_enter k i _ m0 m1 h1 (by omega)
end
theorem K16.DecOk.w {s : List UInt8} {op : Nat} {ar : List Int} {nx : Int} (d : K16.DecOk s op ar nx) (h60 : op ≠ 60) {c : UInt8} {l : List UInt8} (h : K16.formL op = c :: l) : 0 < ar.length ∧ (c ≠ 74 → 0 ≤ ar.getD 0 0) := by
 have e := d.len h60
 have h0 := d.form 0 (by rw [h]; simp)
 rw [h] at e h0
 simp only [List.length_cons] at e
 refine ⟨by omega, fun hc => ?_⟩
 simp only [List.getD_cons_zero] at h0
 unfold K16.inK K16.lowK at h0
 rw [if_neg hc] at h0
 simp only [Bool.and_eq_true, decide_eq_true_eq] at h0
 exact h0.1
theorem K16.DecOk.bw {s : List UInt8} {op : Nat} {ar : List Int} {nx : Int} (d : K16.DecOk s op ar nx) (h60 : op ≠ 60) (h : K16.formL op = [66, 87]) : 1 < ar.length ∧ 0 ≤ ar.getD 0 0 ∧ 0 ≤ ar.getD 1 0 := by
 have e := d.len h60
 have h1 := d.form 1 (by rw [h]; simp)
 have h0 := (d.w h60 h).2 (by decide)
 rw [h] at e h1
 simp only [List.length_cons, List.length_nil] at e
 refine ⟨by omega, h0, ?_⟩
 simp only [List.getD_cons_succ, List.getD_cons_zero] at h1
 unfold K16.inK K16.lowK at h1
 rw [if_neg (by decide)] at h1
 simp only [Bool.and_eq_true, decide_eq_true_eq] at h1
 exact h1.1
theorem res_doA {K : MK} {b : Int} (k : KOk K) (hb0 : 0 ≤ b) {S : St} (i : Inv K b S) {s : List UInt8} {op : Nat} {nx : Int} (d : K16.DecOk s op S.args nx) : Res K (b + 1) S (doA K op S).1 := by
 have hb : b ≤ b + 1 := by omega
 have kp : ∀ {S'}, Keep K S S' → Res K (b + 1) S S' := fun q => (q.res i).mono hb
 have ht0 := d.there
 by_cases ht : takesN op ≠ 0
 ·unfold doA
  rw [if_pos ht]
  exact kp (keep_op k i.sok _ _)
 have h40 : 40 ≤ op ∧ op ≤ 81 := by
  unfold K16.thereB at ht0
  simp only [Bool.or_eq_true, Bool.and_eq_true, decide_eq_true_eq] at ht0
  rcases ht0 with h | h
  ·exfalso; apply ht; unfold takesN; rw [if_neg (by omega)]; split <;> simp
  ·exact h
 clear ht ht0
 have hc : op = 40 ∨ op = 41 ∨ op = 42 ∨ op = 43 ∨ op = 44 ∨ op = 45 ∨ op = 46 ∨ op = 47 ∨ op = 48 ∨ op = 49 ∨ op = 50 ∨ op = 51 ∨ op = 52 ∨ op = 53 ∨ op = 54 ∨ op = 55 ∨ op = 56 ∨ op = 57 ∨ op = 58 ∨ op = 59 ∨ op = 60 ∨ op = 61 ∨ op = 62 ∨ op = 63 ∨ op = 64 ∨ op = 65 ∨ op = 66 ∨ op = 67 ∨ op = 68 ∨ op = 69 ∨ op = 70 ∨ op = 71 ∨ op = 72 ∨ op = 73 ∨ op = 74 ∨ op = 75 ∨ op = 76 ∨ op = 77 ∨ op = 78 ∨ op = 79 ∨ op = 80 ∨ op = 81 := by omega
 rcases hc with rfl | rfl | rfl | rfl | rfl | rfl | rfl | rfl | rfl | rfl | rfl | rfl | rfl | rfl | rfl | rfl | rfl | rfl | rfl | rfl | rfl | rfl | rfl | rfl | rfl | rfl | rfl | rfl | rfl | rfl | rfl | rfl | rfl | rfl | rfl | rfl | rfl | rfl | rfl | rfl | rfl | rfl
 ·show Res K (b + 1) S (litM K S).1
  exact kp (keep_push k i.sok _)
 ·show Res K (b + 1) S (globalM K (loadsM K) S).1
  exact kp (keep_global _ (fun n => keep_loads k i.sok n) i.sok)
 ·show Res K (b + 1) S (globalM K (storesM K) S).1
  exact kp (keep_global _ (fun n => keep_stores i.sok n) i.sok)
 ·show Res K (b + 1) S (globalM K (addressM K) S).1
  exact kp (keep_global _ (fun n => keep_address k i.sok n) i.sok)
 ·show Res K (b + 1) S (localM K (loadsM K) S).1
  exact kp (keep_local _ (fun n => keep_loads k i.sok n) i.sok)
 ·show Res K (b + 1) S (localM K (storesM K) S).1
  exact kp (keep_local _ (fun n => keep_stores i.sok n) i.sok)
 ·show Res K (b + 1) S (localM K (addressM K) S).1
  exact kp (keep_local _ (fun n => keep_address k i.sok n) i.sok)
 ·show Res K (b + 1) S (liM K S).1
  exact kp (keep_li k i.sok)
 ·show Res K (b + 1) S (siM K S).1
  exact kp (keep_si i.sok)
 ·show Res K (b + 1) S (addM K S).1
  exact kp (keep_add k i.sok)
 ·show Res K (b + 1) S (ptrM K S).1
  exact kp (keep_ptr k i.sok)
 ·show Res K (b + 1) S (ixM K S).1
  exact kp (keep_ix k i.sok)
 ·show Res K (b + 1) S (ixopM K S).1
  exact kp (keep_ixop k i.sok)
 ·show Res K (b + 1) S (rangesM K S).1
  exact kp (keep_ranges k i.sok)
 ·show Res K (b + 1) S (convM K S).1
  exact kp (keep_conv k i.sok)
 ·show Res K (b + 1) S (jmpM K S).1
  exact (res_goes k i _).mono hb
 ·show Res K (b + 1) S (jumpsM K true S).1
  exact (res_jumps k i true).mono hb
 ·show Res K (b + 1) S (jumpsM K false S).1
  exact (res_jumps k i false).mono hb
 ·show Res K (b + 1) S (keepsM K true S).1
  exact (res_keeps k i true).mono hb
 ·show Res K (b + 1) S (keepsM K false S).1
  exact (res_keeps k i false).mono hb
 ·show Res K (b + 1) S (casesM K S).1
  exact (res_cases k i).mono hb
 ·show Res K (b + 1) S (marksM K S).1
  exact kp (keep_all k _ i.sok)
 ·show Res K (b + 1) S (callM K S).1
  exact res_call k i (d.bw (by decide) rfl).2.2
 ·show Res K (b + 1) S (callxM K S).1
  exact res_callx k i (d.bw (by decide) rfl).2.1 (d.bw (by decide) rfl).2.2
 ·show Res K (b + 1) S (callfM K S).1
  exact res_callfM k i
 ·show Res K (b + 1) S (leaveM K false S).1
  exact res_leave k i hb0 false
 ·show Res K (b + 1) S (retfM K S).1
  exact res_retf k i hb0
 ·show Res K (b + 1) S (numberM K S).1
  exact kp (keep_number k i.sok)
 ·show Res K (b + 1) S (turnsM K 1 [0, 0] S).1
  exact kp (keep_turns k i.sok _ _)
 ·show Res K (b + 1) S (turnsM K 1 [] S).1
  exact kp (keep_turns k i.sok _ _)
 ·show Res K (b + 1) S (turnsM K 2 [0, 1] S).1
  exact kp (keep_turns k i.sok _ _)
 ·show Res K (b + 1) S (movesM K S).1
  exact kp (keep_moves i.sok)
 ·show Res K (b + 1) S (makeM K S).1
  exact (res_make k i).mono hb
 ·show Res K (b + 1) S (freeM K S).1
  exact (res_free i).mono hb
 ·show Res K (b + 1) S (readM K S).1
  exact kp (keep_read k i.sok)
 ·show Res K (b + 1) S (putcM K S).1
  exact (res_putc i).mono hb
 ·show Res K (b + 1) S (wrsM K S).1
  exact (res_wrs i).mono hb
 ·show Res K (b + 1) S (textsM K true S).1
  exact (res_texts i true).mono hb
 ·show Res K (b + 1) S (textsM K false S).1
  exact (res_texts i false).mono hb
 ·show Res K (b + 1) S (writesM K [10] S).1
  exact (res_writes i _).mono hb
 ·show Res K (b + 1) S (trapM S).1
  exact kp (keep_refl i.sok)
 ·show Res K (b + 1) S (turnsM K 2 [1, 0, 1] S).1
  exact kp (keep_turns k i.sok _ _)
end Go.Proofs.YtabenhpjgjjgnaaGreatDoor
/- A machine's function goes back, with its word. -/
namespace Go.Proofs.YtabenhpjgjjgnaaGreatDoor
open Go.RowKit
set_option maxRecDepth 100000
attribute [local go_sem ↓] Go.wp_at_zero Go.wp_at_succ
def Retf3 (g : Nat) (cap2 : Array Value) (R : Ending → World → Prop) (e : Ending) (w' : World) : Prop := ∃ u : Nat, e = .returned (.int .u8 (u : Nat)) ∧ (u ≠ 0 → R (.returned (.int .u8 u)) w') ∧ (u = 0 → w'.cell? ⟨g, 2, none⟩ = some (.func (.func 154) #[] cap2) ∧ g < w'.heap.size ∧
 Calls Tryz.prog 154 cap2 w' (fun e w'' => ∃ u : Nat, e = .returned (.int .u8 u) ∧ R (.returned (.int .u8 u)) w''))
theorem retf_traps' (g q t : Nat) (cap1 cap2 : Array Value) (W : World) (hg0 : W.cell? ⟨g, 0, none⟩ = some (.func (.func 152) #[] #[.pointer (some ⟨q, 0, none⟩)])) (hg1 : W.cell? ⟨g, 1, none⟩ = some (.func (.func 153) #[] cap1))
 (hq : W.cell? ⟨q, 0, none⟩ = some (.int .u8 (t : Nat))) (R : Ending → World → Prop) (h0 : t ≠ 0 → R (.returned (.int .u8 t)) W) (h1 : t = 0 → Calls Tryz.prog 153 cap1 W (Retf3 g cap2 R)) : Calls Tryz.prog 136 #[.slice (some ⟨g, 0, none⟩) 3 3] W R := by
 have hF := retf_first q t W hq
 have HF := Lib.hid hF
 have H0 := Lib.hid h0
 have H1 := Lib.hid h1
 clear hF h0 h1
 by_cases ht : t = 0
 ·subst ht
  have HC := Lib.hid (H1.out rfl)
  go_enter Tryz.func136, Tryz.ntmps136
  go_wp2_with fail
  refine wp_loop_rounds 4 ?_
  rw [rounds_succ]
  go_wp2_with fail
  refine (HF.out).mono ?_
  rintro e w' ⟨rfl, rfl⟩
  go_wp2_with fail
  rw [rounds_succ]
  go_wp2_with fail
  refine (HC.out).mono ?_
  rintro e w' ⟨u, rfl, hR0, hR1⟩
  have HR0 := Lib.hid hR0
  have HR1 := Lib.hid hR1
  clear hR0 hR1 hg0 hg1 hq
  by_cases hu : u = 0
  ·subst hu
   obtain ⟨hc2, hgl, hR⟩ := HR1.out rfl
   have HR := Lib.hid hR
   clear hR
   go_wp2_with fail
   rw [rounds_succ]
   go_wp2_with fail
   refine (HR.out).mono ?_
   rintro e w'' ⟨u, rfl, hR⟩
   have HR2 := Lib.hid hR
   clear hR
   by_cases hu : u = 0
   ·subst hu
    go_wp2_with fail
    rw [rounds_succ]
    go_wp2_with fail
    exact HR2.out
   ·have d := bne_iff_ne.2 (show (u : Int) ≠ 0 by omega)
    go_wp2_with fail
    exact HR2.out
  ·have d := bne_iff_ne.2 (show (u : Int) ≠ 0 by omega)
   go_wp2_with fail
   exact HR0.out hu
 ·have HC := Lib.hid (H0.out ht)
  have d := bne_iff_ne.2 (show (t : Int) ≠ 0 by omega)
  clear ht
  go_enter Tryz.func136, Tryz.ntmps136
  go_wp2_with fail
  refine wp_loop_rounds 4 ?_
  rw [rounds_succ]
  go_wp2_with fail
  refine (HF.out).mono ?_
  rintro e w' ⟨rfl, rfl⟩
  go_wp2_with fail
  exact HC.out
theorem retf_second' (K : MK) (k : KOk K) (S : St) (s : SOk K S) (h0 : 0 ≤ S.ord) (h1 : S.ord ≤ K.order.length) (hol : K.order.length ≤ 1000) (hd0 : -1000000000 ≤ S.depth) (hd1 : S.depth ≤ 1000000000) (W : World) (h : At K S W) (x : Nat) (cx : W.cell? ⟨x, 0, none⟩ = some (.pointer (some ⟨K.b, 0, none⟩))) :
 Calls Tryz.prog 153 #[.pointer (some ⟨x, 0, none⟩)] W (OpEnd K W (leaveM K true S)) := by
 have HC := Lib.hid (leave_any K k S s true h0 h1 hol hd0 hd1 W h)
 clear h k s
 go_enter Tryz.func153, Tryz.ntmps153
 go_wp2_with fail
 refine (HC.out).mono ?_
 rintro e w1 ⟨rfl, h1, ho1⟩
 go_wp2_with fail
 go_ret
 exact ⟨rfl, h1, ho1⟩
set_option maxHeartbeats 2000000 in
theorem retf_any (K : MK) (k : KOk K) (S : St) {B : Int} (hb0 : 0 ≤ B) (inv : Inv K B S) (hol : K.order.length ≤ 1000) (hB1 : B ≤ 1000000000) (W : World) (h : At K S W) :
 Calls Tryz.prog 89 #[.pointer (some ⟨K.b, 0, none⟩)] W (OpEnd K W (retfM K S)) := by
 have HI := Lib.hid ((keep_pops inv.sok 1).inv inv)
 have s := inv.sok
 have HP := Lib.hid (show retfM K S = retfR K (popsM K 1 S) from rfl)
 have hlen := popsM_len K 1 S
 clear inv
 have HX0 := Lib.hid (Bx.new W #[.pointer (some ⟨K.b, 0, none⟩)] 30)
 have HB0 := Lib.hid (alloc_below W (.cells #[.pointer (some ⟨K.b, 0, none⟩)] 30))
 have H0 := Lib.hid (h.grow HB0.out)
 have HN0 := Lib.hid (show W.heap.size ∉ K.bs from fun hm => by have := h.old _ hm; omega)
 have HS := Lib.hid s
 clear h s
 go_enter Tryz.func89, Tryz.ntmps89
 go_wp2_with fail
 generalize W.alloc (.cells #[.pointer (some ⟨K.b, 0, none⟩)] 30) = w0 at *
 refine (pops_any K k S HS.out 1 (by omega) _ H0.out).mono ?_
 rintro e w1 ⟨A, c, rfl, hW, hA, ho⟩
 generalize popsM K 1 S = r at *
 obtain ⟨S1, l, t⟩ := r
 simp only at hlen hW hA HI
 have HX1 := Lib.hid (HX0.out.only ho HN0.out)
 have HO1 := Lib.hid ((Only.of_below (bs := K.bs) HB0.out).trans ho)
 have HA1 := Lib.hid hA
 obtain ⟨b, o, rfl, hbl, hc⟩ := hW.at_ (j := 0) (by omega)
 rw [Nat.zero_mul, Nat.add_zero] at hc
 have HC0 := Lib.hid (mask_cell hc.1)
 have HR0 := Lib.hid hc.2
 have hbn := mask_notin hc.1
 rw [hlen]
 have HV := Lib.hid (show retfM K S = retfR K (S1, l, t) from HP.out)
 generalize hy : l.getD 0 0 = y at *
 have HY := Lib.hid hy
 clear hA ho hW hc hbl HX0 H0 HB0 HP hlen hy
 dsimp only
 have e1 : (w1.alloc (.cells #[.slice (some ⟨b, o, none⟩) 1 c] 40)).heap.size = w1.heap.size + 1 := by simp
 have e2 : ((w1.alloc (.cells #[.slice (some ⟨b, o, none⟩) 1 c] 40)).alloc (.cells #[.int .u8 (t : Nat)] 5)).heap.size = w1.heap.size + 1 + 1 := by simp
 have q0 := Bx.grow (Bx.new w1 #[.slice (some ⟨b, o, none⟩) 1 c] 40) (alloc_below _ (.cells #[.int .u8 (t : Nat)] 5))
 have q1 := Bx.new (w1.alloc (.cells #[.slice (some ⟨b, o, none⟩) 1 c] 40)) #[.int .u8 (t : Nat)] 5
 rw [e1] at q1
 have HB2 := Lib.hid (((Below.refl _ _).alloc (Nat.le_refl _) _).alloc (by rw [e1]; omega) _ : Below w1.heap.size w1 ((w1.alloc (.cells #[.slice (some ⟨b, o, none⟩) 1 c] 40)).alloc (.cells #[.int .u8 (t : Nat)] 5)))
 have Q0 := Lib.hid q0
 have Q1 := Lib.hid q1
 have HE2 := Lib.hid e2
 clear q0 q1 e1 e2
 go_wp2_with fail
 generalize hw2 : ((w1.alloc (.cells #[.slice (some ⟨b, o, none⟩) 1 c] 40)).alloc (.cells #[.int .u8 (t : Nat)] 5)) = w2 at *
 clear hw2
 have HB3 := Lib.hid (alloc_below w2 (.cells #[.func (.func 152) #[] #[.pointer (some ⟨w1.heap.size + 1, 0, none⟩)], .func (.func 153) #[] #[.pointer (some ⟨W.heap.size, 0, none⟩)], .func (.func 154) #[] #[.pointer (some ⟨W.heap.size, 0, none⟩), .pointer (some ⟨w1.heap.size, 0, none⟩)]] 89))
 have q2 := Bx.new w2 #[.func (.func 152) #[] #[.pointer (some ⟨w1.heap.size + 1, 0, none⟩)], .func (.func 153) #[] #[.pointer (some ⟨W.heap.size, 0, none⟩)], .func (.func 154) #[] #[.pointer (some ⟨W.heap.size, 0, none⟩), .pointer (some ⟨w1.heap.size, 0, none⟩)]] 89
 rw [HE2.out] at q2
 generalize w2.alloc (.cells #[.func (.func 152) #[] #[.pointer (some ⟨w1.heap.size + 1, 0, none⟩)], .func (.func 153) #[] #[.pointer (some ⟨W.heap.size, 0, none⟩)], .func (.func 154) #[] #[.pointer (some ⟨W.heap.size, 0, none⟩), .pointer (some ⟨w1.heap.size, 0, none⟩)]] 89) = w3 at *
 have HB := Lib.hid (HB2.out.trans (HB3.out.mono HB2.out.size))
 have h3 := Lib.hid (HA1.out.grow HB.out)
 have ho3 := Lib.hid (HO1.out.trans (Only.of_below (bs := K.bs) HB.out))
 have HX3 := Lib.hid (HX1.out.grow HB.out)
 have Q03 := Lib.hid (Q0.out.grow HB3.out)
 have Q23 := Lib.hid q2
 have HC3 := Lib.hid ((HB.out.cell (lt_of_cell HC0.out)).trans HC0.out)
 have hn1 : w1.heap.size ∉ K.bs := fun hm => by have := HA1.out.old _ hm; omega
 have hn3 : w1.heap.size + 1 + 1 ∉ K.bs := fun hm => by have := HA1.out.old _ hm; omega
 refine retf_traps' (w1.heap.size + 1 + 1) (w1.heap.size + 1) t _ #[.pointer (some ⟨W.heap.size, 0, none⟩), .pointer (some ⟨w1.heap.size, 0, none⟩)] w3 ((Q23.out.cell 0).trans rfl) ((Q23.out.cell 1).trans rfl) (((Q1.out.grow HB3.out).cell 0).trans rfl) _ ?_ ?_
 ·intro ht
  go_wp2_with fail
  go_ret
  rw [HV.out, retfR, if_pos (by simpa using ht)]
  exact ⟨rfl, h3.out, ho3.out⟩
 intro ht
 have HV2 := Lib.hid (show retfM K S = retfL K y (leaveM K true S1) by rw [HV.out, retfR, if_neg (by simpa using ht), HY.out])
 have HRS := Lib.hid (res_leave k HI.out hb0 true)
 refine (retf_second' K k S1 HI.out.sok HI.out.ord0 HI.out.ord1 hol (by have := HI.out.dep0; omega) (by have := HI.out.dep1; omega) w3 h3.out W.heap.size ((HX3.out.cell 0).trans rfl)).mono ?_
 generalize leaveM K true S1 = rl at *
 obtain ⟨S2, t2⟩ := rl
 simp only at HRS
 rintro e w4 ⟨rfl, h4, ho4⟩
 refine ⟨t2, rfl, fun h2 => ?_, fun h2 => ?_⟩
 ·go_wp2_with fail
  go_ret
  rw [HV2.out, retfL, if_pos h2]
  exact ⟨rfl, h4, ho3.out.trans ho4⟩
 have HX4 := Lib.hid (HX3.out.only ho4 HN0.out)
 have Q04 := Lib.hid (Q03.out.only ho4 hn1)
 have Q24 := Lib.hid (Q23.out.only ho4 hn3)
 have HC4 := Lib.hid (show w4.cell? ⟨b, o, none⟩ = some (.int .u16 (y : Nat)) by
  have e := ho4.block (lt_of_cell HC3.out) hbn
  have hc := HC3.out
  unfold World.cell? at hc ⊢
  rw [e]
  exact hc)
 refine ⟨(Q24.out.cell 2).trans rfl, Q24.out.lt, ?_⟩
 refine (retf_third K k S2 HRS.out.inv.sok w4 h4 W.heap.size w1.heap.size b o c y HR0.out ((HX4.out.cell 0).trans rfl) ((Q04.out.cell 0).trans rfl) HC4.out).mono ?_
 rintro e w5 ⟨rfl, h5, ho5⟩
 refine ⟨_, rfl, ?_⟩
 go_wp2_with fail
 go_ret
 rw [HV2.out, retfL, if_neg (by simpa using h2)]
 exact ⟨rfl, h5, ho3.out.trans (ho4.trans ho5)⟩
end Go.Proofs.YtabenhpjgjjgnaaGreatDoor
/- A machine stores a word into a word of a frame, as a closure. -/
namespace Go.Proofs.YtabenhpjgjjgnaaGreatDoor
open Go.RowKit
set_option maxRecDepth 100000
attribute [local go_sem ↓] Go.wp_at_zero Go.wp_at_succ
set_option maxHeartbeats 2000000 in
theorem localStores_any (K : MK) (k : KOk K) (S : St) (s : SOk K S) (ha : 1 < S.args.length) (hl0 : 0 ≤ S.args.getD 0 0) (hl1 : S.args.getD 0 0 ≤ 1000000) (hq0 : 0 ≤ S.args.getD 1 0) (hq1 : S.args.getD 1 0 ≤ 1000000) (W : World) (h : At K S W) (x y : Nat) (_hx : x ∉ K.bs) (_hy : y ∉ K.bs)
 (cx : W.cell? ⟨x, 0, none⟩ = some (.pointer (some ⟨K.b, 0, none⟩))) (cy : W.cell? ⟨y, 0, none⟩ = some (.func (.func 69) #[.pointer (some ⟨K.b, 0, none⟩)] #[])) :
 Calls Tryz.prog 134 #[.pointer (some ⟨x, 0, none⟩), .pointer (some ⟨y, 0, none⟩)] W (OpEnd K W (localM K (storesM K) S)) := by
 have HK := Lib.hid k
 have HS := Lib.hid s
 have HL := Lib.hid (outM_le k s h.mem.small (S.args.getD 0 0).toNat)
 have HR0 := Lib.hid (show localM K (storesM K) S = if (outM K (S.args.getD 0 0).toNat S).2 ≠ 0 then (S, (outM K (S.args.getD 0 0).toNat S).2)
  else if K.high ≤ (outM K (S.args.getD 0 0).toNat S).1 + 5 + S.args.getD 1 0 then (S, 15)
  else storesM K ((outM K (S.args.getD 0 0).toNat S).1 + 5 + S.args.getD 1 0) S from rfl)
 have H := Lib.hid h
 have HG := Lib.hid (show ∀ x, At K S (growN W x) from fun x => h.grow (growN_below W x))
 obtain ⟨ab, ao, ac, c16, hab, a0c⟩ := h.arg (j := 0) (by omega)
 simp only [Nat.add_zero] at a0c
 have HAL := Lib.hid ha
 have DX := Lib.hid cx
 have DY := Lib.hid cy
 have hl2 : 0 < S.args.length := by omega
 have s0 := h.lt
 have s1 := lt_of_cell cx
 simp only at s1
 generalize ha0 : S.args.getD 0 0 = l at *
 clear ha0
 obtain ⟨ln, rfl⟩ := Int.eq_ofNat_of_zero_le hl0
 rw [Int.toNat_natCast] at HR0 HL
 clear h k s ha cy
 go_enter Tryz.func134, Tryz.ntmps134
 go_wp2_with fail
 refine wp_region_grow (by kernel_rfl) (by kernel_rfl) ?_
 repeat (first | go_big_quiet_step (first
  | (go_at_call 135; refine quiet_grow (out_eq K HK.out S HS.out ln (by omega) _ (HG.out _)))))
 refine wpQuiet_nil ?_
 rintro _ ⟨gx, rfl⟩
 have H2 := Lib.hid (HG.out gx)
 have HO2 := Lib.hid (Only.of_below (bs := K.bs) (growN_below W gx))
 have dx := ((growN_below W gx).cell (p := ⟨x, 0, none⟩) (lt_of_cell DX.out)).trans DX.out
 have dy := ((growN_below W gx).cell (p := ⟨y, 0, none⟩) (lt_of_cell DY.out)).trans DY.out
 clear c16 hab a0c s0 s1 cx H HG DX DY hl2
 generalize growN W gx = w2 at *
 obtain ⟨ab', ao', ac', c16, hab, a1c⟩ := H2.out.arg (j := 1) HAL.out
 generalize ha1 : S.args.getD 1 0 = q at *
 generalize outM K ln S = r at *
 obtain ⟨fp, t⟩ := r
 simp only at HR0 HL
 obtain ⟨f0, f1⟩ := HL.out
 have hal1 : 1 < S.args.length := HAL.out
 have k8 := H2.out.c8
 have s0 := H2.out.lt
 clear ha1
 by_cases ht : t = 0
 ·subst ht
  have HR1 := Lib.hid (show localM K (storesM K) S = if K.high ≤ fp + 5 + q then (S, 15) else storesM K (fp + 5 + q) S by rw [HR0.out, if_neg (by simp)])
  clear HR0
  by_cases hh : K.high ≤ fp + 5 + q
  ·have HR := Lib.hid (show localM K (storesM K) S = (S, 15) by rw [HR1.out, if_pos hh])
   have d0 := decide_eq_true hh
   go_wp2_with fail
   go_ret
   rw [HR.out]
   exact ⟨rfl, H2.out, HO2.out⟩
  ·have HR := Lib.hid (show localM K (storesM K) S = storesM K (fp + 5 + q) S by rw [HR1.out, if_neg hh])
   have hh' : fp + 5 + q < K.high := by omega
   have d0 : decide (K.high ≤ fp + 5 + q) = false := decide_eq_false hh
   clear hh HR1
   go_wp2_with fail
   refine (stores_any K HK.out S HS.out (fp + 5 + q) _ H2.out).mono ?_
   rintro e w3 ⟨rfl, h3, ho3⟩
   go_wp2_with fail
   go_ret
   rw [HR.out]
   exact ⟨rfl, h3, HO2.out.trans ho3⟩
 ·have d := bne_iff_ne.2 (show (t : Int) ≠ 0 by omega)
  have HR := Lib.hid (show localM K (storesM K) S = (S, t) by rw [HR0.out, if_pos (by simpa using ht)])
  clear HR0
  go_wp2_with fail
  go_ret
  rw [HR.out]
  exact ⟨rfl, H2.out, HO2.out⟩
end Go.Proofs.YtabenhpjgjjgnaaGreatDoor
/- A machine pushes the address of a word of a frame, as a closure. -/
namespace Go.Proofs.YtabenhpjgjjgnaaGreatDoor
open Go.RowKit
set_option maxRecDepth 100000
attribute [local go_sem ↓] Go.wp_at_zero Go.wp_at_succ
set_option maxHeartbeats 2000000 in
theorem localAddress_any (K : MK) (k : KOk K) (S : St) (s : SOk K S) (ha : 1 < S.args.length) (hl0 : 0 ≤ S.args.getD 0 0) (hl1 : S.args.getD 0 0 ≤ 1000000) (hq0 : 0 ≤ S.args.getD 1 0) (hq1 : S.args.getD 1 0 ≤ 1000000) (W : World) (h : At K S W) (x y : Nat) (_hx : x ∉ K.bs) (_hy : y ∉ K.bs)
 (cx : W.cell? ⟨x, 0, none⟩ = some (.pointer (some ⟨K.b, 0, none⟩))) (cy : W.cell? ⟨y, 0, none⟩ = some (.func (.func 70) #[.pointer (some ⟨K.b, 0, none⟩)] #[])) :
 Calls Tryz.prog 134 #[.pointer (some ⟨x, 0, none⟩), .pointer (some ⟨y, 0, none⟩)] W (OpEnd K W (localM K (addressM K) S)) := by
 have HK := Lib.hid k
 have HS := Lib.hid s
 have HL := Lib.hid (outM_le k s h.mem.small (S.args.getD 0 0).toNat)
 have HR0 := Lib.hid (show localM K (addressM K) S = if (outM K (S.args.getD 0 0).toNat S).2 ≠ 0 then (S, (outM K (S.args.getD 0 0).toNat S).2)
  else if K.high ≤ (outM K (S.args.getD 0 0).toNat S).1 + 5 + S.args.getD 1 0 then (S, 15)
  else addressM K ((outM K (S.args.getD 0 0).toNat S).1 + 5 + S.args.getD 1 0) S from rfl)
 have H := Lib.hid h
 have HG := Lib.hid (show ∀ x, At K S (growN W x) from fun x => h.grow (growN_below W x))
 obtain ⟨ab, ao, ac, c16, hab, a0c⟩ := h.arg (j := 0) (by omega)
 simp only [Nat.add_zero] at a0c
 have HAL := Lib.hid ha
 have DX := Lib.hid cx
 have DY := Lib.hid cy
 have hl2 : 0 < S.args.length := by omega
 have s0 := h.lt
 have s1 := lt_of_cell cx
 simp only at s1
 generalize ha0 : S.args.getD 0 0 = l at *
 clear ha0
 obtain ⟨ln, rfl⟩ := Int.eq_ofNat_of_zero_le hl0
 rw [Int.toNat_natCast] at HR0 HL
 clear h k s ha cy
 go_enter Tryz.func134, Tryz.ntmps134
 go_wp2_with fail
 refine wp_region_grow (by kernel_rfl) (by kernel_rfl) ?_
 repeat (first | go_big_quiet_step (first
  | (go_at_call 135; refine quiet_grow (out_eq K HK.out S HS.out ln (by omega) _ (HG.out _)))))
 refine wpQuiet_nil ?_
 rintro _ ⟨gx, rfl⟩
 have H2 := Lib.hid (HG.out gx)
 have HO2 := Lib.hid (Only.of_below (bs := K.bs) (growN_below W gx))
 have dx := ((growN_below W gx).cell (p := ⟨x, 0, none⟩) (lt_of_cell DX.out)).trans DX.out
 have dy := ((growN_below W gx).cell (p := ⟨y, 0, none⟩) (lt_of_cell DY.out)).trans DY.out
 clear c16 hab a0c s0 s1 cx H HG DX DY hl2
 generalize growN W gx = w2 at *
 obtain ⟨ab', ao', ac', c16, hab, a1c⟩ := H2.out.arg (j := 1) HAL.out
 generalize ha1 : S.args.getD 1 0 = q at *
 generalize outM K ln S = r at *
 obtain ⟨fp, t⟩ := r
 simp only at HR0 HL
 obtain ⟨f0, f1⟩ := HL.out
 have hal1 : 1 < S.args.length := HAL.out
 have k8 := H2.out.c8
 have s0 := H2.out.lt
 clear ha1
 by_cases ht : t = 0
 ·subst ht
  have HR1 := Lib.hid (show localM K (addressM K) S = if K.high ≤ fp + 5 + q then (S, 15) else addressM K (fp + 5 + q) S by rw [HR0.out, if_neg (by simp)])
  clear HR0
  by_cases hh : K.high ≤ fp + 5 + q
  ·have HR := Lib.hid (show localM K (addressM K) S = (S, 15) by rw [HR1.out, if_pos hh])
   have d0 := decide_eq_true hh
   go_wp2_with fail
   go_ret
   rw [HR.out]
   exact ⟨rfl, H2.out, HO2.out⟩
  ·have HR := Lib.hid (show localM K (addressM K) S = addressM K (fp + 5 + q) S by rw [HR1.out, if_neg hh])
   have hh' : fp + 5 + q < K.high := by omega
   have d0 : decide (K.high ≤ fp + 5 + q) = false := decide_eq_false hh
   clear hh HR1
   go_wp2_with fail
   refine (address_any K HK.out S HS.out (fp + 5 + q) _ H2.out).mono ?_
   rintro e w3 ⟨rfl, h3, ho3⟩
   go_wp2_with fail
   go_ret
   rw [HR.out]
   exact ⟨rfl, h3, HO2.out.trans ho3⟩
 ·have d := bne_iff_ne.2 (show (t : Int) ≠ 0 by omega)
  have HR := Lib.hid (show localM K (addressM K) S = (S, t) by rw [HR0.out, if_pos (by simpa using ht)])
  clear HR0
  go_wp2_with fail
  go_ret
  rw [HR.out]
  exact ⟨rfl, H2.out, HO2.out⟩
end Go.Proofs.YtabenhpjgjjgnaaGreatDoor
