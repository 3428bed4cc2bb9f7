/- A machine that goes over one module's body. What small programs come to in a machine. A machine runs. A machine's own copy of a program of one module. Condition: what lies in memory can lie there; what each theorem says. -/
import Derived.Test.YtabenhpjgjjgnaaGreatDoorBao
import Derived.Test.YtabenhpjgjjgnaaGreatDoorBal
import Derived.Test.YtabenhpjgjjgnaaGreatDoorBaf
import Derived.Deep.DeepCutAuto
import Derived.LoopN
/- A machine that goes over one module's body. -/
namespace Go.Proofs.YtabenhpjgjjgnaaGreatDoor
open Go.RowKit
set_option maxRecDepth 100000
def oneM (code : List UInt8) : ModL := ⟨code, [⟨0, 0, 0, 8, 1, false⟩], [], 4, []⟩
structure One (K : MK) (code : List UInt8) : Prop where
 mods : K.mods = [oneM code]
 order : K.order = [0]
 low : K.low = 5
 high : K.high = 105
 n : K.n = 154
 most : K.most = 50
structure Rn (S : St) (a : Nat) (l : List Nat) (t : Nat) (o : List UInt8) : Prop where
 ord : S.ord = 1
 mod : S.mod = 0
 proc : S.proc = 0
 at_ : S.at_ = a
 fp : S.fp = 5
 sp : S.sp = 10 + l.length
 few : l.length ≤ 8
 depth : S.depth = 1
 kind : S.kind = 0
 trap : S.trap = 0
 steps : S.steps = t
 out : S.out = o
 mark : S.ws 5 = 0
 words : ∀ j, j < l.length → S.ws (9 + j) = l.getD j 0
section
variable {K : MK} {code : List UInt8} {S : St} {a : Nat} {l : List Nat} {t : Nat} {o : List UInt8}
theorem one_mod (k : One K code) (h : Rn S a l t o) : modOf K S = oneM code := by unfold modOf; rw [k.mods, h.mod]; rfl
theorem one_here (k : One K code) (h : Rn S a l t o) : hereP K S = ⟨0, 0, 0, 8, 1, false⟩ := by unfold hereP; rw [one_mod k h, h.proc]; rfl
theorem one_base (k : One K code) (h : Rn S a l t o) : baseN (hereP K S) = 5 ∧ (hereP K S).depth = 8 := by rw [one_here k h]; exact ⟨rfl, rfl⟩
theorem rn_ok (k : One K code) (h : Rn S a l t o) : SOk K S := by
 obtain ⟨e1, e2⟩ := one_base k h
 have hf := h.few
 refine ⟨⟨?_, ?_, ?_, ?_⟩, ?_, ?_, ?_, ?_⟩
 ·rw [h.mod]; omega
 ·rw [h.mod, k.mods]; simp
 ·rw [h.proc]; omega
 ·rw [h.proc, one_mod k h]; simp [oneM]
 ·rw [h.fp, k.low]; omega
 ·rw [h.fp, h.sp, e1]; omega
 ·rw [h.fp, h.sp, e1, e2]; omega
 ·rw [h.fp, e1, e2, k.high]; omega
theorem rn_push (k : One K code) (h : Rn S a l t o) (hl : l.length < 8) (x : Nat) : ∃ S', pushM K x S = (S', 0) ∧ Rn S' a (l ++ [x]) t o ∧ S'.next = S.next ∧ S'.args = S.args := by
 obtain ⟨e1, e2⟩ := one_base k h
 have ht : ¬ topN K S ≤ S.sp := by unfold topN; rw [e1, e2, h.fp, h.sp]; omega
 have hin : inM K.n S.sp = true := by unfold inM; rw [k.n, h.sp]; simp; omega
 have hst : storeM K.n S.ws S.sp x = upd S.ws (9 + l.length) x := by unfold storeM; rw [if_pos hin, h.sp, show (10 + (l.length : Int)).toNat - 1 = 9 + l.length by omega]
 refine ⟨{ S with ws := upd S.ws (9 + l.length) x, sp := S.sp + 1 }, by unfold pushM; rw [if_neg ht, hst], ?_, rfl, rfl⟩
 refine ⟨h.ord, h.mod, h.proc, h.at_, h.fp, ?_, ?_, h.depth, h.kind, h.trap, h.steps, h.out, ?_, ?_⟩
 ·simp only [h.sp, List.length_append, List.length_cons, List.length_nil]; omega
 ·simp; omega
 ·simp only [upd]; rw [if_neg (by omega)]; exact h.mark
 ·intro j hj
  simp only [List.length_append, List.length_cons, List.length_nil] at hj
  simp only [upd]
  by_cases hjl : j = l.length
  ·subst hjl; rw [if_pos rfl]; simp [List.getD_eq_getElem?_getD]
  ·rw [if_neg (by omega), h.words j (by omega)]
   simp [List.getD_eq_getElem?_getD, List.getElem?_append_left (show j < l.length by omega)]
theorem rn_pops (k : One K code) {m : List Nat} (h : Rn S a (l ++ m) t o) : ∃ S', popsM K m.length S = (S', m, 0) ∧ Rn S' a l t o ∧ S'.next = S.next ∧ S'.args = S.args := by
 obtain ⟨e1, e2⟩ := one_base k h
 have hsp := h.sp
 rw [List.length_append] at hsp
 have hf := h.few
 rw [List.length_append] at hf
 have ht : ¬ S.sp - m.length < floorN K S := by unfold floorN; rw [e1, h.fp, hsp]; omega
 have hrow : rowM S.ws (S.sp - m.length) m.length = m := by
  apply List.ext_getElem
  ·simp [rowM]
  ·intro j h1 h2
   have hw := h.words (l.length + j) (by rw [List.length_append]; omega)
   simp only [rowM, List.getElem_map, List.getElem_range]
   rw [show (S.sp - (m.length : Int)).toNat - 1 + j = 9 + (l.length + j) by omega, hw]
   simp [List.getD_eq_getElem?_getD, h2]
 refine ⟨{ S with sp := S.sp - m.length }, by unfold popsM; rw [if_neg ht, hrow], ?_, rfl, rfl⟩
 refine ⟨h.ord, h.mod, h.proc, h.at_, h.fp, ?_, by omega, h.depth, h.kind, h.trap, h.steps, h.out, h.mark, ?_⟩
 ·simp only; omega
 ·intro j hj
  simp only
  rw [h.words j (by rw [List.length_append]; omega)]
  simp [List.getD_eq_getElem?_getD, List.getElem?_append_left hj]
theorem rn_under (k : One K code) (h : Rn S a l t o) (n : Nat) (hn : l.length < n) : popsM K n S = (S, List.replicate n 0, 14) := by
 obtain ⟨e1, e2⟩ := one_base k h
 unfold popsM
 rw [if_pos]
 unfold floorN
 rw [e1, h.fp, h.sp]
 omega
theorem rn_tick (h : Rn S a l t o) : Rn { S with steps := S.steps + 1 } a l (t + 1) o :=
 ⟨h.ord, h.mod, h.proc, h.at_, h.fp, h.sp, h.few, h.depth, h.kind, h.trap, by simp only [h.steps]; omega, h.out, h.mark, h.words⟩
theorem rn_dec (h : Rn S a l t o) (nx : Int) (ar : List Int) : Rn { S with next := nx, args := ar } a l t o :=
 ⟨h.ord, h.mod, h.proc, h.at_, h.fp, h.sp, h.few, h.depth, h.kind, h.trap, h.steps, h.out, h.mark, h.words⟩
theorem rn_go (h : Rn S a l t o) {b : Nat} (hb : S.next = b) : Rn { S with at_ := S.next } b l t o :=
 ⟨h.ord, h.mod, h.proc, hb, h.fp, h.sp, h.few, h.depth, h.kind, h.trap, h.steps, h.out, h.mark, h.words⟩
theorem rn_next (h : Rn S a l t o) (nx : Int) : Rn { S with next := nx } a l t o :=
 ⟨h.ord, h.mod, h.proc, h.at_, h.fp, h.sp, h.few, h.depth, h.kind, h.trap, h.steps, h.out, h.mark, h.words⟩
theorem rn_out (h : Rn S a l t o) (u : List UInt8) : Rn { S with out := u } a l t u :=
 ⟨h.ord, h.mod, h.proc, h.at_, h.fp, h.sp, h.few, h.depth, h.kind, h.trap, h.steps, rfl, h.mark, h.words⟩
theorem rn_step (k : One K code) (ko : KOk K) (h : Rn S a l t o) {op : Nat} {ar : List Int} {b : Nat} (hd : K16.decodeL code a = ((op, ar), (b : Int), 0)) (hb : b ≤ 65535) (ho : o.length ≤ 1000000) (hk : takesN op ≠ 0 ∨ op = 40 ∨ op = 55 ∨ op = 57 ∨ op = 65 ∨ op = 68 ∨ op = 69 ∨ op = 70 ∨ op = 78)
 (ha : (op = 40 ∨ op = 55 ∨ op = 57) → 0 < ar.length ∧ -1000000 ≤ ar.getD 0 0 ∧ ar.getD 0 0 ≤ 1000000) :
 StepOk K { S with steps := S.steps + 1 } (doM K op { S with steps := S.steps + 1, next := b, args := ar }) := by
 have h1 := rn_dec (rn_tick h) b ar
 have hh := one_here k h1
 refine step_ok K ko _ (rn_ok k (rn_tick h)) op ar b ?_ ⟨hk, ha, ?_, ?_, ?_, ?_, ?_, ?_, ?_, ?_, ?_⟩
 ·rw [one_mod k (rn_tick h)]
  show K16.decodeL code S.at_ = _
  rw [h.at_]; exact hd
 ·intro _
  refine ⟨by rw [hh], ?_, ?_⟩
  ·show S.ws (S.fp.toNat - 1 + 1) = 0
   rw [h.fp]; exact h.mark
  ·rw [k.low]; exact h.fp
 ·show 0 ≤ S.ord
  rw [h.ord]; omega
 ·show S.ord ≤ K.order.length
  rw [h.ord, k.order]; decide
 ·show (0 : Int) ≤ b
  omega
 ·show (b : Int) ≤ 1000000
  omega
 ·rw [k.most]; omega
 ·rw [k.most]; omega
 ·show S.out.length ≤ 1000000
  rw [h.out]; exact ho
 ·rw [k.order]; decide
theorem rn_lit (k : One K code) (ko : KOk K) (h : Rn S a l t o) {x b : Nat} (hd : K16.decodeL code a = ((40, [(x : Int)]), (b : Int), 0)) (hb : b ≤ 65535) (ho : o.length ≤ 1000000) (hl : l.length < 8) (hx : x < 65536) :
 ∃ S', StepOk K { S with steps := S.steps + 1 } (S', 0) ∧ Rn { S' with at_ := S'.next } b (l ++ [x]) (t + 1) o := by
 have hs := rn_step k ko h hd hb ho (by simp) (fun _ => by simp; omega)
 obtain ⟨S', h1, h2, h3, _⟩ := rn_push k (rn_dec (rn_tick h) (b : Int) [(x : Int)]) hl x
 refine ⟨S', ?_, rn_go h2 h3⟩
 have e : doM K 40 { S with steps := S.steps + 1, next := b, args := [(x : Int)] } = (S', 0) := by
  rw [← h1]
  show pushM K (w16 (x : Int)) _ = _
  rw [show w16 (x : Int) = x by unfold w16; omega]
 rw [← e]; exact hs
theorem rn_op2 (k : One K code) (ko : KOk K) {x y : Nat} (h : Rn S a (l ++ [x, y]) t o) {n b : Nat} (hd : K16.decodeL code a = ((n, []), (b : Int), 0)) (hn : takesN n = 2) (hb : b ≤ 65535) (ho : o.length ≤ 1000000) :
 if (opI n x y).2 = 0 then ∃ S', StepOk K { S with steps := S.steps + 1 } (S', 0) ∧ Rn { S' with at_ := S'.next } b (l ++ [(opI n x y).1.toNat]) (t + 1) o
 else ∃ S', StepOk K { S with steps := S.steps + 1 } (S', (opI n x y).2) ∧ Rn S' a l (t + 1) o := by
 have hn0 : n ≤ 31 ∧ n ≠ 0 := by unfold takesN at hn; split at hn <;> omega
 have hs := rn_step k ko h hd hb ho (.inl (by omega)) (fun hc => by omega)
 obtain ⟨S', h1, h2, h3, _⟩ := rn_pops k (m := [x, y]) (rn_dec (rn_tick h) (b : Int) [])
 have hl : l.length < 8 := by have := h.few; rw [List.length_append] at this; simp only [List.length_cons, List.length_nil] at this; omega
 have e : doM K n { S with steps := S.steps + 1, next := b, args := [] } = opM K n 2 { S with steps := S.steps + 1, next := b, args := [] } := by unfold doM; rw [if_pos (by omega), hn]
 rw [e] at hs
 have e2 : opM K n 2 { S with steps := S.steps + 1, next := b, args := [] } = if (opI n x y).2 ≠ 0 then (S', (opI n x y).2) else pushM K (opI n x y).1.toNat S' := by
  show opR K n 2 (popsM K 2 _) = _
  rw [show (2 : Nat) = [x, y].length from rfl, h1]
  unfold opR
  simp
 by_cases hz : (opI n x y).2 = 0
 ·rw [if_pos hz]
  obtain ⟨S2, h4, h5, h6, _⟩ := rn_push k h2 hl (opI n x y).1.toNat
  refine ⟨S2, ?_, rn_go h5 (h6.trans h3)⟩
  rw [e2, if_neg (by simpa using hz), h4] at hs
  exact hs
 ·rw [if_neg hz]
  refine ⟨S', ?_, h2⟩
  rw [e2, if_pos hz] at hs
  exact hs
theorem rn_under2 (k : One K code) (ko : KOk K) (h : Rn S a l t o) (hl : l.length < 2) {n b : Nat} (hd : K16.decodeL code a = ((n, []), (b : Int), 0)) (hn : takesN n = 2) (hb : b ≤ 65535) (ho : o.length ≤ 1000000) :
 ∃ S', StepOk K { S with steps := S.steps + 1 } (S', 14) ∧ Rn S' a l (t + 1) o := by
 have hn0 : n ≤ 31 ∧ n ≠ 0 := by unfold takesN at hn; split at hn <;> omega
 have hs := rn_step k ko h hd hb ho (.inl (by omega)) (fun hc => by omega)
 have h1 := rn_under k (rn_dec (rn_tick h) (b : Int) []) 2 hl
 have e : doM K n { S with steps := S.steps + 1, next := b, args := [] } = ({ S with steps := S.steps + 1, next := b, args := [] }, 14) := by
  unfold doM
  rw [if_pos (by omega), hn]
  show opR K n 2 (popsM K 2 _) = _
  rw [h1]
  unfold opR
  simp
 rw [e] at hs
 exact ⟨_, hs, rn_dec (rn_tick h) (b : Int) []⟩
theorem rn_wrc (k : One K code) (ko : KOk K) {x : Nat} (h : Rn S a (l ++ [x]) t o) {b : Nat} (hd : K16.decodeL code a = ((78, []), (b : Int), 0)) (hb : b ≤ 65535) (ho : o.length + (textL false x).length ≤ 50) :
 ∃ S', StepOk K { S with steps := S.steps + 1 } (S', 0) ∧ Rn { S' with at_ := S'.next } b l (t + 1) (o ++ textL false x) := by
 have hs := rn_step k ko h hd hb (by omega) (by simp) (fun hc => by omega)
 obtain ⟨S', h1, h2, h3, _⟩ := rn_pops k (m := [x]) (rn_dec (rn_tick h) (b : Int) [])
 refine ⟨{ S' with out := S'.out ++ textL false x }, ?_, ?_⟩
 ·have e : doM K 78 { S with steps := S.steps + 1, next := b, args := [] } = ({ S' with out := S'.out ++ textL false x }, 0) := by
   show textsR K false (popsM K 1 _) = _
   rw [show (1 : Nat) = [x].length from rfl, h1]
   unfold textsR
   rw [if_neg (by simp)]
   show writesM K (textL false x) S' = _
   unfold writesM writeM
   rw [if_neg (by rw [k.most, h2.out]; omega)]
   rfl
  rw [← e]; exact hs
 ·have h4 := rn_out h2 (S'.out ++ textL false x)
  rw [h2.out] at h4 ⊢
  exact rn_go h4 h3
theorem rn_ret (k : One K code) (ko : KOk K) (h : Rn S a l t o) {b : Nat} (hd : K16.decodeL code a = ((65, []), (b : Int), 0)) (hb : b ≤ 65535) (ho : o.length ≤ 1000000) :
 ∃ S', StepOk K { S with steps := S.steps + 1 } (S', 0) ∧ S'.kind = 1 ∧ S'.trap = 0 ∧ S'.steps = t + 1 ∧ S'.out = o := by
 have hs := rn_step k ko h hd hb ho (by simp) (fun hc => by omega)
 refine ⟨{ S with steps := S.steps + 1, next := b, args := [], kind := 1, depth := 0 }, ?_, rfl, h.trap, by simp only [h.steps], h.out⟩
 have e : doM K 65 { S with steps := S.steps + 1, next := b, args := [] } = ({ S with steps := S.steps + 1, next := b, args := [], kind := 1, depth := 0 }, 0) := by
  show beginsM K _ = _
  unfold beginsM
  rw [if_pos (by simp only [h.ord, k.order]; rfl)]
 rw [← e]; exact hs
theorem rn_jmp (k : One K code) (ko : KOk K) (h : Rn S a l t o) {b c : Nat} {far : Int} (hd : K16.decodeL code a = ((55, [far]), (b : Int), 0)) (hb : b ≤ 65535) (ho : o.length ≤ 1000000) (hf0 : -1000000 ≤ far) (hf1 : far ≤ 1000000) (hc : (b : Int) + far = c) (hcl : c ≤ code.length) :
 ∃ S', StepOk K { S with steps := S.steps + 1 } (S', 0) ∧ Rn { S' with at_ := S'.next } c l (t + 1) o := by
 have hs := rn_step k ko h hd hb ho (by simp) (fun _ => by simp; omega)
 have hd' := rn_dec (rn_tick h) (b : Int) [far]
 refine ⟨{ S with steps := S.steps + 1, next := (b : Int) + far, args := [far] }, ?_, rn_go (rn_next hd' ((b : Int) + far)) hc⟩
 have e : doM K 55 { S with steps := S.steps + 1, next := b, args := [far] } = ({ S with steps := S.steps + 1, next := (b : Int) + far, args := [far] }, 0) := by
  show goesM K far _ = _
  unfold goesM codeLen
  rw [one_mod k hd', if_neg (by simp only [oneM]; omega)]
 rw [← e]; exact hs
end
end Go.Proofs.YtabenhpjgjjgnaaGreatDoor
/- What small programs come to in a machine. -/
namespace Go.Proofs.YtabenhpjgjjgnaaGreatDoor
open Go.RowKit
set_option maxRecDepth 100000
def Comes (code : List UInt8) (fuel : Int) (kind trap : Nat) (steps : Int) (o : List UInt8) : Prop := ∀ (K : MK), KOk K → One K code → ∀ S, Rn S 0 [] 0 [] → ∃ n S2, RunTo K fuel n S S2 ∧ endOf S2 = (kind, trap, steps) ∧ S2.out = o
theorem dec_at (p : List K16.InsL) (i : K16.InsL) (q : List K16.InsL) (hi : i.1 < 256) (h : (K16.oneL i.1 i.2).2 = 0) {n m : Nat} (hn : (K16.bytesOf p).length = n) (hm : (K16.oneL i.1 i.2).1.length = m) :
 K16.decodeL (K16.bytesOf (p ++ i :: q)) n = (i, ((n + m : Nat) : Int), 0) := by
 have := K16.decode_enc i.1 hi i.2 h (K16.bytesOf p) (K16.bytesOf q)
 rw [hn, hm] at this
 rw [show K16.bytesOf (p ++ i :: q) = K16.bytesOf p ++ ((K16.oneL i.1 i.2).1 ++ K16.bytesOf q) by simp [K16.bytesOf]]
 exact this
theorem lets40 : (K16.lettersOf 40 1).getD 0 0 = 87 := by decide
theorem one_lit (x : Nat) (h : x < 65536) : (K16.oneL 40 [(x : Int)]).2 = 0 ∧ (K16.oneL 40 [(x : Int)]).1.length = 3 := by
 have hk : K16.inK 87 (x : Int) = true := by unfold K16.inK K16.lowK K16.highK; simp; omega
 have h87 : (K16.lettersOf 40 [(x : Int)].length).getD 0 0 = 87 := lets40
 have hok : K16.okTo 40 [(x : Int)] [(x : Int)].length = true := by
  show K16.okTo 40 [(x : Int)] (0 + 1) = true
  rw [K16.okTo_succ, h87, List.getD_cons_zero, hk]
  rfl
 have h1 := K16.one_good 40 [(x : Int)] (by decide) (by show K16.rowsOk 40 1 = true; decide) hok (by show K16.rowsOf 40 1 < 256; decide)
 rw [h1]
 refine ⟨rfl, ?_⟩
 show (K16.encTo 40 [(x : Int)] (0 + 1)).length = 3
 rw [K16.encTo_step _ _ _ (by decide), List.length_append, h87, K16.encArg_len]
 rfl
theorem text7 : textL false 7 = [55] := by
 unfold textL Lib.itoa
 simp only [Bool.false_eq_true, if_false]
 rw [if_neg (by decide)]
 show Lib.decDigits 7 = _
 rw [Lib.decDigits, dif_pos (by decide)]
 rfl
theorem run_ret {K : MK} {code : List UInt8} (k : One K code) (ko : KOk K) {S : St} {a t b : Nat} {l : List Nat} {o : List UInt8} {fuel : Int} (h : Rn S a l t o) (hd : K16.decodeL code a = ((65, []), (b : Int), 0)) (hb : b ≤ 65535) (ho : o.length ≤ 1000000) (hf : (t : Int) < fuel) :
 ∃ S2, RunTo K fuel 1 S S2 ∧ endOf S2 = (1, 0, (t : Int) + 1) ∧ S2.out = o := by
 obtain ⟨S', h1, h2, h3, h4, h5⟩ := rn_ret k ko h hd hb ho
 refine ⟨{ S' with at_ := S'.next }, .step h.kind (by rw [h.steps]; omega) (by rw [h.steps]; omega) h1 (.stop (fun hk => ?_)), ?_, h5⟩
 ·simp only [h2] at hk; omega
 ·unfold endOf
  simp only [h2, h3, h4]
  rfl
theorem run_on {K : MK} {S S' : St} {a t : Nat} {l : List Nat} {o : List UInt8} {fuel : Int} (h : Rn S a l t o) (hf : (t : Int) < fuel) (hs : StepOk K { S with steps := S.steps + 1 } (S', 0)) {kind trap : Nat} {steps : Int} {u : List UInt8}
 (hr : ∃ n S2, RunTo K fuel n { S' with at_ := S'.next } S2 ∧ endOf S2 = (kind, trap, steps) ∧ S2.out = u) : ∃ n S2, RunTo K fuel n S S2 ∧ endOf S2 = (kind, trap, steps) ∧ S2.out = u := by
 obtain ⟨n, S2, h1, h2, h3⟩ := hr
 exact ⟨n + 1, S2, .step h.kind (by rw [h.steps]; omega) (by rw [h.steps]; omega) hs h1, h2, h3⟩
theorem run_trap {K : MK} {S S' : St} {a t c : Nat} {l l' : List Nat} {o : List UInt8} {fuel : Int} (h : Rn S a l t o) (hf : (t : Int) < fuel) (hc : c ≠ 0) (hs : StepOk K { S with steps := S.steps + 1 } (S', c)) (h' : Rn S' a l' (t + 1) o) :
 ∃ n S2, RunTo K fuel n S S2 ∧ endOf S2 = (2, c, (t : Int) + 1) ∧ S2.out = o := by
 refine ⟨0, _, .trap h.kind (by rw [h.steps]; omega) (by rw [h.steps]; omega) hs hc, ?_, h'.out⟩
 unfold endOf
 simp only [h'.steps]
 rw [if_neg (by decide)]
 simp
theorem run_fuel {K : MK} {S : St} {a t : Nat} {l : List Nat} {o : List UInt8} {fuel : Int} (h : Rn S a l t o) (hf : fuel = t) : ∃ n S2, RunTo K fuel n S S2 ∧ endOf S2 = (3, 0, (t : Int)) ∧ S2.out = o := by
 refine ⟨0, S, .stop (fun _ => by rw [h.steps]; omega), ?_, h.out⟩
 unfold endOf
 rw [if_pos h.kind, h.steps]
def litP : List K16.InsL := [(40, [7]), (78, []), (65, [])]
theorem lit_comes : Comes (K16.bytesOf litP) 9 1 0 3 [55] := fun K ko k S h => by
 obtain ⟨e1, e2⟩ := one_lit 7 (by omega)
 obtain ⟨S1, s1, h1⟩ := rn_lit k ko (x := 7) h (dec_at [] (40, [7]) [(78, []), (65, [])] (by decide) e1 rfl e2) (by omega) (by decide) (by decide) (by omega)
 have l1 : (K16.bytesOf [(40, [7])]).length = 3 := by decide
 have l2 : (K16.bytesOf [(40, [7]), (78, [])]).length = 4 := by decide
 refine run_on h (by decide) s1 ?_
 obtain ⟨S2, s2, h2⟩ := rn_wrc k ko (l := []) (x := 7) h1 (dec_at [(40, [7])] (78, []) [(65, [])] (by decide) (by decide) l1 (m := 1) rfl) (by decide) (by rw [text7]; decide)
 refine run_on h1 (by decide) s2 ?_
 obtain ⟨S3, r3, r4, r5⟩ := run_ret (fuel := 9) k ko h2 (dec_at [(40, [7]), (78, [])] (65, []) [] (by decide) (by decide) l2 (m := 1) rfl) (by decide) (by rw [text7]; decide) (by decide)
 exact ⟨_, S3, r3, r4, r5.trans (by rw [text7]; rfl)⟩
def jmpP : List K16.InsL := [(55, [-3])]
theorem jmp_comes : Comes (K16.bytesOf jmpP) 9 3 0 9 [] := fun K ko k S h => by
 have hc : (K16.bytesOf jmpP).length = 3 := by decide
 have hd : K16.decodeL (K16.bytesOf jmpP) ((0 : Nat) : Int) = ((55, [-3]), ((3 : Nat) : Int), 0) := dec_at [] (55, [-3]) [] (n := 0) (m := 3) (by decide) (by decide) rfl (by decide)
 have go : ∀ (d t : Nat) (S : St), d + t = 9 → Rn S 0 [] t [] → ∃ n S2, RunTo K 9 n S S2 ∧ endOf S2 = (3, 0, 9) ∧ S2.out = [] := by
  intro d
  induction d with
  | zero => intro t S ht h; obtain rfl : t = 9 := by omega
            exact run_fuel h rfl
  | succ d ih =>
    intro t S ht h
    obtain ⟨S1, s1, h1⟩ := rn_jmp k ko (c := 0) h hd (by decide) (by decide) (by decide) (by decide) (by decide) (by decide)
    exact run_on h (by omega) s1 (ih (t + 1) _ (by omega) h1)
 exact go 9 0 S rfl h
def addP : List K16.InsL := [(1, [])]
theorem add_comes : Comes (K16.bytesOf addP) 9 2 14 1 [] := fun K ko k S h => by
 obtain ⟨S1, s1, h1⟩ := rn_under2 k ko (n := 1) h (by decide) (dec_at [] (1, []) [] (by decide) (by decide) rfl rfl) (by decide) (by decide) (by decide)
 exact run_trap h (by decide) (by decide) s1 h1
end Go.Proofs.YtabenhpjgjjgnaaGreatDoor
/- A machine runs. -/
namespace Go.Proofs.YtabenhpjgjjgnaaGreatDoor
open Go.RowKit
set_option maxRecDepth 100000
attribute [local go_sem ↓] Go.wp_at_zero Go.wp_at_succ
theorem RunTo.inv {K : MK} {fuel : Int} {g : Nat} {S S2 : St} (h : RunTo K fuel g S S2) : (S2 = S ∧ (S.kind = 0 → fuel ≤ S.steps)) ∨
 (∃ n S1, g = n + 1 ∧ S.kind = 0 ∧ 0 ≤ S.steps ∧ S.steps < fuel ∧ StepOk K { S with steps := S.steps + 1 } (S1, 0) ∧ RunTo K fuel n { S1 with at_ := S1.next } S2) ∨
 (∃ S1 t, S.kind = 0 ∧ 0 ≤ S.steps ∧ S.steps < fuel ∧ StepOk K { S with steps := S.steps + 1 } (S1, t) ∧ t ≠ 0 ∧ S2 = { S1 with kind := 2, trap := t }) := by
 cases h with
 | stop h => exact .inl ⟨rfl, h⟩
 | step h0 h1 h2 hs hr => exact .inr (.inl ⟨_, _, rfl, h0, h1, h2, hs, hr⟩)
 | trap h0 h1 h2 hs ht => exact .inr (.inr ⟨_, _, h0, h1, h2, hs, ht, rfl⟩)
theorem run_ret3 {W' : World} {b : Nat} {k t : Nat} {s : Int} {R : Ending → World → Prop} {a : Act} (hx : Bx b #[.int .u8 (k : Nat), .int .u8 (t : Nat), .int .i64 s] 38 W') (h4 : a.tmps.getD 4 undef = .pointer (some ⟨b, 0, none⟩)) (hd : a.defers = [])
 (hR : R (.returned (.agg #[.int .u8 (k : Nat), .int .u8 (t : Nat), .int .i64 s])) W') : bodyPost Tryz.prog Tryz.f10 R .ret a W' := by
 have x0 : W'.cell? ⟨b, 0, none⟩ = some (.int .u8 (k : Nat)) := (hx.cell 0).trans rfl
 have x1 : W'.cell? ⟨b, 1, none⟩ = some (.int .u8 (t : Nat)) := (hx.cell 1).trans rfl
 have x2 : W'.cell? ⟨b, 2, none⟩ = some (.int .i64 s) := (hx.cell 2).trans rfl
 refine bodyPost_ret (v := .agg #[.int .u8 (k : Nat), .int .u8 (t : Nat), .int .i64 s]) ?_ hd hR
 have h5 : a.tmps[4]?.getD undef = .pointer (some ⟨b, 0, none⟩) := by simpa [Array.getD_eq_getD_getElem?] using h4
 simp [results, Tryz.results10, go_sem, h5, x0, x1, x2]
structure AtW (K : MK) (S : St) (W : World) : Prop where
 box : ∃ (cs : Array Value), Bx K.b cs 81 W ∧ ∃ A c a, cs = mcells K { S with args := a } A c
 term : ∃ re im, (re ≤ fTop ∧ im ≤ fTop) ∧ Bx K.bt (tcells K S re im) 118 W
 mem : MemAt K.bm K.n S.ws W
 hp : HpAt K S W
theorem AtW.of {K : MK} {S : St} {W W' : World} (h : At K S W) (hs : ∀ k ∈ K.bs, W'.heap[k]? = W.heap[k]?) (k : KOk K) : AtW K S W' := by
 obtain ⟨A, c, h1, _⟩ := h.box
 obtain ⟨re, im, hre, h3⟩ := h.term
 exact ⟨⟨_, (hs _ k.hb).trans h1, A, c, S.args, rfl⟩, ⟨re, im, hre, (hs _ k.ht).trans h3⟩, h.mem.later (hs _ k.hm), h.hp.later rfl rfl (hs _ k.hh) (hs _ k.hq)⟩
theorem set3_at (W : World) (b : Nat) (u v x : Value) (k : Nat) (h : k ≠ b) : (((W.setCell ⟨b, 0, none⟩ u).setCell ⟨b, 1, none⟩ v).setCell ⟨b, 2, none⟩ x).heap[k]? = W.heap[k]? :=
 (Below.heap_setCell _ _ _ _ h).trans ((Below.heap_setCell _ _ _ _ h).trans (Below.heap_setCell _ _ _ _ h))
theorem only3 {bs : List Nat} {W w : World} (h : Only bs W w) (u v x : Value) : Only bs W (((w.setCell ⟨W.heap.size, 0, none⟩ u).setCell ⟨W.heap.size, 1, none⟩ v).setCell ⟨W.heap.size, 2, none⟩ x) := by
 have hsz : (((w.setCell ⟨W.heap.size, 0, none⟩ u).setCell ⟨W.heap.size, 1, none⟩ v).setCell ⟨W.heap.size, 2, none⟩ x).heap.size = w.heap.size := by rw [setCell_size, setCell_size, setCell_size]
 refine ⟨h.os, h.tape, h.output, by rw [mask_size, mask_size, hsz]; exact h.size, fun k hk => ?_⟩
 by_cases hb : k ∈ bs
 ·rw [mask_in _ _ hb hk, mask_in _ _ hb (by rw [hsz]; exact Nat.lt_of_lt_of_le hk h.size)]
 ·rw [mask_at _ _ hb, mask_at _ _ hb, ← h.block hk hb]
  exact set3_at w _ u v x k (by omega)
theorem at_set3 {K : MK} {S0 S : St} {W w : World} {y0 y1 y2 : Int} (k : KOk K) (h0 : At K S0 W) (ho : Only K.bs W w) (h : At K S w) (hx : Bx W.heap.size #[.int .u8 y0, .int .u8 y1, .int .i64 y2] 38 w) (hn : W.heap.size ∉ K.bs) (u v : Value) (x : Int) :
 ∃ a, At K { S with args := a } (((w.setCell ⟨W.heap.size, 0, none⟩ u).setCell ⟨W.heap.size, 1, none⟩ v).setCell ⟨W.heap.size, 2, none⟩ (.int .i64 x)) := by
 have hO := only3 ho u v (.int .i64 x)
 have hs : ∀ q ∈ K.bs, (((w.setCell ⟨W.heap.size, 0, none⟩ u).setCell ⟨W.heap.size, 1, none⟩ v).setCell ⟨W.heap.size, 2, none⟩ (.int .i64 x)).heap[q]? = w.heap[q]? := fun q hq => set3_at w _ _ _ _ q (fun e => hn (e ▸ hq))
 have hsz : w.heap.size ≤ (((w.setCell ⟨W.heap.size, 0, none⟩ u).setCell ⟨W.heap.size, 1, none⟩ v).setCell ⟨W.heap.size, 2, none⟩ (.int .i64 x)).heap.size := by rw [setCell_size, setCell_size, setCell_size]; exact Nat.le_refl _
 have hne : ∀ q, q ≠ W.heap.size → (((w.setCell ⟨W.heap.size, 0, none⟩ u).setCell ⟨W.heap.size, 1, none⟩ v).setCell ⟨W.heap.size, 2, none⟩ (.int .i64 x)).heap[q]? = w.heap[q]? := fun q hq => set3_at w _ _ _ _ q hq
 have hx3 := ((hx.set 0 u).set 1 v).set 2 (.int .i64 x)
 obtain ⟨A, c, h1, h2, h3⟩ := h.box
 obtain ⟨re, im, hre, h4⟩ := h.term
 have fin : ∀ a : List Int, a.length = S.args.length → Ints (mask K.bs (((w.setCell ⟨W.heap.size, 0, none⟩ u).setCell ⟨W.heap.size, 1, none⟩ v).setCell ⟨W.heap.size, 2, none⟩ (.int .i64 x))) A a → At K { S with args := a } (((w.setCell ⟨W.heap.size, 0, none⟩ u).setCell ⟨W.heap.size, 1, none⟩ v).setCell ⟨W.heap.size, 2, none⟩ (.int .i64 x)) := fun a hl hi => by
  have e : mcells K { S with args := a } A c = mcells K S A c := by unfold mcells; simp only [hl]
  exact ⟨⟨A, c, by rw [e]; exact (hs _ k.hb).trans h1, hi, by rw [hl]; exact h3⟩, ⟨re, im, hre, (hs _ k.ht).trans h4⟩, h.mem.later (hs _ k.hm), h.hp.later rfl rfl (hs _ k.hh) (hs _ k.hq), h0.mods.later hO (by rw [mask_size]; exact Nat.le_refl _), h0.order.later hO (by rw [mask_size]; exact Nat.le_refl _), h0.data.later hO (by rw [mask_size]; exact Nat.le_refl _), h0.first.later hO (by rw [mask_size]; exact Nat.le_refl _), fun b hb => Nat.lt_of_lt_of_le (h.old b hb) hsz⟩
 generalize ((w.setCell ⟨W.heap.size, 0, none⟩ u).setCell ⟨W.heap.size, 1, none⟩ v).setCell ⟨W.heap.size, 2, none⟩ (.int .i64 x) = w' at *
 rcases h2 with hz | ⟨b, off, rfl, hlt, hc⟩
 ·exact ⟨S.args, fin _ rfl (.inl hz)⟩
 ·have hbn : b ∉ K.bs ∨ S.args.length = 0 := by
   by_cases hz : S.args.length = 0
   ·exact .inr hz
   ·exact .inl (mask_notin (hc 0 (by omega)))
  rcases hbn with hbn | hz
  ·by_cases hb : b = W.heap.size
   ·subst hb
    by_cases hz : S.args.length = 0
    ·exact ⟨S.args, fin _ rfl (.inl hz)⟩
    ·have c0 := mask_cell (hc 0 (by omega))
     rw [hx.cell] at c0
     have ho2 : off = 2 := by
      match off, c0 with
      | 0, c0 => simp at c0
      | 1, c0 => simp at c0
      | 2, _ => rfl
      | q + 3, c0 => simp at c0
     subst ho2
     have hl1 : S.args.length = 1 := by
      by_cases h2 : S.args.length = 1
      ·exact h2
      ·have c1 := mask_cell (hc 1 (by omega))
       rw [hx.cell] at c1
       simp at c1
     refine ⟨[x], fin _ (by simp [hl1]) (.inr ⟨W.heap.size, 2, rfl, by rw [mask_size] at hlt ⊢; omega, fun j hj => ?_⟩)⟩
     obtain rfl : j = 0 := by simpa using hj
     show (mask K.bs w').cell? ⟨W.heap.size, 2, none⟩ = _
     unfold World.cell?
     rw [mask_at _ _ hn]
     have := hx3.cell 2
     unfold World.cell? at this
     rw [this]; rfl
   ·refine ⟨S.args, fin _ rfl (.inr ⟨b, off, rfl, by rw [mask_size] at hlt ⊢; omega, fun j hj => ?_⟩)⟩
    have := hc j hj
    show (mask K.bs w').cell? _ = _
    have h5 : (mask K.bs w).cell? ⟨b, off + j * 1, none⟩ = _ := this
    unfold World.cell? at h5 ⊢
    rw [mask_at _ _ hbn] at h5 ⊢
    rw [hne b hb]; exact h5
  ·exact ⟨S.args, fin _ rfl (.inl hz)⟩
def RunEndA (K : MK) (W : World) (S2 : St) (e : Ending) (W' : World) : Prop := e = .returned (.agg #[.int .u8 ((endOf S2).1 : Nat), .int .u8 ((endOf S2).2.1 : Nat), .int .i64 (endOf S2).2.2]) ∧ Only K.bs W W' ∧ ∃ a, At K { S2 with args := a } W'
def RunEnd (K : MK) (W : World) (S2 : St) (e : Ending) (W' : World) : Prop := e = .returned (.agg #[.int .u8 ((endOf S2).1 : Nat), .int .u8 ((endOf S2).2.1 : Nat), .int .i64 (endOf S2).2.2]) ∧ AtW K S2 W' ∧ Only K.bs W W'
set_option maxHeartbeats 2000000 in
theorem run_at (K : MK) (k : KOk K) (fuel : Int) (hf : fuel ≤ 9223372036854775807) (N : Nat) (S S2 : St) (hr : RunTo K fuel N S S2) (_hst : 0 ≤ S.steps) (W : World) (h : At K S W) (hen : EnvK K W) : Calls Tryz.prog 10 #[.pointer (some ⟨K.b, 0, none⟩), .int .i64 fuel] W (RunEndA K W S2) := by
 have HK := Lib.hid k
 have H := Lib.hid h
 have HE := Lib.hid hen
 have HR := Lib.hid hr
 have c3 := h.c3
 have hlt := h.lt
 have hn1 : W.heap.size ∉ K.bs := fun hm => by have := h.old _ hm; omega
 have HB := Lib.hid (alloc_below W (.cells #[.int .u8 0, .int .u8 0, .int .i64 0] 38))
 have HX := Lib.hid (Bx.new W #[.int .u8 0, .int .u8 0, .int .i64 0] 38)
 clear h k hen hr
 go_enter Tryz.func10, Tryz.ntmps10
 go_wp2_with fail
 generalize W.alloc (.cells #[.int .u8 0, .int .u8 0, .int .i64 0] 38) = w0 at *
 have H0 := Lib.hid (H.out.grow HB.out)
 go_loopg [] N (fun g wr => ∃ S' : St, RunTo K fuel g S' S2 ∧ At K S' wr ∧ Only K.bs W wr ∧ Bx W.heap.size #[.int .u8 0, .int .u8 0, .int .i64 0] 38 wr)
 case atStart => exact ⟨S, HR.out, H0.out, Only.of_below HB.out, HX.out⟩
 case round =>
  clear HR H0 HX HB c3 hlt
  obtain ⟨S', hr', hA, ho, hx⟩ := hrel
  have HA := Lib.hid hA
  have HO := Lib.hid ho
  have HX := Lib.hid hx
  have hlt := hA.lt
  have hx0 : wr.cell? ⟨W.heap.size, 0, none⟩ = some (.int .u8 0) := (hx.cell 0).trans rfl
  have hx1 : wr.cell? ⟨W.heap.size, 1, none⟩ = some (.int .u8 0) := (hx.cell 1).trans rfl
  have hx2 : wr.cell? ⟨W.heap.size, 2, none⟩ = some (.int .i64 0) := (hx.cell 2).trans rfl
  have hxf := hx.frozen
  clear hA ho hx
  have c18 := HA.out.c18
  have c19 := HA.out.c19
  have c20 := HA.out.c20
  have fz := HA.out.fz
  rcases hr'.inv with ⟨rfl, hstop⟩ | ⟨n, S1, rfl, h0, h1, h2, hs, hr2⟩ | ⟨S1, t, h0, h1, h2, hs, ht, hS2⟩
  ·by_cases hk : S2.kind = 0
   ·have hst := hstop hk
    rw [hk] at c18
    have HE2 := Lib.hid (show endOf S2 = (3, 0, S2.steps) by unfold endOf; rw [if_pos hk])
    have d : decide (S2.steps < fuel) = false := decide_eq_false (by omega)
    have hX3 := Lib.hid (((HX.out.set 0 (.int .u8 (3 : Nat))).set 1 (.int .u8 (0 : Nat))).set 2 (.int .i64 S2.steps))
    clear hstop hst
    go_wp2_with fail
    refine run_ret3 hX3.out rfl rfl ?_
    unfold RunEndA
    rw [HE2.out]
    exact ⟨rfl, only3 HO.out _ _ _, at_set3 HK.out H.out HO.out HA.out HX.out hn1 _ _ _⟩
   ·have d : ((S2.kind : Int) == 0) = false := beq_eq_false_iff_ne.2 (by omega)
    have HE2 := Lib.hid (show endOf S2 = (S2.kind, S2.trap, S2.steps) by unfold endOf; rw [if_neg hk])
    have hX3 := Lib.hid (((HX.out.set 0 (.int .u8 (S2.kind : Nat))).set 1 (.int .u8 (S2.trap : Nat))).set 2 (.int .i64 S2.steps))
    clear hstop
    go_wp2_with fail
    refine run_ret3 hX3.out rfl rfl ?_
    unfold RunEndA
    rw [HE2.out]
    exact ⟨rfl, only3 HO.out _ _ _, at_set3 HK.out H.out HO.out HA.out HX.out hn1 _ _ _⟩
  ·rw [h0] at c18
   clear c19
   have hw : IntKind.i64.wrap (S'.steps + 1) = S'.steps + 1 := IntWalk.i64_in _ (by omega)
   have d : decide (S'.steps < fuel) = true := decide_eq_true h2
   have H1 := Lib.hid (HA.out.set_steps HK.out (S'.steps + 1))
   have HO1 := Lib.hid (HO.out.setCell (a := ⟨K.b, 20, none⟩) HK.out.hb (.int .i64 (S'.steps + 1)))
   have HX1 := Lib.hid (HX.out.far (a := ⟨K.b, 20, none⟩) (fun e => hn1 (e ▸ HK.out.hb)) (.int .i64 (S'.steps + 1)))
   have HS := Lib.hid hs
   have HR2 := Lib.hid hr2
   clear hs hr2 h2
   go_wp2_with fail
   refine (HS.out _ H1.out (HE.out.only HO1.out)).mono ?_
   rintro e w2 ⟨rfl, hA2, ho2⟩
   have HX2 := Lib.hid (HX1.out.only ho2 hn1)
   have HO2 := Lib.hid (HO1.out.trans ho2)
   have c15 := hA2.c15
   have c12 := hA2.c12
   have fz2 := hA2.fz
   have hlt2 := hA2.lt
   have HA3 := Lib.hid (hA2.set_at_ HK.out S1.next)
   have HO3 := Lib.hid (HO2.out.setCell (a := ⟨K.b, 12, none⟩) HK.out.hb (.int .i64 S1.next))
   have HX3 := Lib.hid (HX2.out.far (a := ⟨K.b, 12, none⟩) (fun e => hn1 (e ▸ HK.out.hb)) (.int .i64 S1.next))
   clear hA2 ho2 H1 HO1 HX1 HX2 HO2 HA HO HX hx0 hx1 hx2 hxf c18 c20 fz hlt HS
   go_wp2_with fail
   go_roundg n
   case measure => omega
   case rel => exact ⟨_, HR2.out, HA3.out, HO3.out, HX3.out⟩
  ·rw [h0] at c18
   clear c19
   have hw : IntKind.i64.wrap (S'.steps + 1) = S'.steps + 1 := IntWalk.i64_in _ (by omega)
   have d : decide (S'.steps < fuel) = true := decide_eq_true h2
   have H1 := Lib.hid (HA.out.set_steps HK.out (S'.steps + 1))
   have HO1 := Lib.hid (HO.out.setCell (a := ⟨K.b, 20, none⟩) HK.out.hb (.int .i64 (S'.steps + 1)))
   have HX1 := Lib.hid (HX.out.far (a := ⟨K.b, 20, none⟩) (fun e => hn1 (e ▸ HK.out.hb)) (.int .i64 (S'.steps + 1)))
   have HS := Lib.hid hs
   have HS2 := Lib.hid hS2
   have d2 : ((t : Int) != 0) = true := bne_iff_ne.2 (by omega)
   clear hs h2 ht hS2
   go_wp2_with fail
   refine (HS.out _ H1.out (HE.out.only HO1.out)).mono ?_
   rintro e w2 ⟨rfl, hA2, ho2⟩
   simp only at hA2
   have HX2 := Lib.hid (HX1.out.only ho2 hn1)
   have HO2 := Lib.hid (HO1.out.trans ho2)
   have fz2 := hA2.fz
   have c18 := hA2.c18
   have c19 := hA2.c19
   have c20 := hA2.c20
   have hlt2 := hA2.lt
   have HA3 := Lib.hid ((hA2.set_kind HK.out 2).set_trap HK.out t)
   have HO3 := Lib.hid ((HO2.out.setCell (a := ⟨K.b, 18, none⟩) HK.out.hb (.int .u8 (2 : Nat))).setCell (a := ⟨K.b, 19, none⟩) HK.out.hb (.int .u8 (t : Nat)))
   have HX3 := Lib.hid ((HX2.out.far (a := ⟨K.b, 18, none⟩) (fun e => hn1 (e ▸ HK.out.hb)) (.int .u8 (2 : Nat))).far (a := ⟨K.b, 19, none⟩) (fun e => hn1 (e ▸ HK.out.hb)) (.int .u8 (t : Nat)))
   have HE2 := Lib.hid (show endOf S2 = (2, t, S1.steps) by rw [HS2.out]; rfl)
   have hX3 := Lib.hid (((HX3.out.set 0 (.int .u8 (2 : Nat))).set 1 (.int .u8 (t : Nat))).set 2 (.int .i64 S1.steps))
   have hx0 : w2.cell? ⟨W.heap.size, 0, none⟩ = some (.int .u8 0) := (HX2.out.cell 0).trans rfl
   have hx1 : w2.cell? ⟨W.heap.size, 1, none⟩ = some (.int .u8 0) := (HX2.out.cell 1).trans rfl
   have hx2 : w2.cell? ⟨W.heap.size, 2, none⟩ = some (.int .i64 0) := (HX2.out.cell 2).trans rfl
   have hxf := HX2.out.frozen
   have hxl := HX2.out.lt
   have hbne : K.b ≠ W.heap.size := fun e => hn1 (e ▸ HK.out.hb)
   clear hA2 ho2 H1 HO1 HX1 HX2 HO2 HA HO HX fz hlt HS
   go_wp2_with fail
   refine run_ret3 hX3.out rfl rfl ?_
   unfold RunEndA
   rw [HE2.out, HS2.out]
   exact ⟨rfl, only3 HO3.out _ _ _, at_set3 HK.out H.out HO3.out HA3.out HX3.out hn1 _ _ _⟩
theorem AtW.of_at {K : MK} {S : St} {a : List Int} {W : World} (h : At K { S with args := a } W) : AtW K S W := by
 obtain ⟨A, c, h1, _⟩ := h.box
 obtain ⟨re, im, hre, h3⟩ := h.term
 exact ⟨⟨_, h1, A, c, a, rfl⟩, ⟨re, im, hre, h3⟩, h.mem, ⟨h.hp.box, h.hp.map⟩⟩
theorem run_any (K : MK) (k : KOk K) (fuel : Int) (hf : fuel ≤ 9223372036854775807) (N : Nat) (S S2 : St) (hr : RunTo K fuel N S S2) (hst : 0 ≤ S.steps) (W : World) (h : At K S W) (hen : EnvK K W) : Calls Tryz.prog 10 #[.pointer (some ⟨K.b, 0, none⟩), .int .i64 fuel] W (RunEnd K W S2) :=
 (run_at K k fuel hf N S S2 hr hst W h hen).mono fun _ _ ⟨he, ho, a, ha⟩ => ⟨he, AtW.of_at ha, ho⟩
end Go.Proofs.YtabenhpjgjjgnaaGreatDoor
/- A machine's own copy of a program of one module. -/
namespace Go.Proofs.YtabenhpjgjjgnaaGreatDoor
open Go.RowKit
set_option maxRecDepth 100000
def procCells8 (p : ProcL) : List Value := [.int .i64 p.at_, .int .i64 p.params, .int .i64 p.locals, .int .i64 p.depth, .int .i64 p.level, .bool p.fn]
def intCells8 (i : Int) : List Value := [.int .i64 i]
theorem etProcs8 : ET Tryz.prog 66 113 6 48 := et_of (z := .agg #[.int .i64 0, .int .i64 0, .int .i64 0, .int .i64 0, .int .i64 0, .bool false]) Tryz.underlying66 (by kernel_rfl) rfl (by omega)
theorem etInts8 : ET Tryz.prog 23 3 1 8 := et_of (z := .int .i64 0) Tryz.underlying23 (by kernel_rfl) rfl (by omega)
theorem etMods8 : ET Tryz.prog 22 68 5 96 := et_of (z := .agg #[.string ⟨#[]⟩, .slice none 0 0, .slice none 0 0, .int .i64 0, .slice none 0 0]) Tryz.underlying22 (by kernel_rfl) rfl (by omega)
theorem flat8 {α : Type} (f : α → List Value) (c : Nat) (h : ∀ x, (f x).length = c) (l : List α) (d : α) (j t : Nat) (hj : j < l.length) (ht : t < c) : (l.flatMap f)[j * c + t]? = (f (l.getD j d))[t]? := by
 induction l generalizing j with
 | nil => simp at hj
 | cons x l ih =>
   rw [List.flatMap_cons, List.getElem?_append]
   cases j with
   | zero => rw [if_pos (by rw [h]; omega)]; simp
   | succ j =>
     have e : (j + 1) * c + t = j * c + t + c := by rw [Nat.add_mul]; omega
     rw [if_neg (by rw [h]; omega), h, e, Nat.add_sub_cancel, ih j (by simpa using hj)]
     simp
theorem len8 {α : Type} (f : α → List Value) (c : Nat) (h : ∀ x, (f x).length = c) (l : List α) : (l.flatMap f).length = l.length * c := by
 induction l with
 | nil => simp
 | cons x l ih => rw [List.flatMap_cons, List.length_append, h, ih, List.length_cons, Nat.add_mul]; omega
theorem lt_of_get8 {w : World} {k : Nat} {o : Obj} (h : w.heap[k]? = some o) : k < w.heap.size := by
 rcases Nat.lt_or_ge k w.heap.size with h' | h'
 ·exact h'
 ·rw [Array.getElem?_eq_none h'] at h; cases h
theorem own8 {w : World} {B : Nat} {e : TypeId} {c : Nat} {A : Option Addr} {n cap : Nat} {α : Type} {f : α → List Value} {l : List α} (hc : ∀ x, (f x).length = c) (h : w.ownsRow B e c (.slice A n cap) l.length (l.flatMap f)) (d : α) {P : Nat → Nat → Nat → Prop}
 (hP : ∀ g j o, (∀ t u, (f (l.getD j d))[t]? = some u → w.cell? ⟨g, o + t, none⟩ = some u) → P j g o) : Each w A c l.length P := by
 have h' := h
 rcases h.2 with ⟨_, h0⟩ | ⟨g, cap', cur, he, _, hgg, _⟩
 ·exact .inl h0
 ·refine .inr ⟨g, 0, by injection he, lt_of_get8 hgg, fun j hj => hP g j _ fun t u htu => ?_⟩
  have ht : t < c := by have := (List.getElem?_eq_some_iff.1 htu).1; rwa [hc] at this
  have := h'.cells (g := g) (by rw [he]; rfl) (j * c + t) u (by rw [flat8 f c hc l d j t hj ht]; exact htu)
  rw [WideShapes.add_plain] at this
  rw [Nat.add_assoc]; exact this
theorem own_procs8 {w : World} {B : Nat} {A : Option Addr} {n cap : Nat} {l : List ProcL} (h : w.ownsRow B 113 6 (.slice A n cap) l.length (l.flatMap procCells8)) : Procs w A l :=
 own8 (f := procCells8) (c := 6) (P := fun j b o => ProcAt w b o (l.getD j default)) (fun _ => rfl) h default fun _ _ _ hu => ⟨hu 0 _ rfl, hu 1 _ rfl, hu 2 _ rfl, hu 3 _ rfl, hu 4 _ rfl, hu 5 _ rfl⟩
theorem own_ints8 {w : World} {B : Nat} {A : Option Addr} {n cap : Nat} {l : List Int} (h : w.ownsRow B 3 1 (.slice A n cap) l.length (l.flatMap intCells8)) : Ints w A l :=
 own8 (f := intCells8) (c := 1) (P := fun j b o => w.cell? ⟨b, o, none⟩ = some (.int .i64 (l.getD j 0))) (fun _ => rfl) h 0 fun _ _ _ hu => hu 0 _ rfl
theorem src8 {α : Type} {tx e' : TypeId} {f : α → List Value} {c : Nat} (hk : Tryz.prog.underlying tx = some (.slice e')) (hc0 : 0 < c) (hc : ∀ x, (f x).length = c) (h1 : ∀ x, ∀ u ∈ f x, u.oneCell' = true) (d : α) {w : World} {A : Option Addr} {cap : Nat} {l : List α}
 (h : Each w A c l.length fun j b o => ∀ t u, (f (l.getD j d))[t]? = some u → w.cell? ⟨b, o + t, none⟩ = some u) (hA : A = none → l = []) : Src Tryz.prog c tx (.slice A l.length cap) l.length (l.flatMap f) w := by
 have hlen : (l.flatMap f).length = l.length * c :=
  len8 f c hc l
 cases A with
 | none => obtain rfl := hA rfl; exact Src.ofNil w hk cap
 | some a =>
   refine Src.ofSlice w hk a l.length cap _ hlen (fun j u hj => ?_) ?_
   ·have hjl : j < l.length * c := by rw [← hlen]; exact (List.getElem?_eq_some_iff.1 hj).1
    have hq : j / c < l.length := Nat.div_lt_of_lt_mul (by rw [Nat.mul_comm]; exact hjl)
    obtain ⟨b, off, e, _, hcell⟩ := h.at_ hq
    cases e
    rw [WideShapes.add_plain]
    have e : j = j / c * c + j % c := by rw [Nat.mul_comm]; exact (Nat.div_add_mod j c).symm
    have := hcell (j % c) u (by rw [← flat8 f c hc l d (j / c) (j % c) hq (Nat.mod_lt _ hc0), ← e]; exact hj)
    rw [Nat.add_assoc, ← e] at this
    exact this
   ·intro u hu
    obtain ⟨x, _, hx⟩ := List.mem_flatMap.1 hu
    exact h1 x u hx
theorem src_procs8 {w : World} {A : Option Addr} {cap : Nat} {l : List ProcL} (h : Procs w A l) (hA : A = none → l = []) : Src Tryz.prog 6 66 (.slice A l.length cap) l.length (l.flatMap procCells8) w :=
 src8 (f := procCells8) (c := 6) Tryz.underlying66 (by omega) (fun _ => rfl) (fun x u hu => by simp [procCells8] at hu; rcases hu with rfl | rfl | rfl | rfl | rfl | rfl <;> rfl) default
  (Each.reads h ⟨fun _ _ _ h => h, Nat.le_refl _⟩ fun j b o hp t u hu => by
   obtain ⟨h0, h1, h2, h3, h4, h5⟩ := hp
   match t, hu with
   | 0, hu => cases hu; exact h0
   | 1, hu => cases hu; exact h1
   | 2, hu => cases hu; exact h2
   | 3, hu => cases hu; exact h3
   | 4, hu => cases hu; exact h4
   | 5, hu => cases hu; exact h5
   | n + 6, hu => simp [procCells8] at hu) hA
theorem src_ints8 {w : World} {A : Option Addr} {cap : Nat} {l : List Int} (h : Ints w A l) (hA : A = none → l = []) : Src Tryz.prog 1 23 (.slice A l.length cap) l.length (l.flatMap intCells8) w :=
 src8 (f := intCells8) (c := 1) Tryz.underlying23 (by omega) (fun _ => rfl) (fun x u hu => by simp [intCells8] at hu; subst hu; rfl) 0
  (Each.reads h ⟨fun _ _ _ h => h, Nat.le_refl _⟩ fun j b o hp t u hu => by
   match t, hu with
   | 0, hu => cases hu; exact hp
   | n + 1, hu => simp [intCells8] at hu) hA
theorem each_none {w : World} {c n : Nat} {P : Nat → Nat → Nat → Prop} (h : Each w none c n P) : n = 0 := by
 rcases h with h | ⟨_, _, e, _⟩
 ·exact h
 ·cases e
theorem Procs.only {bs : List Nat} {W W' : World} {A : Option Addr} {l : List ProcL} (h : Procs (mask bs W) A l) (ho : Only bs W W') : Procs (mask bs W') A l := h.later ho (by rw [mask_size]; exact Nat.le_refl _)
def modCells8 (m : ModL) (s : MS) : List Value := [.string ⟨m.code.toArray⟩, .slice s.A1 m.procs.length s.c1, .slice s.A2 m.imports.length s.c2, .int .i64 m.data, .slice s.A3 m.init.length s.c3]
theorem src_mod8 (w : World) (k : Nat) (hk : w.heap.size = k) (a b c d e : Value) (ha : a.oneCell' = true := by rfl) (hb : b.oneCell' = true := by rfl) (hc : c.oneCell' = true := by rfl) (hd : d.oneCell' = true := by rfl) (he : e.oneCell' = true := by rfl) :
 Src Tryz.prog 5 22 (.slice (some ⟨k, 0, none⟩) 1 1) 1 [a, b, c, d, e] (w.alloc (.cells #[a, b, c, d, e] 68)) := by
 rw [← hk]
 exact src_new etMods8 w #[a, b, c, d, e] 68 1 1 rfl (by intro u hu; simp at hu; rcases hu with rfl | rfl | rfl | rfl | rfl <;> assumption)
end Go.Proofs.YtabenhpjgjjgnaaGreatDoor
