/- A machine's steps that call, mark, go back, load. A machine that goes over a body and a function that calls itself: what its words are behind each instruction. A machine that goes over a function that calls itself: it marks, calls, goes back. A function that calls itself, in a machine: what it answers, as deep as there is room. Condition: what lies in memory can lie there; what each theorem says. -/
import Derived.Test.YtpfcojnkflcnoaaGreatDoorBl
import Derived.Test.YtpfcojnkflcnoaaGreatDoorBr
import Derived.Test.YtpfcojnkflcnoaaGreatDoorBm
/- A machine's steps that call, mark, go back, load. Condition: what lies in memory can lie there. -/
namespace Go.Proofs.YtpfcojnkflcnoaaGreatDoor
open Go.RowKit
set_option maxRecDepth 100000
attribute [local go_sem ↓] Go.wp_at_zero Go.wp_at_succ

theorem step_mark (K : MK) (k : KOk K) (S : St) (s : SOk K S) (ar : List Int) (nx : Int) (hd : K16.decodeL (modOf K S).code S.at_ = ((61, ar), nx, 0)) : StepOk K S (marksM K { S with next := nx, args := ar }) := by
  intro W h hen
  have s' : SOk K { S with next := nx, args := ar } := ⟨⟨s.mod0, s.mod1, s.proc0, s.proc1⟩, s.fp1, s.sp0, s.sp1, s.top⟩
  refine step_any K k S s 61 ar nx 0 hd W h hen _ (fun h0 => absurd rfl h0) (fun _ ht => absurd (by decide) ht) (fun _ ht w' B0 r i s2 j k2 v h' ho hB hc q1 q2 q3 => ?_)
  obtain rfl := tgt61 q1 q2
  obtain rfl := q3
  exact callsV rfl (fun vs w => by go_simp) (mark_any K k _ s' w' h')
theorem step_call (K : MK) (k : KOk K) (S : St) (s : SOk K S) (ar : List Int) (nx : Int) (hd : K16.decodeL (modOf K S).code S.at_ = ((62, ar), nx, 0)) (ha : 1 < ar.length) (hl0 : 0 ≤ ar.getD 0 0) (hl1 : ar.getD 0 0 ≤ 1000000) (hq0 : 0 ≤ ar.getD 1 0) (hq1 : ar.getD 1 0 ≤ 1000000) (hd0 : 0 ≤ S.depth) (hd1 : S.depth ≤ 1000000000) :
    StepOk K S (callM K { S with next := nx, args := ar }) := by
  intro W h hen
  have s' : SOk K { S with next := nx, args := ar } := ⟨⟨s.mod0, s.mod1, s.proc0, s.proc1⟩, s.fp1, s.sp0, s.sp1, s.top⟩
  refine step_any K k S s 62 ar nx 0 hd W h hen _ (fun h0 => absurd rfl h0) (fun _ ht => absurd (by decide) ht) (fun _ ht w' B0 r i s2 j k2 v h' ho hB hc q1 q2 q3 => ?_)
  obtain rfl := tgt62 q1 q2
  obtain rfl := q3
  exact callsV rfl (fun vs w => by go_simp) (call_any K k _ s' ha hl0 hl1 hq0 hq1 hd0 hd1 w' h')
theorem step_retf (K : MK) (k : KOk K) (S : St) (s : SOk K S) (ar : List Int) (nx : Int) (S1 : St) (y : Nat) (hd : K16.decodeL (modOf K S).code S.at_ = ((66, ar), nx, 0)) (hpop : popsM K 1 { S with next := nx, args := ar } = (S1, [y], 0)) (s1 : SOk K S1) (hf : (hereP K S1).fn = true) (hB : BackOk K S1 true) (s2 : SOk K (backM S1)) (hd0 : -1000000000 ≤ S1.depth) (hd1 : S1.depth ≤ 1000000000) :
    StepOk K S (pushM K y (backM S1)) := by
  intro W h hen
  have s' : SOk K { S with next := nx, args := ar } := ⟨⟨s.mod0, s.mod1, s.proc0, s.proc1⟩, s.fp1, s.sp0, s.sp1, s.top⟩
  refine step_any K k S s 66 ar nx 0 hd W h hen _ (fun h0 => absurd rfl h0) (fun _ ht => absurd (by decide) ht) (fun _ ht w' B0 r i s3 j k2 v h' ho hB0 hc q1 q2 q3 => ?_)
  obtain rfl := tgt66 q1 q2
  obtain rfl := q3
  exact callsV rfl (fun vs w => by go_simp) (retf_back K k _ S1 y s' hpop s1 hf hB s2 hd0 hd1 w' h')
theorem step_ll (K : MK) (k : KOk K) (S : St) (s : SOk K S) (ar : List Int) (nx : Int) (hd : K16.decodeL (modOf K S).code S.at_ = ((44, ar), nx, 0)) (ha : 1 < ar.length) (hl0 : 0 ≤ ar.getD 0 0) (hl1 : ar.getD 0 0 ≤ 1000000) (hq0 : 0 ≤ ar.getD 1 0) (hq1 : ar.getD 1 0 ≤ 1000000) :
    StepOk K S (localM K (loadsM K) { S with next := nx, args := ar }) := by
  intro W h hen
  have s' : SOk K { S with next := nx, args := ar } := ⟨⟨s.mod0, s.mod1, s.proc0, s.proc1⟩, s.fp1, s.sp0, s.sp1, s.top⟩
  refine step_any K k S s 44 ar nx 0 hd W h hen _ (fun h0 => absurd rfl h0) (fun _ ht => absurd (by decide) ht) (fun _ ht w' B0 r i s2 j k2 v h' ho hB hc q1 q2 q3 => ?_)
  obtain rfl := tgt44 q1 q2
  obtain ⟨x, y, rfl, hx, hy, cx, cy⟩ := q3
  show CallsV (.func (.func 123) #[] _) _ _
  exact callsV rfl (fun vs w => by go_simp) (localLoads_any K k _ s' ha hl0 hl1 hq0 hq1 w' h' x y hx hy cx cy)
end Go.Proofs.YtpfcojnkflcnoaaGreatDoor
/- A machine that goes over a body and a function that calls itself: what its words are behind each instruction. No condition beyond what each theorem says. -/
namespace Go.Proofs.YtpfcojnkflcnoaaGreatDoor
open Go.RowKit
set_option maxRecDepth 100000

def sumM (code : List UInt8) : ModL := ⟨code, [⟨0, 0, 0, 8, 1, false⟩, ⟨10, 1, 0, 10, 1, true⟩], [], 0, []⟩
structure Sum (K : MK) (code : List UInt8) : Prop where
  mods : K.mods = [sumM code]
  order : K.order = [0]
  low : K.low = 1
  high : K.high = K.n + 1
  most : K.most = 9
def bs (p : Nat) : Nat := if p = 0 then 5 else 6
def dp (p : Nat) : Nat := if p = 0 then 8 else 10
/-- It goes over procedure p, whose frame lies at f, at a place, with these words pushed, so deep, behind so many steps, having written this; below its pushed words lies B. -/
structure Fr (K : MK) (S : St) (B : Nat → Nat) (a f p : Nat) (l : List Nat) (d t : Nat) (o : List UInt8) : Prop where
  ord : S.ord = 1
  mod : S.mod = 0
  proc : S.proc = p
  at_ : S.at_ = a
  fp : S.fp = f
  sp : S.sp = f + bs p + l.length
  few : l.length ≤ dp p
  f1 : 1 ≤ f
  p1 : p ≤ 1
  top : f + bs p + dp p ≤ K.n + 1
  depth : S.depth = d
  dle : d ≤ 1000
  kind : S.kind = 0
  trap : S.trap = 0
  steps : S.steps = t
  out : S.out = o
  low : ∀ i, i < f + bs p - 1 → S.ws i = B i
  words : ∀ j, j < l.length → S.ws (f + bs p - 1 + j) = l.getD j 0
theorem bs_le (p : Nat) : 5 ≤ bs p ∧ bs p ≤ 6 := by unfold bs; split <;> omega
theorem dp_le (p : Nat) : 8 ≤ dp p ∧ dp p ≤ 10 := by unfold dp; split <;> omega
section
variable {K : MK} {code : List UInt8} {S : St} {B : Nat → Nat} {a f p d t : Nat} {l : List Nat} {o : List UInt8}
theorem fr_mod (k : Sum K code) (h : Fr K S B a f p l d t o) : modOf K S = sumM code := by unfold modOf; rw [k.mods, h.mod]; rfl
theorem fr_here (k : Sum K code) (h : Fr K S B a f p l d t o) : baseN (hereP K S) = bs p ∧ (hereP K S).depth = dp p ∧ (hereP K S).level = 1 ∧ (hereP K S).fn = decide (p = 1) := by
  unfold hereP; rw [fr_mod k h, h.proc]
  rcases (show p = 0 ∨ p = 1 by have := h.p1; omega) with rfl | rfl <;> exact ⟨rfl, rfl, rfl, rfl⟩
theorem fr_ok (k : Sum K code) (h : Fr K S B a f p l d t o) : SOk K S := by
  obtain ⟨e1, e2, _, _⟩ := fr_here k h
  have hf := h.few
  have h1 := h.f1
  have h2 := h.top
  refine ⟨⟨?_, ?_, ?_, ?_⟩, ?_, ?_, ?_, ?_⟩
  · rw [h.mod]; omega
  · rw [h.mod, k.mods]; simp
  · rw [h.proc]; omega
  · rw [h.proc, fr_mod k h]; have := h.p1; simp [sumM]; omega
  · rw [h.fp, k.low]; omega
  · rw [h.fp, h.sp, e1]; omega
  · rw [h.fp, h.sp, e1, e2]; omega
  · rw [h.fp, e1, e2, k.high]; omega
theorem fr_push (k : Sum K code) (h : Fr K S B a f p l d t o) (hl : l.length < dp p) (x : Nat) : ∃ S', pushM K x S = (S', 0) ∧ Fr K S' B a f p (l ++ [x]) d t o ∧ S'.next = S.next ∧ S'.args = S.args := by
  obtain ⟨e1, e2, _, _⟩ := fr_here k h
  have h1 := h.f1
  have h2 := h.top
  have hb := bs_le p
  have ht : ¬ topN K S ≤ S.sp := by unfold topN; rw [e1, e2, h.fp, h.sp]; omega
  have hin : inM K.n S.sp = true := by unfold inM; rw [h.sp]; simp; omega
  have hst : storeM K.n S.ws S.sp x = upd S.ws (f + bs p - 1 + l.length) x := by unfold storeM; rw [if_pos hin, h.sp, show ((f : Int) + (bs p : Nat) + (l.length : Int)).toNat - 1 = f + bs p - 1 + l.length by omega]
  refine ⟨{ S with ws := upd S.ws (f + bs p - 1 + l.length) x, sp := S.sp + 1 }, by unfold pushM; rw [if_neg ht, hst], ?_, rfl, rfl⟩
  refine ⟨h.ord, h.mod, h.proc, h.at_, h.fp, ?_, ?_, h1, h.p1, h2, h.depth, h.dle, h.kind, h.trap, h.steps, h.out, ?_, ?_⟩
  · simp only [h.sp, List.length_append, List.length_cons, List.length_nil]; omega
  · simp; omega
  · intro i hi
    simp only [upd]; rw [if_neg (by omega)]; exact h.low i hi
  · intro j hj
    simp only [List.length_append, List.length_cons, List.length_nil] at hj
    simp only [upd]
    by_cases hjl : j = l.length
    · subst hjl; rw [if_pos rfl]; simp [List.getD_eq_getElem?_getD]
    · rw [if_neg (by omega), h.words j (by omega)]
      simp [List.getD_eq_getElem?_getD, List.getElem?_append_left (show j < l.length by omega)]
theorem fr_pops (k : Sum K code) {m : List Nat} (h : Fr K S B a f p (l ++ m) d t o) : ∃ S', popsM K m.length S = (S', m, 0) ∧ Fr K S' B a f p l d t o ∧ S'.next = S.next ∧ S'.args = S.args := by
  obtain ⟨e1, e2, _, _⟩ := fr_here k h
  have hsp := h.sp
  rw [List.length_append] at hsp
  have hf := h.few
  rw [List.length_append] at hf
  have h1 := h.f1
  have hb := bs_le p
  have ht : ¬ S.sp - m.length < floorN K S := by unfold floorN; rw [e1, h.fp, hsp]; omega
  have hrow : rowM S.ws (S.sp - m.length) m.length = m := by
    apply List.ext_getElem
    · simp [rowM]
    · intro j h1' h2'
      have hw := h.words (l.length + j) (by rw [List.length_append]; omega)
      simp only [rowM, List.getElem_map, List.getElem_range]
      rw [show (S.sp - (m.length : Int)).toNat - 1 + j = f + bs p - 1 + (l.length + j) by omega, hw]
      simp [List.getD_eq_getElem?_getD, h2']
  refine ⟨{ S with sp := S.sp - m.length }, by unfold popsM; rw [if_neg ht, hrow], ?_, rfl, rfl⟩
  refine ⟨h.ord, h.mod, h.proc, h.at_, h.fp, ?_, by omega, h.f1, h.p1, h.top, h.depth, h.dle, h.kind, h.trap, h.steps, h.out, h.low, ?_⟩
  · simp only; omega
  · intro j hj
    simp only
    rw [h.words j (by rw [List.length_append]; omega)]
    simp [List.getD_eq_getElem?_getD, List.getElem?_append_left hj]
theorem fr_tick (h : Fr K S B a f p l d t o) : Fr K { S with steps := S.steps + 1 } B a f p l d (t + 1) o :=
  ⟨h.ord, h.mod, h.proc, h.at_, h.fp, h.sp, h.few, h.f1, h.p1, h.top, h.depth, h.dle, h.kind, h.trap, by simp only [h.steps]; omega, h.out, h.low, h.words⟩
theorem fr_dec (h : Fr K S B a f p l d t o) (nx : Int) (ar : List Int) : Fr K { S with next := nx, args := ar } B a f p l d t o :=
  ⟨h.ord, h.mod, h.proc, h.at_, h.fp, h.sp, h.few, h.f1, h.p1, h.top, h.depth, h.dle, h.kind, h.trap, h.steps, h.out, h.low, h.words⟩
theorem fr_go (h : Fr K S B a f p l d t o) {b : Nat} (hb : S.next = b) : Fr K { S with at_ := S.next } B b f p l d t o :=
  ⟨h.ord, h.mod, h.proc, hb, h.fp, h.sp, h.few, h.f1, h.p1, h.top, h.depth, h.dle, h.kind, h.trap, h.steps, h.out, h.low, h.words⟩
theorem fr_next (h : Fr K S B a f p l d t o) (nx : Int) : Fr K { S with next := nx } B a f p l d t o :=
  ⟨h.ord, h.mod, h.proc, h.at_, h.fp, h.sp, h.few, h.f1, h.p1, h.top, h.depth, h.dle, h.kind, h.trap, h.steps, h.out, h.low, h.words⟩
theorem fr_out (h : Fr K S B a f p l d t o) (u : List UInt8) : Fr K { S with out := u } B a f p l d t u :=
  ⟨h.ord, h.mod, h.proc, h.at_, h.fp, h.sp, h.few, h.f1, h.p1, h.top, h.depth, h.dle, h.kind, h.trap, h.steps, rfl, h.low, h.words⟩
/-- An instruction's step. -/
theorem fr_step (k : Sum K code) (ko : KOk K) (h : Fr K S B a f p l d t o) {op : Nat} {ar : List Int} {b : Nat} (hd : K16.decodeL code a = ((op, ar), (b : Int), 0)) (hb : b ≤ 65535) (ho : o.length ≤ 1000000) (hk : takesN op ≠ 0 ∨ op = 40 ∨ op = 55 ∨ op = 57 ∨ op = 65 ∨ op = 68 ∨ op = 69 ∨ op = 70 ∨ op = 78)
    (ha : (op = 40 ∨ op = 55 ∨ op = 57) → 0 < ar.length ∧ -1000000 ≤ ar.getD 0 0 ∧ ar.getD 0 0 ≤ 1000000) (hr : op = 65 → p = 0 ∧ f = 1 ∧ B 1 = 0) :
    StepOk K { S with steps := S.steps + 1 } (doM K op { S with steps := S.steps + 1, next := b, args := ar }) := by
  have h1 := fr_dec (fr_tick h) b ar
  obtain ⟨_, _, _, e4⟩ := fr_here k h1
  refine step_ok K ko _ (fr_ok k (fr_tick h)) op ar b ?_ ⟨hk, ha, ?_, ?_, ?_, ?_, ?_, ?_, ?_, ?_, ?_⟩
  · rw [fr_mod k (fr_tick h)]
    show K16.decodeL code S.at_ = _
    rw [h.at_]; exact hd
  · intro h65
    obtain ⟨rfl, rfl, hb1⟩ := hr h65
    refine ⟨by rw [e4]; rfl, ?_, ?_⟩
    · show S.ws (S.fp.toNat - 1 + 1) = 0
      rw [h.fp]
      exact (h.low 1 (by decide)).trans hb1
    · rw [k.low]; exact h.fp
  · show 0 ≤ S.ord
    rw [h.ord]; omega
  · show S.ord ≤ K.order.length
    rw [h.ord, k.order]; decide
  · show (0 : Int) ≤ b
    omega
  · show (b : Int) ≤ 1000000
    omega
  · rw [k.most]; omega
  · rw [k.most]; omega
  · show S.out.length ≤ 1000000
    rw [h.out]; exact ho
  · rw [k.order]; decide
theorem fr_lit (k : Sum K code) (ko : KOk K) (h : Fr K S B a f p l d t o) {x b : Nat} (hd : K16.decodeL code a = ((40, [(x : Int)]), (b : Int), 0)) (hb : b ≤ 65535) (ho : o.length ≤ 1000000) (hl : l.length < dp p) (hx : x < 65536) :
    ∃ S', StepOk K { S with steps := S.steps + 1 } (S', 0) ∧ Fr K { S' with at_ := S'.next } B b f p (l ++ [x]) d (t + 1) o := by
  have hs := fr_step k ko h hd hb ho (by simp) (fun _ => by simp; omega) (fun hc => by omega)
  obtain ⟨S', h1, h2, h3, _⟩ := fr_push k (fr_dec (fr_tick h) (b : Int) [(x : Int)]) hl x
  refine ⟨S', ?_, fr_go h2 h3⟩
  have e : doM K 40 { S with steps := S.steps + 1, next := b, args := [(x : Int)] } = (S', 0) := by
    rw [← h1]
    show pushM K (w16 (x : Int)) _ = _
    rw [show w16 (x : Int) = x by unfold w16; omega]
  rw [← e]; exact hs
theorem fr_op2 (k : Sum K code) (ko : KOk K) {x y : Nat} (h : Fr K S B a f p (l ++ [x, y]) d t o) {n b : Nat} (hd : K16.decodeL code a = ((n, []), (b : Int), 0)) (hn : takesN n = 2) (hb : b ≤ 65535) (ho : o.length ≤ 1000000) {z : Nat} (hz : opI n x y = ((z : Int), 0)) :
    ∃ S', StepOk K { S with steps := S.steps + 1 } (S', 0) ∧ Fr K { S' with at_ := S'.next } B b f p (l ++ [z]) d (t + 1) o := by
  have hn0 : n ≤ 31 ∧ n ≠ 0 := by unfold takesN at hn; split at hn <;> omega
  have hs := fr_step k ko h hd hb ho (.inl (by omega)) (fun hc => by omega) (fun hc => by omega)
  obtain ⟨S', h1, h2, h3, _⟩ := fr_pops k (m := [x, y]) (fr_dec (fr_tick h) (b : Int) [])
  have hl : l.length < dp p := by have := h.few; rw [List.length_append] at this; simp only [List.length_cons, List.length_nil] at this; omega
  have e : doM K n { S with steps := S.steps + 1, next := b, args := [] } = opM K n 2 { S with steps := S.steps + 1, next := b, args := [] } := by unfold doM; rw [if_pos (by omega), hn]
  rw [e] at hs
  have e2 : opM K n 2 { S with steps := S.steps + 1, next := b, args := [] } = pushM K z S' := by
    show opR K n 2 (popsM K 2 _) = _
    rw [show (2 : Nat) = [x, y].length from rfl, h1]
    unfold opR
    simp [hz]
  obtain ⟨S2, h4, h5, h6, _⟩ := fr_push k h2 hl z
  refine ⟨S2, ?_, fr_go h5 (h6.trans h3)⟩
  rw [e2, h4] at hs
  exact hs
theorem fr_wrc (k : Sum K code) (ko : KOk K) {x : Nat} (h : Fr K S B a f p (l ++ [x]) d t o) {b : Nat} (hd : K16.decodeL code a = ((78, []), (b : Int), 0)) (hb : b ≤ 65535) (ho : o.length + (textL false x).length ≤ 9) :
    ∃ S', StepOk K { S with steps := S.steps + 1 } (S', 0) ∧ Fr K { S' with at_ := S'.next } B b f p l d (t + 1) (o ++ textL false x) := by
  have hs := fr_step k ko h hd hb (by omega) (by simp) (fun hc => by omega) (fun hc => by omega)
  obtain ⟨S', h1, h2, h3, _⟩ := fr_pops k (m := [x]) (fr_dec (fr_tick h) (b : Int) [])
  refine ⟨{ S' with out := S'.out ++ textL false x }, ?_, ?_⟩
  · have e : doM K 78 { S with steps := S.steps + 1, next := b, args := [] } = ({ S' with out := S'.out ++ textL false x }, 0) := by
      show textsR K false (popsM K 1 _) = _
      rw [show (1 : Nat) = [x].length from rfl, h1]
      unfold textsR
      rw [if_neg (by simp)]
      show writesM K (textL false x) S' = _
      unfold writesM writeM
      rw [if_neg (by rw [k.most, h2.out]; omega)]
      rfl
    rw [← e]; exact hs
  · have h4 := fr_out h2 (S'.out ++ textL false x)
    rw [h2.out] at h4 ⊢
    exact fr_go h4 h3
theorem fr_ret (k : Sum K code) (ko : KOk K) (h : Fr K S B a 1 0 l d t o) (hB : B 1 = 0) {b : Nat} (hd : K16.decodeL code a = ((65, []), (b : Int), 0)) (hb : b ≤ 65535) (ho : o.length ≤ 1000000) :
    ∃ S', StepOk K { S with steps := S.steps + 1 } (S', 0) ∧ S'.kind = 1 ∧ S'.trap = 0 ∧ S'.steps = t + 1 ∧ S'.out = o ∧ S'.depth = 0 := by
  have hs := fr_step k ko h hd hb ho (by simp) (fun hc => by omega) (fun _ => ⟨rfl, rfl, hB⟩)
  refine ⟨{ S with steps := S.steps + 1, next := b, args := [], kind := 1, depth := 0 }, ?_, rfl, h.trap, by simp only [h.steps], h.out, rfl⟩
  have e : doM K 65 { S with steps := S.steps + 1, next := b, args := [] } = ({ S with steps := S.steps + 1, next := b, args := [], kind := 1, depth := 0 }, 0) := by
    show beginsM K _ = _
    unfold beginsM
    rw [if_pos (by simp only [h.ord, k.order]; rfl)]
  rw [← e]; exact hs
theorem fr_jnz (k : Sum K code) (ko : KOk K) {x : Nat} (h : Fr K S B a f p (l ++ [x]) d t o) {b c : Nat} {far : Int} (hd : K16.decodeL code a = ((57, [far]), (b : Int), 0)) (hb : b ≤ 65535) (ho : o.length ≤ 1000000) (hf0 : 0 ≤ far) (hf1 : far ≤ 1000000) (hc : (b : Int) + far = c) (hcl : c ≤ code.length) :
    ∃ S', StepOk K { S with steps := S.steps + 1 } (S', 0) ∧ Fr K { S' with at_ := S'.next } B (if x = 0 then b else c) f p l d (t + 1) o := by
  have hs := fr_step k ko h hd hb ho (by simp) (fun _ => by simp; omega) (fun hc => by omega)
  obtain ⟨S', h1, h2, h3, h4⟩ := fr_pops k (m := [x]) (fr_dec (fr_tick h) (b : Int) [far])
  have e : doM K 57 { S with steps := S.steps + 1, next := b, args := [far] } = if x = 0 then (S', 0) else ({ S' with next := (b : Int) + far }, 0) := by
    show jumpsR K false (popsM K 1 _) = _
    rw [show (1 : Nat) = [x].length from rfl, h1]
    unfold jumpsR
    rw [if_neg (by simp)]
    by_cases hx : x = 0
    · subst hx; rw [if_pos (by simp), if_pos rfl]
    · rw [if_neg (by simp [hx]), if_neg hx]
      have ha : S'.args.getD 0 0 = far := by rw [h4]; rfl
      have hn : S'.next = b := h3
      show goesM K (S'.args.getD 0 0) S' = _
      rw [ha]
      unfold goesM codeLen
      rw [fr_mod k h2, if_neg (by rw [hn]; simp [sumM]; omega), hn]
  rw [e] at hs
  by_cases hx : x = 0
  · rw [if_pos hx] at hs ⊢
    exact ⟨S', hs, fr_go h2 h3⟩
  · rw [if_neg hx] at hs ⊢
    exact ⟨_, hs, fr_go (fr_next h2 ((b : Int) + far)) hc⟩
end
end Go.Proofs.YtpfcojnkflcnoaaGreatDoor
/- A machine that goes over a function that calls itself: it marks, calls, goes back. No condition beyond what each theorem says. -/
namespace Go.Proofs.YtpfcojnkflcnoaaGreatDoor
open Go.RowKit
set_option maxRecDepth 100000

section
variable {K : MK} {code : List UInt8} {S : St} {B : Nat → Nat} {a f p d t : Nat} {l : List Nat} {o : List UInt8}
theorem fr_pushAll (k : Sum K code) : ∀ (xs : List Nat) {S : St} {l : List Nat}, Fr K S B a f p l d t o → l.length + xs.length ≤ dp p → ∃ S', pushAll K xs S = (S', 0) ∧ Fr K S' B a f p (l ++ xs) d t o ∧ S'.next = S.next ∧ S'.args = S.args
  | [], S, l, h, _ => ⟨S, rfl, by rw [List.append_nil]; exact h, rfl, rfl⟩
  | x :: xs, S, l, h, hl => by
    simp only [List.length_cons] at hl
    obtain ⟨S1, h1, h2, h3, h4⟩ := fr_push k h (by omega) x
    obtain ⟨S2, h5, h6, h7, h8⟩ := fr_pushAll k xs h2 (by simp; omega)
    refine ⟨S2, ?_, by rw [List.append_assoc] at h6; exact h6, h7.trans h3, h8.trans h4⟩
    unfold pushAll
    rw [h1, if_neg (by simp)]
    exact h5
theorem fr_dec_at (k : Sum K code) (h : Fr K S B a f p l d t o) {op : Nat} {ar : List Int} {nx : Int} (hd : K16.decodeL code a = ((op, ar), nx, 0)) : K16.decodeL (modOf K { S with steps := S.steps + 1 }).code S.at_ = ((op, ar), nx, 0) := by
  have := fr_mod k (fr_tick h)
  rw [this, h.at_]; exact hd
theorem fr_mark (k : Sum K code) (ko : KOk K) (h : Fr K S B a f p l d t o) {b : Nat} (hd : K16.decodeL code a = ((61, []), (b : Int), 0)) (hl : l.length + 5 ≤ dp p) :
    ∃ S', StepOk K { S with steps := S.steps + 1 } (S', 0) ∧ Fr K { S' with at_ := S'.next } B b f p (l ++ [0, 0, 0, 0, 0]) d (t + 1) o := by
  have hs := step_mark K ko _ (fr_ok k (fr_tick h)) [] b (fr_dec_at k h hd)
  obtain ⟨S', h1, h2, h3, _⟩ := fr_pushAll k (List.replicate 5 0) (fr_dec (fr_tick h) (b : Int) []) hl
  refine ⟨S', ?_, fr_go h2 h3⟩
  rw [← h1]; exact hs
theorem fr_ll (k : Sum K code) (ko : KOk K) (h : Fr K S B a f 1 l d t o) {b : Nat} (hd : K16.decodeL code a = ((44, [0, 0]), (b : Int), 0)) (hl : l.length < 10) :
    ∃ S', StepOk K { S with steps := S.steps + 1 } (S', 0) ∧ Fr K { S' with at_ := S'.next } B b f 1 (l ++ [B (f + 4)]) d (t + 1) o := by
  have hs := step_ll K ko _ (fr_ok k (fr_tick h)) [0, 0] b (fr_dec_at k h hd) (by decide) (by decide) (by decide) (by decide) (by decide)
  have h1 := fr_dec (fr_tick h) (b : Int) [0, 0]
  obtain ⟨_, _, e3, _⟩ := fr_here k h1
  have htop := h.top
  have hf1 := h.f1
  have hbs : bs 1 = 6 := rfl
  have hdp : dp 1 = 10 := rfl
  rw [hbs, hdp] at htop
  have ho : outM K ((([0, 0] : List Int).getD 0 0).toNat) { S with steps := S.steps + 1, next := (b : Int), args := [0, 0] } = ((f : Int), 0) := by
    unfold outM
    rw [e3, if_neg (by decide)]
    show (S.fp, 0) = _
    rw [h.fp]
  obtain ⟨S', q1, q2, q3, _⟩ := fr_push k h1 (by rw [hdp]; exact hl) (B (f + 4))
  refine ⟨S', ?_, fr_go q2 q3⟩
  have e : localM K (loadsM K) { S with steps := S.steps + 1, next := (b : Int), args := [0, 0] } = (S', 0) := by
    rw [← q1]
    unfold localM
    rw [ho, if_neg (by simp), if_neg (by rw [k.high]; show ¬ ((K.n : Int) + 1 ≤ (f : Int) + 5 + 0); omega)]
    show loadsM K ((f : Int) + 5 + 0) _ = _
    unfold loadsM
    rw [if_pos (by unfold inM; simp; omega)]
    unfold loadM
    rw [if_pos (by unfold inM; simp; omega)]
    show pushM K (S.ws (((f : Int) + 5 + 0).toNat - 1)) _ = _
    rw [show ((f : Int) + 5 + 0).toNat - 1 = f + 4 by omega, h.low (f + 4) (by rw [hbs]; omega)]
  rw [← e]; exact hs
theorem upd_eq (ws : Nat → Nat) (i x : Nat) : upd ws i x i = x := by unfold upd; rw [if_pos rfl]
theorem upd_ne {ws : Nat → Nat} {i x j : Nat} (h : j ≠ i) : upd ws i x j = ws j := by unfold upd; rw [if_neg h]
theorem storeM_in {n : Nat} {ws : Nat → Nat} {at_ : Int} {x i : Nat} (h1 : 1 ≤ at_) (h2 : at_ ≤ n) (hi : at_.toNat - 1 = i) : storeM n ws at_ x = upd ws i x := by
  unfold storeM
  rw [if_pos (by unfold inM; simp; omega), hi]
theorem clearM_none (n : Nat) (ws : Nat → Nat) (at_ : Int) : clearM n ws at_ 0 = ws := by
  unfold clearM
  split
  · funext j; unfold zeroM; rw [if_neg (by omega)]
  · rfl
theorem fr_call (k : Sum K code) (ko : KOk K) {m0 m1 m2 m3 m4 x : Nat} (h : Fr K S B a f p (l ++ [m0, m1, m2, m3, m4, x]) d t o) {b : Nat} (hd : K16.decodeL code a = ((62, [1, 1]), (b : Int), 0)) (hb : b ≤ 65535) (hf : f ≤ 65535) (hdd : d + 1 ≤ 1000) (_hx : x < 65536) :
    (K.n + 1 < f + bs p + l.length + 16 ∧ ∃ S', StepOk K { S with steps := S.steps + 1 } (S', 11) ∧ S'.steps = t + 1 ∧ S'.out = o) ∨
    (f + bs p + l.length + 16 ≤ K.n + 1 ∧ ∃ S', StepOk K { S with steps := S.steps + 1 } (S', 0) ∧ Fr K { S' with at_ := S'.next } S'.ws 10 (f + bs p + l.length) 1 [] (d + 1) (t + 1) o ∧
      (∀ i, i < f + bs p + l.length - 1 → S'.ws i = S.ws i) ∧ S'.ws (f + bs p + l.length - 1 + 1) = f ∧ S'.ws (f + bs p + l.length - 1 + 2) = 0 ∧ S'.ws (f + bs p + l.length - 1 + 3) = b ∧ S'.ws (f + bs p + l.length - 1 + 4) = p ∧ S'.ws (f + bs p + l.length + 4) = x) := by
  have h1 := fr_dec (fr_tick h) (b : Int) [1, 1]
  obtain ⟨e1, e2, e3, _⟩ := fr_here k h1
  have hbs := bs_le p
  have hf1 := h.f1
  have hp1 := h.p1
  have hs := step_call K ko _ (fr_ok k (fr_tick h)) [1, 1] b (fr_dec_at k h hd) (by decide) (by decide) (by decide) (by decide) (by decide) (by rw [(fr_tick h).depth]; omega) (by rw [(fr_tick h).depth]; omega)
  have hpr : procOf K S.mod 1 = ⟨10, 1, 0, 10, 1, true⟩ := by unfold procOf; rw [k.mods, h.mod]; rfl
  generalize hS0 : ({ S with steps := S.steps + 1, next := (b : Int), args := [1, 1] } : St) = S0 at *
  have hsp : S0.sp = (f : Int) + (bs p : Nat) + ((l.length + 6 : Nat) : Int) := by have := h1.sp; rw [List.length_append] at this; exact this
  have em : S0.mod = S.mod := by rw [← hS0]
  have ew : S0.ws = S.ws := by rw [← hS0]
  have ear : S0.args = [1, 1] := by rw [← hS0]
  have enx : S0.next = b := by rw [← hS0]
  have hat : enterAt K S.mod 1 S0 = (f : Int) + (bs p : Nat) + (l.length : Int) := by unfold enterAt; rw [hpr, hsp]; simp only; omega
  have hfl : floorN K S0 = (f : Int) + (bs p : Nat) := by unfold floorN; rw [e1, h1.fp]
  have hcall : callM K S0 = enterM K S.mod 1 0 S0 := by
    unfold callM
    rw [ear, em]
    show (if ((modOf K S0).procs.length : Int) ≤ 1 then _ else _) = _
    rw [fr_mod k h1, if_neg (by show ¬ ((2 : Int) ≤ 1); decide)]
    show (if (procOf K S.mod 1).level ≠ (hereP K S0).level + 1 - 1 then _ else if 1 < (procOf K S.mod 1).level then _ else _) = _
    rw [hpr, e3, if_neg (by decide), if_neg (by decide)]
    rfl
  rw [hcall] at hs
  unfold enterM at hs
  rw [hat, hfl, if_neg (by omega), hpr] at hs
  by_cases hr : K.n + 1 < f + bs p + l.length + 16
  · refine .inl ⟨hr, S0, ?_, h1.steps, h1.out⟩
    rw [if_pos (by rw [k.high]; show (K.n : Int) + 1 < (f : Int) + (bs p : Nat) + (l.length : Int) + (5 + 1 + 0) + 10; omega)] at hs
    exact hs
  · refine .inr ⟨by omega, ?_⟩
    rw [if_neg (by rw [k.high]; show ¬ ((K.n : Int) + 1 < (f : Int) + (bs p : Nat) + (l.length : Int) + (5 + 1 + 0) + 10); omega)] at hs
    have hh : hereP K { S0 with mod := S.mod, proc := 1 } = ⟨10, 1, 0, 10, 1, true⟩ := by unfold hereP modOf; simp only; rw [k.mods, h.mod]; rfl
    have hfr : frameM K ((f : Int) + (bs p : Nat) + (l.length : Int)) 1 0 S0.fp S0.mod S0.next S0.proc { S0 with mod := S.mod, proc := 1 } =
        { S0 with mod := S.mod, proc := 1, ws := upd (upd (upd (upd (upd S.ws (f + bs p + l.length - 1) 0) (f + bs p + l.length - 1 + 1) f) (f + bs p + l.length - 1 + 2) 0) (f + bs p + l.length - 1 + 3) b) (f + bs p + l.length - 1 + 4) p, fp := (f : Int) + (bs p : Nat) + (l.length : Int), sp := (f : Int) + (bs p : Nat) + (l.length : Int) + 6, next := 10, depth := S0.depth + 1 } := by
      unfold frameM
      rw [hh]
      have hcl : ∀ ws, clearM K.n ws ((f : Int) + (bs p : Nat) + (l.length : Int) + 5 + 1) (0 : Int).toNat = ws := fun ws => clearM_none _ _ _
      have e0 : w16 (0 : Int) = 0 := rfl
      have ef : w16 (f : Int) = f := by unfold w16; omega
      have eb : w16 (b : Int) = b := by unfold w16; omega
      have ep : w16 (p : Int) = p := by unfold w16; omega
      have hmk : markM K.n S0.ws ((f : Int) + (bs p : Nat) + (l.length : Int)) 0 S0.fp S0.mod S0.next S0.proc = upd (upd (upd (upd (upd S.ws (f + bs p + l.length - 1) 0) (f + bs p + l.length - 1 + 1) f) (f + bs p + l.length - 1 + 2) 0) (f + bs p + l.length - 1 + 3) b) (f + bs p + l.length - 1 + 4) p := by
        unfold markM
        rw [ew, h1.fp, em, h.mod, enx, h1.proc, e0, ef, eb, ep]
        rw [storeM_in (i := f + bs p + l.length - 1 + 4) (by omega) (by omega) (by omega), storeM_in (i := f + bs p + l.length - 1 + 3) (by omega) (by omega) (by omega), storeM_in (i := f + bs p + l.length - 1 + 2) (by omega) (by omega) (by omega), storeM_in (i := f + bs p + l.length - 1 + 1) (by omega) (by omega) (by omega), storeM_in (i := f + bs p + l.length - 1) (by omega) (by omega) (by omega)]
      simp only [hmk]
      rw [hcl]
      rfl
    have hs2 := hs
    simp only at hs2
    rw [hfr] at hs2
    refine ⟨_, hs2, ⟨?_, ?_, ?_, rfl, ?_, ?_, by simp, by omega, by omega, ?_, ?_, hdd, ?_, ?_, ?_, ?_, fun _ _ => rfl, fun j hj => by simp at hj⟩, ?_, ?_, ?_, ?_, ?_, ?_⟩
    · exact h1.ord
    · exact h.mod
    · rfl
    · show (f : Int) + (bs p : Nat) + (l.length : Int) = ((f + bs p + l.length : Nat) : Int)
      omega
    · show (f : Int) + (bs p : Nat) + (l.length : Int) + 6 = ((f + bs p + l.length : Nat) : Int) + (bs 1 : Nat) + (([] : List Nat).length : Int)
      have : bs 1 = 6 := rfl
      rw [this]; simp
    · show f + bs p + l.length + 6 + 10 ≤ K.n + 1
      omega
    · show S0.depth + 1 = _
      rw [h1.depth]; rfl
    · exact h1.kind
    · exact h1.trap
    · exact h1.steps
    · exact h1.out
    · intro i hi
      show upd _ _ _ i = _
      rw [upd_ne (by omega), upd_ne (by omega), upd_ne (by omega), upd_ne (by omega), upd_ne (by omega)]
    · show upd _ _ _ _ = _
      rw [upd_ne (by omega), upd_ne (by omega), upd_ne (by omega), upd_eq]
    · show upd _ _ _ _ = _
      rw [upd_ne (by omega), upd_ne (by omega), upd_eq]
    · show upd _ _ _ _ = _
      rw [upd_ne (by omega), upd_eq]
    · show upd _ _ _ _ = _
      rw [upd_eq]
    · show upd _ _ _ _ = _
      rw [upd_ne (by omega), upd_ne (by omega), upd_ne (by omega), upd_ne (by omega), upd_ne (by omega)]
      have := h.words (l.length + 5) (by simp)
      rw [show f + bs p - 1 + (l.length + 5) = f + bs p + l.length + 4 by omega] at this
      rw [this]
      simp [List.getD_eq_getElem?_getD]
end
end Go.Proofs.YtpfcojnkflcnoaaGreatDoor
/- A function that calls itself, in a machine: what it answers, as deep as there is room. No condition beyond what each theorem says. -/
namespace Go.Proofs.YtpfcojnkflcnoaaGreatDoor
open Go.RowKit
set_option maxRecDepth 100000

/-- So many steps. -/
inductive Goes (K : MK) (fuel : Int) : Nat → St → St → Prop
  | nil (S : St) : Goes K fuel 0 S S
  | cons {n : Nat} {S S1 S2 : St} (h0 : S.kind = 0) (h1 : 0 ≤ S.steps) (h2 : S.steps < fuel) (hs : StepOk K { S with steps := S.steps + 1 } (S1, 0)) (hr : Goes K fuel n { S1 with at_ := S1.next } S2) : Goes K fuel (n + 1) S S2
theorem Goes.trans {K : MK} {fuel : Int} {n m : Nat} {A B C : St} (h : Goes K fuel n A B) (h2 : Goes K fuel m B C) : Goes K fuel (n + m) A C := by
  induction h with
  | nil S => rw [Nat.zero_add]; exact h2
  | cons h0 h1 h3 hs hr ih => rw [Nat.add_right_comm]; exact .cons h0 h1 h3 hs (ih h2)
theorem Goes.run {K : MK} {fuel : Int} {n m : Nat} {A B C : St} (h : Goes K fuel n A B) (h2 : RunTo K fuel m B C) : RunTo K fuel (n + m) A C := by
  induction h with
  | nil S => rw [Nat.zero_add]; exact h2
  | cons h0 h1 h3 hs hr ih => rw [Nat.add_right_comm]; exact .step h0 h1 h3 hs (ih h2)
section
variable {K : MK} {code : List UInt8} {S : St} {B : Nat → Nat} {a f p d t : Nat} {l : List Nat} {o : List UInt8}
theorem fr_one {S' S2 : St} {n : Nat} {fuel : Int} (h : Fr K S B a f p l d t o) (hf : (t : Int) < fuel) (hs : StepOk K { S with steps := S.steps + 1 } (S', 0)) (hg : Goes K fuel n { S' with at_ := S'.next } S2) : Goes K fuel (n + 1) S S2 :=
  .cons h.kind (by rw [h.steps]; omega) (by rw [h.steps]; omega) hs hg
/-- A frame's mark that leads back: to the frame at c of procedure q, in which these words were pushed, to a place. -/
structure Mark (K : MK) (code : List UInt8) (B : Nat → Nat) (f c q : Nat) (lc : List Nat) (ret : Nat) : Prop where
  m1 : B f = c
  m2 : B (f + 1) = 0
  m3 : B (f + 2) = ret
  m4 : B (f + 3) = q
  c1 : 1 ≤ c
  q1 : q ≤ 1
  len : c + bs q + lc.length = f
  room : lc.length < dp q
  top : c + bs q + dp q ≤ K.n + 1
  ret_le : ret ≤ code.length
  words : ∀ j, j < lc.length → B (c + bs q - 1 + j) = lc.getD j 0
theorem fr_retf (k : Sum K code) (ko : KOk K) {y c q ret : Nat} {lc : List Nat} (h : Fr K S B a f 1 [y] (d + 1) t o) (hm : Mark K code B f c q lc ret) {b : Nat} (hd : K16.decodeL code a = ((66, []), (b : Int), 0)) :
    ∃ S', StepOk K { S with steps := S.steps + 1 } (S', 0) ∧ Fr K { S' with at_ := S'.next } B ret c q (lc ++ [y]) d (t + 1) o := by
  obtain ⟨S1, p1, p2, p3, _⟩ := fr_pops k (l := []) (m := [y]) (fr_dec (fr_tick h) (b : Int) [])
  obtain ⟨_, _, _, e4⟩ := fr_here k p2
  have hf1 := h.f1
  have hb1 : bs 1 = 6 := rfl
  have hbq := bs_le q
  have hdq := dp_le q
  have hc1 := hm.c1
  have hlen := hm.len
  have hroom := hm.room
  have hq1 := hm.q1
  have hfp : S1.fp.toNat - 1 + 1 = f := by rw [p2.fp]; omega
  have w1 : S1.ws (S1.fp.toNat - 1 + 1) = c := by rw [hfp, p2.low f (by rw [hb1]; omega)]; exact hm.m1
  have w2 : S1.ws (S1.fp.toNat - 1 + 2) = 0 := by rw [show S1.fp.toNat - 1 + 2 = f + 1 by omega, p2.low (f + 1) (by rw [hb1]; omega)]; exact hm.m2
  have w3 : S1.ws (S1.fp.toNat - 1 + 3) = ret := by rw [show S1.fp.toNat - 1 + 3 = f + 2 by omega, p2.low (f + 2) (by rw [hb1]; omega)]; exact hm.m3
  have w4 : S1.ws (S1.fp.toNat - 1 + 4) = q := by rw [show S1.fp.toNat - 1 + 4 = f + 3 by omega, p2.low (f + 3) (by rw [hb1]; omega)]; exact hm.m4
  have hpq : baseN (procOf K ((0 : Nat) : Int) (q : Int)) = bs q ∧ (procOf K ((0 : Nat) : Int) (q : Int)).depth = dp q := by
    unfold procOf; rw [k.mods]
    rcases (show q = 0 ∨ q = 1 by omega) with rfl | rfl <;> exact ⟨rfl, rfl⟩
  have htop := hm.top
  have hret := hm.ret_le
  have hB : BackOk K S1 true := by
    constructor
    · rw [w1, k.low]; omega
    · rw [w1, p2.fp]; omega
    · rw [w2, k.mods]; show 0 < 1; decide
    · rw [w2, w4, k.mods]; show q < 2; omega
    · rw [w2, w3, k.mods]; exact hret
    · rw [w1, w2, w4, hpq.1, p2.fp]; omega
    · rw [w1, w2, w4, hpq.1, hpq.2, p2.fp]; omega
    · rw [w1, w2, w4, hpq.1, hpq.2, k.high]; omega
    · intro _; rw [w1, w2, w4, hpq.1, hpq.2, p2.fp]; omega
  have hF : Fr K (backM S1) B a c q lc d (t + 1) o := by
    refine ⟨p2.ord, ?_, ?_, p2.at_, ?_, ?_, by omega, hc1, hq1, htop, ?_, by have := h.dle; omega, p2.kind, p2.trap, p2.steps, p2.out, fun i hi => p2.low i (by rw [hb1]; omega), fun j hj => ?_⟩
    · show ((S1.ws (S1.fp.toNat - 1 + 2) : Nat) : Int) = 0
      rw [w2]; rfl
    · show ((S1.ws (S1.fp.toNat - 1 + 4) : Nat) : Int) = q
      rw [w4]
    · show ((S1.ws (S1.fp.toNat - 1 + 1) : Nat) : Int) = c
      rw [w1]
    · show S1.fp = _
      rw [p2.fp]; omega
    · show S1.depth - 1 = _
      rw [p2.depth]; omega
    · show S1.ws _ = _
      rw [p2.low _ (by rw [hb1]; omega)]; exact hm.words j hj
  have hs := step_retf K ko _ (fr_ok k (fr_tick h)) [] b S1 y (fr_dec_at k h hd) p1 (fr_ok k p2) (by rw [e4]; rfl) hB (fr_ok k hF) (by rw [p2.depth]; omega) (by rw [p2.depth]; have := h.dle; omega)
  obtain ⟨S', q1', q2, q3, _⟩ := fr_push k hF hroom y
  refine ⟨S', by rw [← q1']; exact hs, fr_go q2 ?_⟩
  rw [q3]
  show ((S1.ws (S1.fp.toNat - 1 + 3) : Nat) : Int) = ret
  rw [w3]
end
/-- The program, by places. -/
structure SumCode (code : List UInt8) : Prop where
  len : code.length = 40
  d0 : K16.decodeL code ((0 : Nat) : Int) = ((61, []), ((1 : Nat) : Int), 0)
  d4 : K16.decodeL code ((4 : Nat) : Int) = ((62, [1, 1]), ((8 : Nat) : Int), 0)
  d8 : K16.decodeL code ((8 : Nat) : Int) = ((78, []), ((9 : Nat) : Int), 0)
  d9 : K16.decodeL code ((9 : Nat) : Int) = ((65, []), ((10 : Nat) : Int), 0)
  d10 : K16.decodeL code ((10 : Nat) : Int) = ((44, [0, 0]), ((14 : Nat) : Int), 0)
  d14 : K16.decodeL code ((14 : Nat) : Int) = ((57, [4]), ((17 : Nat) : Int), 0)
  d17 : K16.decodeL code ((17 : Nat) : Int) = ((40, [((0 : Nat) : Int)]), ((20 : Nat) : Int), 0)
  d20 : K16.decodeL code ((20 : Nat) : Int) = ((66, []), ((21 : Nat) : Int), 0)
  d21 : K16.decodeL code ((21 : Nat) : Int) = ((44, [0, 0]), ((25 : Nat) : Int), 0)
  d25 : K16.decodeL code ((25 : Nat) : Int) = ((61, []), ((26 : Nat) : Int), 0)
  d26 : K16.decodeL code ((26 : Nat) : Int) = ((44, [0, 0]), ((30 : Nat) : Int), 0)
  d30 : K16.decodeL code ((30 : Nat) : Int) = ((40, [((1 : Nat) : Int)]), ((33 : Nat) : Int), 0)
  d33 : K16.decodeL code ((33 : Nat) : Int) = ((9, []), ((34 : Nat) : Int), 0)
  d34 : K16.decodeL code ((34 : Nat) : Int) = ((62, [1, 1]), ((38 : Nat) : Int), 0)
  d38 : K16.decodeL code ((38 : Nat) : Int) = ((8, []), ((39 : Nat) : Int), 0)
  d39 : K16.decodeL code ((39 : Nat) : Int) = ((66, []), ((40 : Nat) : Int), 0)
def tri : Nat → Nat
  | 0 => 0
  | i + 1 => (i + 1) + tri i
theorem tri_le : ∀ i, tri i ≤ i * 100 + 0 ∨ 100 ≤ i
  | 0 => .inl (by simp [tri])
  | i + 1 => by
    rcases tri_le i with h | h
    · by_cases hi : 100 ≤ i + 1
      · exact .inr hi
      · exact .inl (by unfold tri; omega)
    · exact .inr (by omega)
/-- The function, from its beginning: it goes back with the sum, or there is no room. -/
theorem sum_fn {K : MK} {code : List UInt8} (k : Sum K code) (ko : KOk K) (hc : SumCode code) (fuel : Int) (o : List UInt8) (ho : o.length ≤ 1000000) : ∀ (i : Nat), i < 100 → ∀ (S : St) (B : Nat → Nat) (f c q ret d t : Nat) (lc : List Nat), Fr K S B 10 f 1 [] (d + 1) t o → Mark K code B f c q lc ret → B (f + 4) = i → (t + 10 * i + 4 : Nat) ≤ fuel → d + i + 2 ≤ 1000 → f + 7 * i ≤ 60000 →
    (f + 7 * i + 16 ≤ K.n + 1 ∧ ∃ S', Goes K fuel (10 * i + 4) S S' ∧ Fr K S' B ret c q (lc ++ [tri i]) d (t + 10 * i + 4) o) ∨
    (K.n + 1 < f + 7 * i + 16 ∧ ∃ n S2, RunTo K fuel n S S2 ∧ S2.kind = 2 ∧ S2.trap = 11 ∧ S2.out = o)
  | 0, hi, S, B, f, c, q, ret, d, t, lc, h, hm, hx, hfu, hdd, hff => by
    have htop := h.top
    have hb1 : bs 1 = 6 := rfl
    have hp1 : dp 1 = 10 := rfl
    rw [hb1, hp1] at htop
    refine .inl ⟨by omega, ?_⟩
    obtain ⟨S1, s1, h1⟩ := fr_ll k ko h hc.d10 (by decide)
    rw [hx] at h1
    obtain ⟨S2, s2, h2⟩ := fr_jnz k ko (l := []) (x := 0) (c := 21) h1 hc.d14 (by decide) ho (by decide) (by decide) (by decide) (by rw [hc.len]; decide)
    rw [if_pos rfl] at h2
    obtain ⟨S3, s3, h3⟩ := fr_lit k ko (x := 0) h2 hc.d17 (by decide) ho (by decide) (by decide)
    obtain ⟨S4, s4, h4⟩ := fr_retf k ko h3 hm hc.d20
    exact ⟨_, fr_one h (by omega) s1 (fr_one h1 (by omega) s2 (fr_one h2 (by omega) s3 (fr_one h3 (by omega) s4 (.nil _)))), h4⟩
  | i + 1, hi, S, B, f, c, q, ret, d, t, lc, h, hm, hx, hfu, hdd, hff => by
    have htop := h.top
    have hb1 : bs 1 = 6 := rfl
    have hp1 : dp 1 = 10 := rfl
    have hf1 := h.f1
    rw [hb1, hp1] at htop
    obtain ⟨S1, s1, h1⟩ := fr_ll k ko h hc.d10 (by decide)
    rw [hx] at h1
    obtain ⟨S2, s2, h2⟩ := fr_jnz k ko (l := []) (x := i + 1) (c := 21) h1 hc.d14 (by decide) ho (by decide) (by decide) (by decide) (by rw [hc.len]; decide)
    rw [if_neg (by omega)] at h2
    obtain ⟨S3, s3, h3⟩ := fr_ll k ko h2 hc.d21 (by decide)
    obtain ⟨S4, s4, h4⟩ := fr_mark k ko h3 hc.d25 (by rw [hp1]; simp)
    obtain ⟨S5, s5, h5⟩ := fr_ll k ko h4 hc.d26 (by simp)
    obtain ⟨S6, s6, h6⟩ := fr_lit k ko (x := 1) h5 hc.d30 (by decide) ho (by rw [hp1]; simp) (by decide)
    rw [hx] at h6
    have h6' : Fr K { S6 with at_ := S6.next } B 33 f 1 ([i + 1, 0, 0, 0, 0, 0] ++ [i + 1, 1]) (d + 1) (t + 1 + 1 + 1 + 1 + 1 + 1) o := h6
    have hz9 : opI 9 (i + 1) 1 = (((i : Nat) : Int), 0) := by
      show bareI (((i + 1 : Nat) : Int) - ((1 : Nat) : Int)) = _
      unfold bareI fitsI
      rw [if_neg (by omega)]
      show ((((i + 1 : Nat) : Int) - ((1 : Nat) : Int)) % 65536, 0) = _
      rw [show (((i + 1 : Nat) : Int) - ((1 : Nat) : Int)) % 65536 = (i : Int) by omega]
    obtain ⟨S7, s7, h7⟩ := fr_op2 k ko h6' hc.d33 (by decide) (by decide) ho hz9
    have h7' : Fr K { S7 with at_ := S7.next } B 34 f 1 ([i + 1] ++ [0, 0, 0, 0, 0, i]) (d + 1) (t + 1 + 1 + 1 + 1 + 1 + 1 + 1) o := h7
    have go7 : ∀ {n : Nat} {S8 : St}, Goes K fuel n { S7 with at_ := S7.next } S8 → Goes K fuel (n + 7) S S8 := fun g =>
      fr_one h (by omega) s1 (fr_one h1 (by omega) s2 (fr_one h2 (by omega) s3 (fr_one h3 (by omega) s4 (fr_one h4 (by omega) s5 (fr_one h5 (by omega) s6 (fr_one h6 (by omega) s7 g))))))
    rcases fr_call k ko h7' hc.d34 (by decide) (by omega) (by omega) (by omega) with ⟨hr, S8, s8, e8, o8⟩ | ⟨hr, S8, s8, h8, g0, g1, g2, g3, g4, g5⟩
    · rw [hb1] at hr
      simp only [List.length_cons, List.length_nil] at hr
      refine .inr ⟨by omega, _, _, (go7 (.nil _)).run (.trap h7.kind (by rw [h7.steps]; omega) (by rw [h7.steps]; omega) s8 (by decide)), rfl, rfl, o8⟩
    · rw [hb1] at hr h8 g0 g1 g2 g3 g4 g5
      simp only [List.length_cons, List.length_nil] at hr h8 g0 g1 g2 g3 g4 g5
      have hm8 : Mark K code S8.ws (f + 6 + (0 + 1)) f 1 [i + 1] 38 := by
        refine ⟨(congrArg S8.ws (show f + 6 + (0 + 1) = f + 6 + (0 + 1) - 1 + 1 by omega)).trans g1, (congrArg S8.ws (show f + 6 + (0 + 1) + 1 = f + 6 + (0 + 1) - 1 + 2 by omega)).trans g2, (congrArg S8.ws (show f + 6 + (0 + 1) + 2 = f + 6 + (0 + 1) - 1 + 3 by omega)).trans g3, (congrArg S8.ws (show f + 6 + (0 + 1) + 3 = f + 6 + (0 + 1) - 1 + 4 by omega)).trans g4, hf1, by decide, by rw [hb1]; simp, by rw [hp1]; simp, by rw [hb1, hp1]; omega, by rw [hc.len]; decide, fun j hj => ?_⟩
        obtain rfl : j = 0 := by simpa using hj
        rw [g0 _ (by rw [hb1]; omega)]
        have := h7.words 0 (by simp)
        exact this
      rcases sum_fn k ko hc fuel o ho i (by omega) _ _ _ _ _ _ _ _ _ h8 hm8 g5 (by omega) (by omega) (by omega) with ⟨hn, S9, g9, h9⟩ | ⟨hn, n, S9, g9, q1, q2, q3⟩
      · refine .inl ⟨by omega, ?_⟩
        have ht5 := tri_le i
        have h9' : Fr K S9 S8.ws 38 f 1 ([] ++ [i + 1, tri i]) (d + 1) (t + 1 + 1 + 1 + 1 + 1 + 1 + 1 + 1 + 10 * i + 4) o := h9
        have hz8 : opI 8 (i + 1) (tri i) = (((tri (i + 1) : Nat) : Int), 0) := by
          show bareI (((i + 1 : Nat) : Int) + ((tri i : Nat) : Int)) = _
          unfold bareI fitsI
          rw [if_neg (by omega)]
          show ((((i + 1 : Nat) : Int) + ((tri i : Nat) : Int)) % 65536, 0) = _
          rw [show tri (i + 1) = (i + 1) + tri i from rfl, show (((i + 1 : Nat) : Int) + ((tri i : Nat) : Int)) % 65536 = (((i + 1) + tri i : Nat) : Int) by omega]
        obtain ⟨S10, s10, h10⟩ := fr_op2 k ko h9' hc.d38 (by decide) (by decide) ho hz8
        have hB8 : ∀ j, j < f + 5 → S8.ws j = B j := fun j hj => by
          rw [g0 j (by omega)]
          exact h7.low j (by rw [hb1]; omega)
        have h10' : Fr K { S10 with at_ := S10.next } B 39 f 1 [tri (i + 1)] (d + 1) (t + 1 + 1 + 1 + 1 + 1 + 1 + 1 + 1 + 10 * i + 4 + 1) o :=
          ⟨h10.ord, h10.mod, h10.proc, h10.at_, h10.fp, h10.sp, h10.few, h10.f1, h10.p1, h10.top, h10.depth, h10.dle, h10.kind, h10.trap, h10.steps, h10.out, fun j hj => (h10.low j hj).trans (hB8 j (by rw [hb1] at hj; omega)), h10.words⟩
        obtain ⟨S11, s11, h11⟩ := fr_retf k ko h10' hm hc.d39
        refine ⟨{ S11 with at_ := S11.next }, ?_, ?_⟩
        · have gg := go7 (fr_one h7 (by omega) s8 (g9.trans (fr_one h9 (by omega) s10 (fr_one h10 (by omega) s11 (.nil _)))))
          have e : 10 * i + 4 + (0 + 1 + 1) + 1 + 7 = 10 * (i + 1) + 4 := by omega
          rw [e] at gg
          exact gg
        · have e : t + 1 + 1 + 1 + 1 + 1 + 1 + 1 + 1 + 10 * i + 4 + 1 + 1 = t + 10 * (i + 1) + 4 := by omega
          rw [e] at h11
          exact h11
      · exact .inr ⟨by omega, _, S9, (go7 (fr_one h7 (by omega) s8 (.nil _))).run g9, q1, q2, q3⟩
end Go.Proofs.YtpfcojnkflcnoaaGreatDoor
