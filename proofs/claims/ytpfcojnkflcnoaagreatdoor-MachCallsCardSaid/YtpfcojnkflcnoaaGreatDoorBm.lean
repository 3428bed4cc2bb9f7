/- A machine that goes over one module's body: what its words are behind each instruction. What small programs come to in a machine. What a small program comes to in a machine, whose words came in the other order. A machine runs. Condition: what lies in memory can lie there; what each theorem says. -/
import Derived.Test.YtpfcojnkflcnoaaGreatDoorBl
import Derived.Test.YtpfcojnkflcnoaaGreatDoorBk
/- A machine that goes over one module's body: what its words are behind each instruction. No condition beyond what each theorem says. -/
namespace Go.Proofs.YtpfcojnkflcnoaaGreatDoor
open Go.RowKit
set_option maxRecDepth 100000

/-- A module of a body alone. -/
def oneM (code : List UInt8) : ModL := ⟨code, [⟨0, 0, 0, 8, 1, false⟩], [], 4, []⟩
structure One (K : MK) (code : List UInt8) : Prop where
  mods : K.mods = [oneM code]
  order : K.order = [0]
  low : K.low = 5
  high : K.high = 105
  n : K.n = 154
  most : K.most = 50
/-- A machine that goes over it, at a place, with these words pushed, behind so many steps, having written this. -/
structure Rn (S : St) (a : Nat) (l : List Nat) (t : Nat) (o : List UInt8) : Prop where
  ord : S.ord = 1
  mod : S.mod = 0
  proc : S.proc = 0
  at_ : S.at_ = a
  fp : S.fp = 5
  sp : S.sp = 10 + l.length
  few : l.length ≤ 8
  depth : S.depth = 1
  kind : S.kind = 0
  trap : S.trap = 0
  steps : S.steps = t
  out : S.out = o
  mark : S.ws 5 = 0
  words : ∀ j, j < l.length → S.ws (9 + j) = l.getD j 0
section
variable {K : MK} {code : List UInt8} {S : St} {a : Nat} {l : List Nat} {t : Nat} {o : List UInt8}
theorem one_mod (k : One K code) (h : Rn S a l t o) : modOf K S = oneM code := by unfold modOf; rw [k.mods, h.mod]; rfl
theorem one_here (k : One K code) (h : Rn S a l t o) : hereP K S = ⟨0, 0, 0, 8, 1, false⟩ := by unfold hereP; rw [one_mod k h, h.proc]; rfl
theorem one_base (k : One K code) (h : Rn S a l t o) : baseN (hereP K S) = 5 ∧ (hereP K S).depth = 8 := by rw [one_here k h]; exact ⟨rfl, rfl⟩
theorem rn_ok (k : One K code) (h : Rn S a l t o) : SOk K S := by
  obtain ⟨e1, e2⟩ := one_base k h
  have hf := h.few
  refine ⟨⟨?_, ?_, ?_, ?_⟩, ?_, ?_, ?_, ?_⟩
  · rw [h.mod]; omega
  · rw [h.mod, k.mods]; simp
  · rw [h.proc]; omega
  · rw [h.proc, one_mod k h]; simp [oneM]
  · rw [h.fp, k.low]; omega
  · rw [h.fp, h.sp, e1]; omega
  · rw [h.fp, h.sp, e1, e2]; omega
  · rw [h.fp, e1, e2, k.high]; omega
theorem rn_push (k : One K code) (h : Rn S a l t o) (hl : l.length < 8) (x : Nat) : ∃ S', pushM K x S = (S', 0) ∧ Rn S' a (l ++ [x]) t o ∧ S'.next = S.next ∧ S'.args = S.args := by
  obtain ⟨e1, e2⟩ := one_base k h
  have ht : ¬ topN K S ≤ S.sp := by unfold topN; rw [e1, e2, h.fp, h.sp]; omega
  have hin : inM K.n S.sp = true := by unfold inM; rw [k.n, h.sp]; simp; omega
  have hst : storeM K.n S.ws S.sp x = upd S.ws (9 + l.length) x := by unfold storeM; rw [if_pos hin, h.sp, show (10 + (l.length : Int)).toNat - 1 = 9 + l.length by omega]
  refine ⟨{ S with ws := upd S.ws (9 + l.length) x, sp := S.sp + 1 }, by unfold pushM; rw [if_neg ht, hst], ?_, rfl, rfl⟩
  refine ⟨h.ord, h.mod, h.proc, h.at_, h.fp, ?_, ?_, h.depth, h.kind, h.trap, h.steps, h.out, ?_, ?_⟩
  · simp only [h.sp, List.length_append, List.length_cons, List.length_nil]; omega
  · simp; omega
  · simp only [upd]; rw [if_neg (by omega)]; exact h.mark
  · intro j hj
    simp only [List.length_append, List.length_cons, List.length_nil] at hj
    simp only [upd]
    by_cases hjl : j = l.length
    · subst hjl; rw [if_pos rfl]; simp [List.getD_eq_getElem?_getD]
    · rw [if_neg (by omega), h.words j (by omega)]
      simp [List.getD_eq_getElem?_getD, List.getElem?_append_left (show j < l.length by omega)]
theorem rn_pops (k : One K code) {m : List Nat} (h : Rn S a (l ++ m) t o) : ∃ S', popsM K m.length S = (S', m, 0) ∧ Rn S' a l t o ∧ S'.next = S.next ∧ S'.args = S.args := by
  obtain ⟨e1, e2⟩ := one_base k h
  have hsp := h.sp
  rw [List.length_append] at hsp
  have hf := h.few
  rw [List.length_append] at hf
  have ht : ¬ S.sp - m.length < floorN K S := by unfold floorN; rw [e1, h.fp, hsp]; omega
  have hrow : rowM S.ws (S.sp - m.length) m.length = m := by
    apply List.ext_getElem
    · simp [rowM]
    · intro j h1 h2
      have hw := h.words (l.length + j) (by rw [List.length_append]; omega)
      simp only [rowM, List.getElem_map, List.getElem_range]
      rw [show (S.sp - (m.length : Int)).toNat - 1 + j = 9 + (l.length + j) by omega, hw]
      simp [List.getD_eq_getElem?_getD, h2]
  refine ⟨{ S with sp := S.sp - m.length }, by unfold popsM; rw [if_neg ht, hrow], ?_, rfl, rfl⟩
  refine ⟨h.ord, h.mod, h.proc, h.at_, h.fp, ?_, by omega, h.depth, h.kind, h.trap, h.steps, h.out, h.mark, ?_⟩
  · simp only; omega
  · intro j hj
    simp only
    rw [h.words j (by rw [List.length_append]; omega)]
    simp [List.getD_eq_getElem?_getD, List.getElem?_append_left hj]
theorem rn_under (k : One K code) (h : Rn S a l t o) (n : Nat) (hn : l.length < n) : popsM K n S = (S, List.replicate n 0, 14) := by
  obtain ⟨e1, e2⟩ := one_base k h
  unfold popsM
  rw [if_pos]
  unfold floorN
  rw [e1, h.fp, h.sp]
  omega
theorem rn_tick (h : Rn S a l t o) : Rn { S with steps := S.steps + 1 } a l (t + 1) o :=
  ⟨h.ord, h.mod, h.proc, h.at_, h.fp, h.sp, h.few, h.depth, h.kind, h.trap, by simp only [h.steps]; omega, h.out, h.mark, h.words⟩
theorem rn_dec (h : Rn S a l t o) (nx : Int) (ar : List Int) : Rn { S with next := nx, args := ar } a l t o :=
  ⟨h.ord, h.mod, h.proc, h.at_, h.fp, h.sp, h.few, h.depth, h.kind, h.trap, h.steps, h.out, h.mark, h.words⟩
theorem rn_go (h : Rn S a l t o) {b : Nat} (hb : S.next = b) : Rn { S with at_ := S.next } b l t o :=
  ⟨h.ord, h.mod, h.proc, hb, h.fp, h.sp, h.few, h.depth, h.kind, h.trap, h.steps, h.out, h.mark, h.words⟩
theorem rn_next (h : Rn S a l t o) (nx : Int) : Rn { S with next := nx } a l t o :=
  ⟨h.ord, h.mod, h.proc, h.at_, h.fp, h.sp, h.few, h.depth, h.kind, h.trap, h.steps, h.out, h.mark, h.words⟩
theorem rn_out (h : Rn S a l t o) (u : List UInt8) : Rn { S with out := u } a l t u :=
  ⟨h.ord, h.mod, h.proc, h.at_, h.fp, h.sp, h.few, h.depth, h.kind, h.trap, h.steps, rfl, h.mark, h.words⟩
/-- An instruction's step. -/
theorem rn_step (k : One K code) (ko : KOk K) (h : Rn S a l t o) {op : Nat} {ar : List Int} {b : Nat} (hd : K16.decodeL code a = ((op, ar), (b : Int), 0)) (hb : b ≤ 65535) (ho : o.length ≤ 1000000) (hk : takesN op ≠ 0 ∨ op = 40 ∨ op = 55 ∨ op = 57 ∨ op = 65 ∨ op = 68 ∨ op = 69 ∨ op = 70 ∨ op = 78)
    (ha : (op = 40 ∨ op = 55 ∨ op = 57) → 0 < ar.length ∧ -1000000 ≤ ar.getD 0 0 ∧ ar.getD 0 0 ≤ 1000000) :
    StepOk K { S with steps := S.steps + 1 } (doM K op { S with steps := S.steps + 1, next := b, args := ar }) := by
  have h1 := rn_dec (rn_tick h) b ar
  have hh := one_here k h1
  refine step_ok K ko _ (rn_ok k (rn_tick h)) op ar b ?_ ⟨hk, ha, ?_, ?_, ?_, ?_, ?_, ?_, ?_, ?_, ?_⟩
  · rw [one_mod k (rn_tick h)]
    show K16.decodeL code S.at_ = _
    rw [h.at_]; exact hd
  · intro _
    refine ⟨by rw [hh], ?_, ?_⟩
    · show S.ws (S.fp.toNat - 1 + 1) = 0
      rw [h.fp]; exact h.mark
    · rw [k.low]; exact h.fp
  · show 0 ≤ S.ord
    rw [h.ord]; omega
  · show S.ord ≤ K.order.length
    rw [h.ord, k.order]; decide
  · show (0 : Int) ≤ b
    omega
  · show (b : Int) ≤ 1000000
    omega
  · rw [k.most]; omega
  · rw [k.most]; omega
  · show S.out.length ≤ 1000000
    rw [h.out]; exact ho
  · rw [k.order]; decide
theorem rn_lit (k : One K code) (ko : KOk K) (h : Rn S a l t o) {x b : Nat} (hd : K16.decodeL code a = ((40, [(x : Int)]), (b : Int), 0)) (hb : b ≤ 65535) (ho : o.length ≤ 1000000) (hl : l.length < 8) (hx : x < 65536) :
    ∃ S', StepOk K { S with steps := S.steps + 1 } (S', 0) ∧ Rn { S' with at_ := S'.next } b (l ++ [x]) (t + 1) o := by
  have hs := rn_step k ko h hd hb ho (by simp) (fun _ => by simp; omega)
  obtain ⟨S', h1, h2, h3, _⟩ := rn_push k (rn_dec (rn_tick h) (b : Int) [(x : Int)]) hl x
  refine ⟨S', ?_, rn_go h2 h3⟩
  have e : doM K 40 { S with steps := S.steps + 1, next := b, args := [(x : Int)] } = (S', 0) := by
    rw [← h1]
    show pushM K (w16 (x : Int)) _ = _
    rw [show w16 (x : Int) = x by unfold w16; omega]
  rw [← e]; exact hs
theorem rn_op2 (k : One K code) (ko : KOk K) {x y : Nat} (h : Rn S a (l ++ [x, y]) t o) {n b : Nat} (hd : K16.decodeL code a = ((n, []), (b : Int), 0)) (hn : takesN n = 2) (hb : b ≤ 65535) (ho : o.length ≤ 1000000) :
    if (opI n x y).2 = 0 then ∃ S', StepOk K { S with steps := S.steps + 1 } (S', 0) ∧ Rn { S' with at_ := S'.next } b (l ++ [(opI n x y).1.toNat]) (t + 1) o
    else ∃ S', StepOk K { S with steps := S.steps + 1 } (S', (opI n x y).2) ∧ Rn S' a l (t + 1) o := by
  have hn0 : n ≤ 31 ∧ n ≠ 0 := by unfold takesN at hn; split at hn <;> omega
  have hs := rn_step k ko h hd hb ho (.inl (by omega)) (fun hc => by omega)
  obtain ⟨S', h1, h2, h3, _⟩ := rn_pops k (m := [x, y]) (rn_dec (rn_tick h) (b : Int) [])
  have hl : l.length < 8 := by have := h.few; rw [List.length_append] at this; simp only [List.length_cons, List.length_nil] at this; omega
  have e : doM K n { S with steps := S.steps + 1, next := b, args := [] } = opM K n 2 { S with steps := S.steps + 1, next := b, args := [] } := by unfold doM; rw [if_pos (by omega), hn]
  rw [e] at hs
  have e2 : opM K n 2 { S with steps := S.steps + 1, next := b, args := [] } = if (opI n x y).2 ≠ 0 then (S', (opI n x y).2) else pushM K (opI n x y).1.toNat S' := by
    show opR K n 2 (popsM K 2 _) = _
    rw [show (2 : Nat) = [x, y].length from rfl, h1]
    unfold opR
    simp
  by_cases hz : (opI n x y).2 = 0
  · rw [if_pos hz]
    obtain ⟨S2, h4, h5, h6, _⟩ := rn_push k h2 hl (opI n x y).1.toNat
    refine ⟨S2, ?_, rn_go h5 (h6.trans h3)⟩
    rw [e2, if_neg (by simpa using hz), h4] at hs
    exact hs
  · rw [if_neg hz]
    refine ⟨S', ?_, h2⟩
    rw [e2, if_pos hz] at hs
    exact hs
theorem rn_under2 (k : One K code) (ko : KOk K) (h : Rn S a l t o) (hl : l.length < 2) {n b : Nat} (hd : K16.decodeL code a = ((n, []), (b : Int), 0)) (hn : takesN n = 2) (hb : b ≤ 65535) (ho : o.length ≤ 1000000) :
    ∃ S', StepOk K { S with steps := S.steps + 1 } (S', 14) ∧ Rn S' a l (t + 1) o := by
  have hn0 : n ≤ 31 ∧ n ≠ 0 := by unfold takesN at hn; split at hn <;> omega
  have hs := rn_step k ko h hd hb ho (.inl (by omega)) (fun hc => by omega)
  have h1 := rn_under k (rn_dec (rn_tick h) (b : Int) []) 2 hl
  have e : doM K n { S with steps := S.steps + 1, next := b, args := [] } = ({ S with steps := S.steps + 1, next := b, args := [] }, 14) := by
    unfold doM
    rw [if_pos (by omega), hn]
    show opR K n 2 (popsM K 2 _) = _
    rw [h1]
    unfold opR
    simp
  rw [e] at hs
  exact ⟨_, hs, rn_dec (rn_tick h) (b : Int) []⟩
theorem rn_wrc (k : One K code) (ko : KOk K) {x : Nat} (h : Rn S a (l ++ [x]) t o) {b : Nat} (hd : K16.decodeL code a = ((78, []), (b : Int), 0)) (hb : b ≤ 65535) (ho : o.length + (textL false x).length ≤ 50) :
    ∃ S', StepOk K { S with steps := S.steps + 1 } (S', 0) ∧ Rn { S' with at_ := S'.next } b l (t + 1) (o ++ textL false x) := by
  have hs := rn_step k ko h hd hb (by omega) (by simp) (fun hc => by omega)
  obtain ⟨S', h1, h2, h3, _⟩ := rn_pops k (m := [x]) (rn_dec (rn_tick h) (b : Int) [])
  refine ⟨{ S' with out := S'.out ++ textL false x }, ?_, ?_⟩
  · have e : doM K 78 { S with steps := S.steps + 1, next := b, args := [] } = ({ S' with out := S'.out ++ textL false x }, 0) := by
      show textsR K false (popsM K 1 _) = _
      rw [show (1 : Nat) = [x].length from rfl, h1]
      unfold textsR
      rw [if_neg (by simp)]
      show writesM K (textL false x) S' = _
      unfold writesM writeM
      rw [if_neg (by rw [k.most, h2.out]; omega)]
      rfl
    rw [← e]; exact hs
  · have h4 := rn_out h2 (S'.out ++ textL false x)
    rw [h2.out] at h4 ⊢
    exact rn_go h4 h3
theorem rn_ret (k : One K code) (ko : KOk K) (h : Rn S a l t o) {b : Nat} (hd : K16.decodeL code a = ((65, []), (b : Int), 0)) (hb : b ≤ 65535) (ho : o.length ≤ 1000000) :
    ∃ S', StepOk K { S with steps := S.steps + 1 } (S', 0) ∧ S'.kind = 1 ∧ S'.trap = 0 ∧ S'.steps = t + 1 ∧ S'.out = o := by
  have hs := rn_step k ko h hd hb ho (by simp) (fun hc => by omega)
  refine ⟨{ S with steps := S.steps + 1, next := b, args := [], kind := 1, depth := 0 }, ?_, rfl, h.trap, by simp only [h.steps], h.out⟩
  have e : doM K 65 { S with steps := S.steps + 1, next := b, args := [] } = ({ S with steps := S.steps + 1, next := b, args := [], kind := 1, depth := 0 }, 0) := by
    show beginsM K _ = _
    unfold beginsM
    rw [if_pos (by simp only [h.ord, k.order]; rfl)]
  rw [← e]; exact hs
theorem rn_jmp (k : One K code) (ko : KOk K) (h : Rn S a l t o) {b c : Nat} {far : Int} (hd : K16.decodeL code a = ((55, [far]), (b : Int), 0)) (hb : b ≤ 65535) (ho : o.length ≤ 1000000) (hf0 : -1000000 ≤ far) (hf1 : far ≤ 1000000) (hc : (b : Int) + far = c) (hcl : c ≤ code.length) :
    ∃ S', StepOk K { S with steps := S.steps + 1 } (S', 0) ∧ Rn { S' with at_ := S'.next } c l (t + 1) o := by
  have hs := rn_step k ko h hd hb ho (by simp) (fun _ => by simp; omega)
  have hd' := rn_dec (rn_tick h) (b : Int) [far]
  refine ⟨{ S with steps := S.steps + 1, next := (b : Int) + far, args := [far] }, ?_, rn_go (rn_next hd' ((b : Int) + far)) hc⟩
  have e : doM K 55 { S with steps := S.steps + 1, next := b, args := [far] } = ({ S with steps := S.steps + 1, next := (b : Int) + far, args := [far] }, 0) := by
    show goesM K far _ = _
    unfold goesM codeLen
    rw [one_mod k hd', if_neg (by simp only [oneM]; omega)]
  rw [← e]; exact hs
theorem rn_turns (k : One K code) (ko : KOk K) {m : List Nat} (h : Rn S a (l ++ m) t o) {op b : Nat} {order : List Nat} (hd : K16.decodeL code a = ((op, []), (b : Int), 0)) (hb : b ≤ 65535) (ho : o.length ≤ 1000000) (hk : op = 68 ∨ op = 69 ∨ op = 70)
    (hop : ∀ S, doM K op S = turnsM K m.length order S) (u v : Nat) (hr : order.map (fun k => m.getD (m.length - 1 - k) 0) = [u, v] ∨ order.map (fun k => m.getD (m.length - 1 - k) 0) = []) (hl : l.length < 7) :
    ∃ S', StepOk K { S with steps := S.steps + 1 } (S', 0) ∧ Rn { S' with at_ := S'.next } b (l ++ order.map (fun k => m.getD (m.length - 1 - k) 0)) (t + 1) o := by
  have hs := rn_step k ko h hd hb ho (by omega) (fun hc => by omega)
  obtain ⟨S', h1, h2, h3, _⟩ := rn_pops k (rn_dec (rn_tick h) (b : Int) [])
  rw [hop] at hs
  have e : turnsM K m.length order { S with steps := S.steps + 1, next := b, args := [] } = pushAll K (order.map fun k => m.getD (m.length - 1 - k) 0) S' := by
    unfold turnsM
    rw [h1]
    unfold turnsR
    rw [if_neg (by simp)]
  rw [e] at hs
  rcases hr with hr | hr
  · rw [hr] at hs ⊢
    obtain ⟨S2, h4, h5, h6, _⟩ := rn_push k h2 (by omega) u
    obtain ⟨S3, h7, h8, h9, _⟩ := rn_push k h5 (by simp; omega) v
    refine ⟨S3, ?_, ?_⟩
    · have e2 : pushAll K [u, v] S' = (S3, 0) := by
        unfold pushAll
        rw [h4, if_neg (by simp)]
        unfold pushAll
        rw [h7, if_neg (by simp)]
        rfl
      rw [← e2]; exact hs
    · have := rn_go h8 (h9.trans (h6.trans h3))
      rwa [List.append_assoc] at this
  · rw [hr] at hs ⊢
    exact ⟨S', hs, by rw [List.append_nil]; exact rn_go h2 h3⟩
end
end Go.Proofs.YtpfcojnkflcnoaaGreatDoor
/- What small programs come to in a machine. No condition beyond what each theorem says. -/
namespace Go.Proofs.YtpfcojnkflcnoaaGreatDoor
open Go.RowKit
set_option maxRecDepth 100000

/-- A run of K that starts at the beginning, with that fuel, ends so, having written this. -/
def Comes (code : List UInt8) (fuel : Int) (kind trap : Nat) (steps : Int) (o : List UInt8) : Prop := ∀ (K : MK), KOk K → One K code → ∀ S, Rn S 0 [] 0 [] → ∃ n S2, RunTo K fuel n S S2 ∧ endOf S2 = (kind, trap, steps) ∧ S2.out = o
theorem dec_at (p : List K16.InsL) (i : K16.InsL) (q : List K16.InsL) (hi : i.1 < 256) (h : (K16.oneL i.1 i.2).2 = 0) {n m : Nat} (hn : (K16.bytesOf p).length = n) (hm : (K16.oneL i.1 i.2).1.length = m) :
    K16.decodeL (K16.bytesOf (p ++ i :: q)) n = (i, ((n + m : Nat) : Int), 0) := by
  have := K16.decode_enc i.1 hi i.2 h (K16.bytesOf p) (K16.bytesOf q)
  rw [hn, hm] at this
  rw [show K16.bytesOf (p ++ i :: q) = K16.bytesOf p ++ ((K16.oneL i.1 i.2).1 ++ K16.bytesOf q) by simp [K16.bytesOf]]
  exact this
theorem one_plain : ∀ n, n < 256 → K16.thereB n = true → K16.formL n = [] → K16.oneL n [] = ([UInt8.ofNat n], 0) := by decide +kernel
theorem lets40 : (K16.lettersOf 40 1).getD 0 0 = 87 := by decide
theorem one_lit (x : Nat) (h : x < 65536) : (K16.oneL 40 [(x : Int)]).2 = 0 ∧ (K16.oneL 40 [(x : Int)]).1.length = 3 := by
  have hk : K16.inK 87 (x : Int) = true := by unfold K16.inK K16.lowK K16.highK; simp; omega
  have h87 : (K16.lettersOf 40 [(x : Int)].length).getD 0 0 = 87 := lets40
  have hok : K16.okTo 40 [(x : Int)] [(x : Int)].length = true := by
    show K16.okTo 40 [(x : Int)] (0 + 1) = true
    rw [K16.okTo_succ, h87, List.getD_cons_zero, hk]
    rfl
  have h1 := K16.one_good 40 [(x : Int)] (by decide) (by show K16.rowsOk 40 1 = true; decide) hok (by show K16.rowsOf 40 1 < 256; decide)
  rw [h1]
  refine ⟨rfl, ?_⟩
  show (K16.encTo 40 [(x : Int)] (0 + 1)).length = 3
  rw [K16.encTo_step _ _ _ (by decide), List.length_append, h87, K16.encArg_len]
  rfl
theorem text7 : textL false 7 = [55] := by
  unfold textL Lib.itoa
  simp only [Bool.false_eq_true, if_false]
  rw [if_neg (by decide)]
  show Lib.decDigits 7 = _
  rw [Lib.decDigits, dif_pos (by decide)]
  rfl
theorem plain_len (n : Nat) (hn : n < 256) (h1 : K16.thereB n = true) (h2 : K16.formL n = []) : (K16.oneL n []).2 = 0 ∧ (K16.oneL n []).1.length = 1 := by rw [one_plain n hn h1 h2]; exact ⟨rfl, rfl⟩
theorem run_ret {K : MK} {code : List UInt8} (k : One K code) (ko : KOk K) {S : St} {a t b : Nat} {l : List Nat} {o : List UInt8} {fuel : Int} (h : Rn S a l t o) (hd : K16.decodeL code a = ((65, []), (b : Int), 0)) (hb : b ≤ 65535) (ho : o.length ≤ 1000000) (hf : (t : Int) < fuel) :
    ∃ S2, RunTo K fuel 1 S S2 ∧ endOf S2 = (1, 0, (t : Int) + 1) ∧ S2.out = o := by
  obtain ⟨S', h1, h2, h3, h4, h5⟩ := rn_ret k ko h hd hb ho
  refine ⟨{ S' with at_ := S'.next }, .step h.kind (by rw [h.steps]; omega) (by rw [h.steps]; omega) h1 (.stop (fun hk => ?_)), ?_, h5⟩
  · simp only [h2] at hk; omega
  · unfold endOf
    simp only [h2, h3, h4]
    rfl
theorem run_on {K : MK} {S S' : St} {a t : Nat} {l : List Nat} {o : List UInt8} {fuel : Int} (h : Rn S a l t o) (hf : (t : Int) < fuel) (hs : StepOk K { S with steps := S.steps + 1 } (S', 0)) {kind trap : Nat} {steps : Int} {u : List UInt8}
    (hr : ∃ n S2, RunTo K fuel n { S' with at_ := S'.next } S2 ∧ endOf S2 = (kind, trap, steps) ∧ S2.out = u) : ∃ n S2, RunTo K fuel n S S2 ∧ endOf S2 = (kind, trap, steps) ∧ S2.out = u := by
  obtain ⟨n, S2, h1, h2, h3⟩ := hr
  exact ⟨n + 1, S2, .step h.kind (by rw [h.steps]; omega) (by rw [h.steps]; omega) hs h1, h2, h3⟩
theorem run_trap {K : MK} {S S' : St} {a t c : Nat} {l l' : List Nat} {o : List UInt8} {fuel : Int} (h : Rn S a l t o) (hf : (t : Int) < fuel) (hc : c ≠ 0) (hs : StepOk K { S with steps := S.steps + 1 } (S', c)) (h' : Rn S' a l' (t + 1) o) :
    ∃ n S2, RunTo K fuel n S S2 ∧ endOf S2 = (2, c, (t : Int) + 1) ∧ S2.out = o := by
  refine ⟨0, _, .trap h.kind (by rw [h.steps]; omega) (by rw [h.steps]; omega) hs hc, ?_, h'.out⟩
  unfold endOf
  simp only [h'.steps]
  rw [if_neg (by decide)]
  simp
theorem run_fuel {K : MK} {S : St} {a t : Nat} {l : List Nat} {o : List UInt8} {fuel : Int} (h : Rn S a l t o) (hf : fuel = t) : ∃ n S2, RunTo K fuel n S S2 ∧ endOf S2 = (3, 0, (t : Int)) ∧ S2.out = o := by
  refine ⟨0, S, .stop (fun _ => by rw [h.steps]; omega), ?_, h.out⟩
  unfold endOf
  rw [if_pos h.kind, h.steps]
/-- A literal is written. -/
def litP : List K16.InsL := [(40, [7]), (78, []), (65, [])]
theorem lit_comes : Comes (K16.bytesOf litP) 9 1 0 3 [55] := fun K ko k S h => by
  obtain ⟨e1, e2⟩ := one_lit 7 (by omega)
  obtain ⟨S1, s1, h1⟩ := rn_lit k ko (x := 7) h (dec_at [] (40, [7]) [(78, []), (65, [])] (by decide) e1 rfl e2) (by omega) (by decide) (by decide) (by omega)
  have l1 : (K16.bytesOf [(40, [7])]).length = 3 := by decide
  have l2 : (K16.bytesOf [(40, [7]), (78, [])]).length = 4 := by decide
  refine run_on h (by decide) s1 ?_
  obtain ⟨S2, s2, h2⟩ := rn_wrc k ko (l := []) (x := 7) h1 (dec_at [(40, [7])] (78, []) [(65, [])] (by decide) (by decide) l1 (m := 1) rfl) (by decide) (by rw [text7]; decide)
  refine run_on h1 (by decide) s2 ?_
  obtain ⟨S3, r3, r4, r5⟩ := run_ret (fuel := 9) k ko h2 (dec_at [(40, [7]), (78, [])] (65, []) [] (by decide) (by decide) l2 (m := 1) rfl) (by decide) (by rw [text7]; decide) (by decide)
  exact ⟨_, S3, r3, r4, r5.trans (by rw [text7]; rfl)⟩
/-- A jump to itself. -/
def jmpP : List K16.InsL := [(55, [-3])]
theorem jmp_comes : Comes (K16.bytesOf jmpP) 9 3 0 9 [] := fun K ko k S h => by
  have hc : (K16.bytesOf jmpP).length = 3 := by decide
  have hd : K16.decodeL (K16.bytesOf jmpP) ((0 : Nat) : Int) = ((55, [-3]), ((3 : Nat) : Int), 0) := dec_at [] (55, [-3]) [] (n := 0) (m := 3) (by decide) (by decide) rfl (by decide)
  have go : ∀ (d t : Nat) (S : St), d + t = 9 → Rn S 0 [] t [] → ∃ n S2, RunTo K 9 n S S2 ∧ endOf S2 = (3, 0, 9) ∧ S2.out = [] := by
    intro d
    induction d with
    | zero => intro t S ht h; obtain rfl : t = 9 := by omega
              exact run_fuel h rfl
    | succ d ih =>
      intro t S ht h
      obtain ⟨S1, s1, h1⟩ := rn_jmp k ko (c := 0) h hd (by decide) (by decide) (by decide) (by decide) (by decide) (by decide)
      exact run_on h (by omega) s1 (ih (t + 1) _ (by omega) h1)
  exact go 9 0 S rfl h
/-- An op without words. -/
def addP : List K16.InsL := [(1, [])]
theorem add_comes : Comes (K16.bytesOf addP) 9 2 14 1 [] := fun K ko k S h => by
  obtain ⟨S1, s1, h1⟩ := rn_under2 k ko (n := 1) h (by decide) (dec_at [] (1, []) [] (by decide) (by decide) rfl rfl) (by decide) (by decide) (by decide)
  exact run_trap h (by decide) (by decide) s1 h1
/-- An op of two words. -/
def askP (a b n : Nat) : List K16.InsL := [(40, [(a : Int)]), (40, [(b : Int)]), (n, []), (78, []), (65, [])]
theorem text_short (x : Nat) (hx : x < 65536) : (textL false x).length ≤ 21 := text_len false x hx
theorem op_range (n a b : Nat) : (opI n a b).1.toNat < 65536 := by have := opI_range n a b; omega
theorem ask_comes (a b n : Nat) (ha : a < 65536) (hb : b < 65536) (hn : takesN n = 2) :
    if (opI n a b).2 = 0 then Comes (K16.bytesOf (askP a b n)) 9 1 0 5 (textL false (opI n a b).1.toNat) else Comes (K16.bytesOf (askP a b n)) 9 2 (opI n a b).2 3 [] := by
  obtain ⟨e1, e2⟩ := one_lit a ha
  obtain ⟨e3, e4⟩ := one_lit b hb
  have hn' : n < 256 ∧ K16.thereB n = true ∧ K16.formL n = [] := by
    have : ∀ n, n < 32 → takesN n = 2 → n < 256 ∧ K16.thereB n = true ∧ K16.formL n = [] := by decide
    exact this n (by unfold takesN at hn; split at hn <;> omega) hn
  obtain ⟨e5, e6⟩ := plain_len n hn'.1 hn'.2.1 hn'.2.2
  have l1 : (K16.bytesOf [(40, [(a : Int)])]).length = 3 := by simp [K16.bytesOf, e2]
  have l2 : (K16.bytesOf [(40, [(a : Int)]), (40, [(b : Int)])]).length = 6 := by simp [K16.bytesOf, e2, e4]
  have l3 : (K16.bytesOf [(40, [(a : Int)]), (40, [(b : Int)]), (n, [])]).length = 7 := by simp [K16.bytesOf, e2, e4, e6]
  have l4 : (K16.bytesOf [(40, [(a : Int)]), (40, [(b : Int)]), (n, []), (78, [])]).length = 8 := by
    have : (K16.oneL 78 []).1.length = 1 := by decide
    simp [K16.bytesOf, e2, e4, e6, this]
  have two : ∀ (K : MK) (ko : KOk K) (k : One K (K16.bytesOf (askP a b n))) (S : St) (h : Rn S 0 [] 0 []) (kind trap : Nat) (steps : Int) (u : List UInt8),
      (∀ S', Rn S' 6 [a, b] 2 [] → ∃ m S2, RunTo K 9 m S' S2 ∧ endOf S2 = (kind, trap, steps) ∧ S2.out = u) → ∃ m S2, RunTo K 9 m S S2 ∧ endOf S2 = (kind, trap, steps) ∧ S2.out = u := by
    intro K ko k S h kind trap steps u hr
    obtain ⟨S1, s1, h1⟩ := rn_lit k ko h (dec_at [] (40, [(a : Int)]) [(40, [(b : Int)]), (n, []), (78, []), (65, [])] (by show 40 < 256; decide) e1 rfl e2) (by omega) (by decide) (by decide) ha
    refine run_on h (by decide) s1 ?_
    obtain ⟨S2, s2, h2⟩ := rn_lit k ko h1 (dec_at [(40, [(a : Int)])] (40, [(b : Int)]) [(n, []), (78, []), (65, [])] (by show 40 < 256; decide) e3 l1 e4) (by omega) (by decide) (by simp) hb
    exact run_on h1 (by decide) s2 (hr _ h2)
  have hdo : K16.decodeL (K16.bytesOf (askP a b n)) ((6 : Nat) : Int) = ((n, []), ((7 : Nat) : Int), 0) := dec_at [(40, [(a : Int)]), (40, [(b : Int)])] (n, []) [(78, []), (65, [])] hn'.1 e5 l2 e6
  by_cases hz : (opI n a b).2 = 0
  · rw [if_pos hz]
    intro K ko k S h
    refine two K ko k S h _ _ _ _ fun S' h' => ?_
    have h3 := rn_op2 k ko (l := []) h' hdo hn (by decide) (by decide)
    rw [if_pos hz] at h3
    obtain ⟨S3, s3, h3⟩ := h3
    refine run_on h' (by decide) s3 ?_
    have ht := text_short _ (op_range n a b)
    obtain ⟨S4, s4, h4⟩ := rn_wrc k ko (l := []) h3 (dec_at [(40, [(a : Int)]), (40, [(b : Int)]), (n, [])] (78, []) [(65, [])] (m := 1) (by decide) (by decide) l3 (by decide)) (by decide) (by simp only [List.length_nil]; omega)
    refine run_on h3 (by decide) s4 ?_
    obtain ⟨S5, r3, r4, r5⟩ := run_ret (fuel := 9) k ko h4 (dec_at [(40, [(a : Int)]), (40, [(b : Int)]), (n, []), (78, [])] (65, []) [] (m := 1) (by decide) (by decide) l4 (by decide)) (by decide) (by simp only [List.nil_append]; omega) (by decide)
    exact ⟨_, S5, r3, r4, by rw [r5, List.nil_append]⟩
  · rw [if_neg hz]
    intro K ko k S h
    refine two K ko k S h _ _ _ _ fun S' h' => ?_
    have h3 := rn_op2 k ko (l := []) h' hdo hn (by decide) (by decide)
    rw [if_neg hz] at h3
    obtain ⟨S3, s3, h3⟩ := h3
    exact run_trap h' (by decide) hz s3 h3
end Go.Proofs.YtpfcojnkflcnoaaGreatDoor
/- What a small program comes to in a machine, whose words came in the other order. No condition beyond what each theorem says. -/
namespace Go.Proofs.YtpfcojnkflcnoaaGreatDoor
open Go.RowKit
set_option maxRecDepth 100000

def askQ (a b n : Nat) : List K16.InsL := [(40, [(b : Int)]), (40, [(a : Int)]), (70, []), (n, []), (68, []), (69, []), (78, []), (65, [])]
theorem askQ_comes (a b n : Nat) (ha : a < 65536) (hb : b < 65536) (hn : takesN n = 2) :
    if (opI n a b).2 = 0 then Comes (K16.bytesOf (askQ a b n)) 9 1 0 8 (textL false (opI n a b).1.toNat) else Comes (K16.bytesOf (askQ a b n)) 9 2 (opI n a b).2 4 [] := by
  obtain ⟨e1, e2⟩ := one_lit b hb
  obtain ⟨e3, e4⟩ := one_lit a ha
  have hn' : n < 256 ∧ K16.thereB n = true ∧ K16.formL n = [] := by
    have : ∀ n, n < 32 → takesN n = 2 → n < 256 ∧ K16.thereB n = true ∧ K16.formL n = [] := by decide
    exact this n (by unfold takesN at hn; split at hn <;> omega) hn
  obtain ⟨e5, e6⟩ := plain_len n hn'.1 hn'.2.1 hn'.2.2
  have o70 : (K16.oneL 70 []).1.length = 1 := by decide
  have o68 : (K16.oneL 68 []).1.length = 1 := by decide
  have o69 : (K16.oneL 69 []).1.length = 1 := by decide
  have o78 : (K16.oneL 78 []).1.length = 1 := by decide
  have l1 : (K16.bytesOf [(40, [(b : Int)])]).length = 3 := by simp [K16.bytesOf, e2]
  have l2 : (K16.bytesOf [(40, [(b : Int)]), (40, [(a : Int)])]).length = 6 := by simp [K16.bytesOf, e2, e4]
  have l3 : (K16.bytesOf [(40, [(b : Int)]), (40, [(a : Int)]), (70, [])]).length = 7 := by simp [K16.bytesOf, e2, e4, o70]
  have l4 : (K16.bytesOf [(40, [(b : Int)]), (40, [(a : Int)]), (70, []), (n, [])]).length = 8 := by simp [K16.bytesOf, e2, e4, o70, e6]
  have l5 : (K16.bytesOf [(40, [(b : Int)]), (40, [(a : Int)]), (70, []), (n, []), (68, [])]).length = 9 := by simp [K16.bytesOf, e2, e4, o70, e6, o68]
  have l6 : (K16.bytesOf [(40, [(b : Int)]), (40, [(a : Int)]), (70, []), (n, []), (68, []), (69, [])]).length = 10 := by simp [K16.bytesOf, e2, e4, o70, e6, o68, o69]
  have l7 : (K16.bytesOf [(40, [(b : Int)]), (40, [(a : Int)]), (70, []), (n, []), (68, []), (69, []), (78, [])]).length = 11 := by simp [K16.bytesOf, e2, e4, o70, e6, o68, o69, o78]
  have three : ∀ (K : MK) (ko : KOk K) (k : One K (K16.bytesOf (askQ a b n))) (S : St) (h : Rn S 0 [] 0 []) (kind trap : Nat) (steps : Int) (u : List UInt8),
      (∀ S', Rn S' 7 [a, b] 3 [] → ∃ m S2, RunTo K 9 m S' S2 ∧ endOf S2 = (kind, trap, steps) ∧ S2.out = u) → ∃ m S2, RunTo K 9 m S S2 ∧ endOf S2 = (kind, trap, steps) ∧ S2.out = u := by
    intro K ko k S h kind trap steps u hr
    obtain ⟨S1, s1, h1⟩ := rn_lit k ko h (dec_at [] (40, [(b : Int)]) [(40, [(a : Int)]), (70, []), (n, []), (68, []), (69, []), (78, []), (65, [])] (by show 40 < 256; decide) e1 rfl e2) (by omega) (by decide) (by decide) hb
    refine run_on h (by decide) s1 ?_
    obtain ⟨S2, s2, h2⟩ := rn_lit k ko h1 (dec_at [(40, [(b : Int)])] (40, [(a : Int)]) [(70, []), (n, []), (68, []), (69, []), (78, []), (65, [])] (by show 40 < 256; decide) e3 l1 e4) (by omega) (by decide) (by simp) ha
    refine run_on h1 (by decide) s2 ?_
    obtain ⟨S3, s3, h3⟩ := rn_turns k ko (l := []) (m := [b, a]) (order := [0, 1]) h2 (dec_at [(40, [(b : Int)]), (40, [(a : Int)])] (70, []) [(n, []), (68, []), (69, []), (78, []), (65, [])] (m := 1) (by decide) (by decide) l2 o70) (by decide) (by decide) (.inr (.inr rfl)) (fun _ => rfl) a b (.inl rfl) (by decide)
    exact run_on h2 (by decide) s3 (hr _ h3)
  have hdo : K16.decodeL (K16.bytesOf (askQ a b n)) ((7 : Nat) : Int) = ((n, []), ((8 : Nat) : Int), 0) := dec_at [(40, [(b : Int)]), (40, [(a : Int)]), (70, [])] (n, []) [(68, []), (69, []), (78, []), (65, [])] hn'.1 e5 l3 e6
  by_cases hz : (opI n a b).2 = 0
  · rw [if_pos hz]
    intro K ko k S h
    refine three K ko k S h _ _ _ _ fun S' h' => ?_
    have h3 := rn_op2 k ko (l := []) h' hdo hn (by decide) (by decide)
    rw [if_pos hz] at h3
    obtain ⟨S3, s3, h3⟩ := h3
    refine run_on h' (by decide) s3 ?_
    have ht := text_short _ (op_range n a b)
    obtain ⟨S4, s4, h4⟩ := rn_turns k ko (l := []) (m := [(opI n a b).1.toNat]) (order := [0, 0]) h3 (dec_at [(40, [(b : Int)]), (40, [(a : Int)]), (70, []), (n, [])] (68, []) [(69, []), (78, []), (65, [])] (m := 1) (by decide) (by decide) l4 o68) (by decide) (by decide) (.inl rfl) (fun _ => rfl) _ _ (.inl rfl) (by decide)
    refine run_on h3 (by decide) s4 ?_
    obtain ⟨S5, s5, h5⟩ := rn_turns k ko (l := [(opI n a b).1.toNat]) (m := [(opI n a b).1.toNat]) (order := []) h4 (dec_at [(40, [(b : Int)]), (40, [(a : Int)]), (70, []), (n, []), (68, [])] (69, []) [(78, []), (65, [])] (m := 1) (by decide) (by decide) l5 o69) (by decide) (by decide) (.inr (.inl rfl)) (fun _ => rfl) 0 0 (.inr rfl) (by simp)
    refine run_on h4 (by decide) s5 ?_
    obtain ⟨S6, s6, h6⟩ := rn_wrc k ko (l := []) h5 (dec_at [(40, [(b : Int)]), (40, [(a : Int)]), (70, []), (n, []), (68, []), (69, [])] (78, []) [(65, [])] (m := 1) (by decide) (by decide) l6 o78) (by decide) (by simp only [List.length_nil]; omega)
    refine run_on h5 (by decide) s6 ?_
    obtain ⟨S7, r3, r4, r5⟩ := run_ret (fuel := 9) k ko h6 (dec_at [(40, [(b : Int)]), (40, [(a : Int)]), (70, []), (n, []), (68, []), (69, []), (78, [])] (65, []) [] (m := 1) (by decide) (by decide) l7 (by decide)) (by decide) (by simp only [List.nil_append]; omega) (by decide)
    exact ⟨_, S7, r3, r4, by rw [r5, List.nil_append]⟩
  · rw [if_neg hz]
    intro K ko k S h
    refine three K ko k S h _ _ _ _ fun S' h' => ?_
    have h3 := rn_op2 k ko (l := []) h' hdo hn (by decide) (by decide)
    rw [if_neg hz] at h3
    obtain ⟨S3, s3, h3⟩ := h3
    exact run_trap h' (by decide) hz s3 h3
end Go.Proofs.YtpfcojnkflcnoaaGreatDoor
/- A machine runs. Condition: what lies in memory can lie there; tables of the library's lie there. -/
namespace Go.Proofs.YtpfcojnkflcnoaaGreatDoor
open Go.RowKit
set_option maxRecDepth 100000
attribute [local go_sem ↓] Go.wp_at_zero Go.wp_at_succ

theorem RunTo.inv {K : MK} {fuel : Int} {g : Nat} {S S2 : St} (h : RunTo K fuel g S S2) : (S2 = S ∧ (S.kind = 0 → fuel ≤ S.steps)) ∨
    (∃ n S1, g = n + 1 ∧ S.kind = 0 ∧ 0 ≤ S.steps ∧ S.steps < fuel ∧ StepOk K { S with steps := S.steps + 1 } (S1, 0) ∧ RunTo K fuel n { S1 with at_ := S1.next } S2) ∨
    (∃ S1 t, S.kind = 0 ∧ 0 ≤ S.steps ∧ S.steps < fuel ∧ StepOk K { S with steps := S.steps + 1 } (S1, t) ∧ t ≠ 0 ∧ S2 = { S1 with kind := 2, trap := t }) := by
  cases h with
  | stop h => exact .inl ⟨rfl, h⟩
  | step h0 h1 h2 hs hr => exact .inr (.inl ⟨_, _, rfl, h0, h1, h2, hs, hr⟩)
  | trap h0 h1 h2 hs ht => exact .inr (.inr ⟨_, _, h0, h1, h2, hs, ht, rfl⟩)
theorem run_ret3 {W' : World} {b : Nat} {k t : Nat} {s : Int} {R : Ending → World → Prop} {a : Act} (hx : Bx b #[.int .u8 (k : Nat), .int .u8 (t : Nat), .int .i64 s] 25 W') (h4 : a.tmps.getD 4 undef = .pointer (some ⟨b, 0, none⟩)) (hd : a.defers = [])
    (hR : R (.returned (.agg #[.int .u8 (k : Nat), .int .u8 (t : Nat), .int .i64 s])) W') : bodyPost Tryz.prog Tryz.f14 R .ret a W' := by
  have x0 : W'.cell? ⟨b, 0, none⟩ = some (.int .u8 (k : Nat)) := (hx.cell 0).trans rfl
  have x1 : W'.cell? ⟨b, 1, none⟩ = some (.int .u8 (t : Nat)) := (hx.cell 1).trans rfl
  have x2 : W'.cell? ⟨b, 2, none⟩ = some (.int .i64 s) := (hx.cell 2).trans rfl
  refine bodyPost_ret (v := .agg #[.int .u8 (k : Nat), .int .u8 (t : Nat), .int .i64 s]) ?_ hd hR
  have h5 : a.tmps[4]?.getD undef = .pointer (some ⟨b, 0, none⟩) := by simpa [Array.getD_eq_getD_getElem?] using h4
  simp [results, Tryz.results14, go_sem, h5, x0, x1, x2]
/-- What is known of a machine at rest: all but its instruction's numbers. -/
structure AtW (K : MK) (S : St) (W : World) : Prop where
  box : ∃ (cs : Array Value), Bx K.b cs 79 W ∧ ∃ A c, cs = mcells K S A c
  term : ∃ re im, (re ≤ fTop ∧ im ≤ fTop) ∧ Bx K.bt (tcells K S re im) 108 W
  mem : MemAt K.bm K.n S.ws W
theorem AtW.of {K : MK} {S : St} {W W' : World} (h : At K S W) (hs : ∀ k ∈ K.bs, W'.heap[k]? = W.heap[k]?) (k : KOk K) : AtW K S W' := by
  obtain ⟨A, c, h1, _⟩ := h.box
  obtain ⟨re, im, hre, h3⟩ := h.term
  exact ⟨⟨_, (hs _ k.hb).trans h1, A, c, rfl⟩, ⟨re, im, hre, (hs _ k.ht).trans h3⟩, h.mem.later (hs _ k.hm)⟩
theorem set3_at (W : World) (b : Nat) (u v x : Value) (k : Nat) (h : k ≠ b) : (((W.setCell ⟨b, 0, none⟩ u).setCell ⟨b, 1, none⟩ v).setCell ⟨b, 2, none⟩ x).heap[k]? = W.heap[k]? :=
  (Below.heap_setCell _ _ _ _ h).trans ((Below.heap_setCell _ _ _ _ h).trans (Below.heap_setCell _ _ _ _ h))
theorem only3 {bs : List Nat} {W w : World} (h : Only bs W w) (u v x : Value) : Only bs W (((w.setCell ⟨W.heap.size, 0, none⟩ u).setCell ⟨W.heap.size, 1, none⟩ v).setCell ⟨W.heap.size, 2, none⟩ x) := by
  have hsz : (((w.setCell ⟨W.heap.size, 0, none⟩ u).setCell ⟨W.heap.size, 1, none⟩ v).setCell ⟨W.heap.size, 2, none⟩ x).heap.size = w.heap.size := by rw [setCell_size, setCell_size, setCell_size]
  refine ⟨h.os, h.tape, h.output, by rw [mask_size, mask_size, hsz]; exact h.size, fun k hk => ?_⟩
  by_cases hb : k ∈ bs
  · rw [mask_in _ _ hb hk, mask_in _ _ hb (by rw [hsz]; exact Nat.lt_of_lt_of_le hk h.size)]
  · rw [mask_at _ _ hb, mask_at _ _ hb, ← h.block hk hb]
    exact set3_at w _ u v x k (by omega)
/-- How a run ends. -/
def RunEnd (K : MK) (W : World) (S2 : St) (e : Ending) (W' : World) : Prop := e = .returned (.agg #[.int .u8 ((endOf S2).1 : Nat), .int .u8 ((endOf S2).2.1 : Nat), .int .i64 (endOf S2).2.2]) ∧ AtW K S2 W' ∧ Only K.bs W W'
set_option maxHeartbeats 2000000 in
theorem run_any (K : MK) (k : KOk K) (fuel : Int) (hf : fuel ≤ 9223372036854775807) (N : Nat) (S S2 : St) (hr : RunTo K fuel N S S2) (_hst : 0 ≤ S.steps) (W : World) (h : At K S W) (hen : EnvK K W) : Calls Tryz.prog 14 #[.pointer (some ⟨K.b, 0, none⟩), .int .i64 fuel] W (RunEnd K W S2) := by
  have HK := Lib.hid k
  have H := Lib.hid h
  have HE := Lib.hid hen
  have HR := Lib.hid hr
  have c3 := h.c3
  have hlt := h.lt
  have hn1 : W.heap.size ∉ K.bs := fun hm => by have := h.old _ hm; omega
  have HB := Lib.hid (alloc_below W (.cells #[.int .u8 0, .int .u8 0, .int .i64 0] 25))
  have HX := Lib.hid (Bx.new W #[.int .u8 0, .int .u8 0, .int .i64 0] 25)
  clear h k hen hr
  go_enter Tryz.func14, Tryz.ntmps14
  go_wp2_with fail
  generalize W.alloc (.cells #[.int .u8 0, .int .u8 0, .int .i64 0] 25) = w0 at *
  have H0 := Lib.hid (H.out.grow HB.out)
  go_loopg [] N (fun g wr => ∃ S' : St, RunTo K fuel g S' S2 ∧ At K S' wr ∧ Only K.bs W wr ∧ Bx W.heap.size #[.int .u8 0, .int .u8 0, .int .i64 0] 25 wr)
  case atStart => exact ⟨S, HR.out, H0.out, Only.of_below HB.out, HX.out⟩
  case round =>
    clear HR H0 HX HB H c3 hlt
    obtain ⟨S', hr', hA, ho, hx⟩ := hrel
    have HA := Lib.hid hA
    have HO := Lib.hid ho
    have HX := Lib.hid hx
    have hlt := hA.lt
    have hx0 : wr.cell? ⟨W.heap.size, 0, none⟩ = some (.int .u8 0) := (hx.cell 0).trans rfl
    have hx1 : wr.cell? ⟨W.heap.size, 1, none⟩ = some (.int .u8 0) := (hx.cell 1).trans rfl
    have hx2 : wr.cell? ⟨W.heap.size, 2, none⟩ = some (.int .i64 0) := (hx.cell 2).trans rfl
    have hxf := hx.frozen
    clear hA ho hx
    have c18 := HA.out.c18
    have c19 := HA.out.c19
    have c20 := HA.out.c20
    have fz := HA.out.fz
    rcases hr'.inv with ⟨rfl, hstop⟩ | ⟨n, S1, rfl, h0, h1, h2, hs, hr2⟩ | ⟨S1, t, h0, h1, h2, hs, ht, hS2⟩
    · by_cases hk : S2.kind = 0
      · have hst := hstop hk
        rw [hk] at c18
        have HE2 := Lib.hid (show endOf S2 = (3, 0, S2.steps) by unfold endOf; rw [if_pos hk])
        have d : decide (S2.steps < fuel) = false := decide_eq_false (by omega)
        have hX3 := Lib.hid (((HX.out.set 0 (.int .u8 (3 : Nat))).set 1 (.int .u8 (0 : Nat))).set 2 (.int .i64 S2.steps))
        clear hstop hst
        go_wp2_with fail
        refine run_ret3 hX3.out rfl rfl ?_
        unfold RunEnd
        rw [HE2.out]
        exact ⟨rfl, AtW.of HA.out (fun k hk => set3_at wr _ _ _ _ k (fun e => hn1 (e ▸ hk))) HK.out, only3 HO.out _ _ _⟩
      · have d : ((S2.kind : Int) == 0) = false := beq_eq_false_iff_ne.2 (by omega)
        have HE2 := Lib.hid (show endOf S2 = (S2.kind, S2.trap, S2.steps) by unfold endOf; rw [if_neg hk])
        have hX3 := Lib.hid (((HX.out.set 0 (.int .u8 (S2.kind : Nat))).set 1 (.int .u8 (S2.trap : Nat))).set 2 (.int .i64 S2.steps))
        clear hstop
        go_wp2_with fail
        refine run_ret3 hX3.out rfl rfl ?_
        unfold RunEnd
        rw [HE2.out]
        exact ⟨rfl, AtW.of HA.out (fun k hk => set3_at wr _ _ _ _ k (fun e => hn1 (e ▸ hk))) HK.out, only3 HO.out _ _ _⟩
    · rw [h0] at c18
      clear c19
      have hw : IntKind.i64.wrap (S'.steps + 1) = S'.steps + 1 := IntWalk.i64_in _ (by omega)
      have d : decide (S'.steps < fuel) = true := decide_eq_true h2
      have H1 := Lib.hid (HA.out.set_steps HK.out (S'.steps + 1))
      have HO1 := Lib.hid (HO.out.setCell (a := ⟨K.b, 20, none⟩) HK.out.hb (.int .i64 (S'.steps + 1)))
      have HX1 := Lib.hid (HX.out.far (a := ⟨K.b, 20, none⟩) (fun e => hn1 (e ▸ HK.out.hb)) (.int .i64 (S'.steps + 1)))
      have HS := Lib.hid hs
      have HR2 := Lib.hid hr2
      clear hs hr2 h2
      go_wp2_with fail
      refine (HS.out _ H1.out (HE.out.only HO1.out)).mono ?_
      rintro e w2 ⟨rfl, hA2, ho2⟩
      have HX2 := Lib.hid (HX1.out.only ho2 hn1)
      have HO2 := Lib.hid (HO1.out.trans ho2)
      have c15 := hA2.c15
      have c12 := hA2.c12
      have fz2 := hA2.fz
      have hlt2 := hA2.lt
      have HA3 := Lib.hid (hA2.set_at_ HK.out S1.next)
      have HO3 := Lib.hid (HO2.out.setCell (a := ⟨K.b, 12, none⟩) HK.out.hb (.int .i64 S1.next))
      have HX3 := Lib.hid (HX2.out.far (a := ⟨K.b, 12, none⟩) (fun e => hn1 (e ▸ HK.out.hb)) (.int .i64 S1.next))
      clear hA2 ho2 H1 HO1 HX1 HX2 HO2 HA HO HX hx0 hx1 hx2 hxf c18 c20 fz hlt HS
      go_wp2_with fail
      go_roundg n
      case measure => omega
      case rel => exact ⟨_, HR2.out, HA3.out, HO3.out, HX3.out⟩
    · rw [h0] at c18
      clear c19
      have hw : IntKind.i64.wrap (S'.steps + 1) = S'.steps + 1 := IntWalk.i64_in _ (by omega)
      have d : decide (S'.steps < fuel) = true := decide_eq_true h2
      have H1 := Lib.hid (HA.out.set_steps HK.out (S'.steps + 1))
      have HO1 := Lib.hid (HO.out.setCell (a := ⟨K.b, 20, none⟩) HK.out.hb (.int .i64 (S'.steps + 1)))
      have HX1 := Lib.hid (HX.out.far (a := ⟨K.b, 20, none⟩) (fun e => hn1 (e ▸ HK.out.hb)) (.int .i64 (S'.steps + 1)))
      have HS := Lib.hid hs
      have HS2 := Lib.hid hS2
      have d2 : ((t : Int) != 0) = true := bne_iff_ne.2 (by omega)
      clear hs h2 ht hS2
      go_wp2_with fail
      refine (HS.out _ H1.out (HE.out.only HO1.out)).mono ?_
      rintro e w2 ⟨rfl, hA2, ho2⟩
      simp only at hA2
      have HX2 := Lib.hid (HX1.out.only ho2 hn1)
      have HO2 := Lib.hid (HO1.out.trans ho2)
      have fz2 := hA2.fz
      have c18 := hA2.c18
      have c19 := hA2.c19
      have c20 := hA2.c20
      have hlt2 := hA2.lt
      have HA3 := Lib.hid ((hA2.set_kind HK.out 2).set_trap HK.out t)
      have HO3 := Lib.hid ((HO2.out.setCell (a := ⟨K.b, 18, none⟩) HK.out.hb (.int .u8 (2 : Nat))).setCell (a := ⟨K.b, 19, none⟩) HK.out.hb (.int .u8 (t : Nat)))
      have HX3 := Lib.hid ((HX2.out.far (a := ⟨K.b, 18, none⟩) (fun e => hn1 (e ▸ HK.out.hb)) (.int .u8 (2 : Nat))).far (a := ⟨K.b, 19, none⟩) (fun e => hn1 (e ▸ HK.out.hb)) (.int .u8 (t : Nat)))
      have HE2 := Lib.hid (show endOf S2 = (2, t, S1.steps) by rw [HS2.out]; rfl)
      have hX3 := Lib.hid (((HX3.out.set 0 (.int .u8 (2 : Nat))).set 1 (.int .u8 (t : Nat))).set 2 (.int .i64 S1.steps))
      have hx0 : w2.cell? ⟨W.heap.size, 0, none⟩ = some (.int .u8 0) := (HX2.out.cell 0).trans rfl
      have hx1 : w2.cell? ⟨W.heap.size, 1, none⟩ = some (.int .u8 0) := (HX2.out.cell 1).trans rfl
      have hx2 : w2.cell? ⟨W.heap.size, 2, none⟩ = some (.int .i64 0) := (HX2.out.cell 2).trans rfl
      have hxf := HX2.out.frozen
      have hxl := HX2.out.lt
      have hbne : K.b ≠ W.heap.size := fun e => hn1 (e ▸ HK.out.hb)
      clear hA2 ho2 H1 HO1 HX1 HX2 HO2 HA HO HX fz hlt HS
      go_wp2_with fail
      refine run_ret3 hX3.out rfl rfl ?_
      unfold RunEnd
      rw [HE2.out, HS2.out]
      exact ⟨rfl, AtW.of HA3.out (fun k hk => set3_at _ _ _ _ _ k (fun e => hn1 (e ▸ hk))) HK.out, only3 HO3.out _ _ _⟩
end Go.Proofs.YtpfcojnkflcnoaaGreatDoor
