/- A machine in memory. A machine's procedure that runs. A machine pushes and pops words. Condition: what lies in memory can lie there; what each theorem says. -/
import Derived.Test.YtabenhpjgjjgnaaGreatDoorBae
import Derived.StillTailTactics
import Derived.Deep.RegionHeld3
/- A machine in memory. -/
namespace Go.Proofs.YtabenhpjgjjgnaaGreatDoor
open Go.RowKit
set_option maxRecDepth 100000
structure MK where
 bs : List Nat
 b : Nat
 bt : Nat
 bm : Nat
 bh : Nat
 n : Nat
 mods : List ModL
 order : List Int
 pA : Option Addr
 pc : Nat
 oA : Option Addr
 oc : Nat
 dA : Option Addr
 dc : Nat
 fA : Option Addr
 fc : Nat
 data : List Int
 first : List Int
 low : Int
 high : Int
 most : Int
 bq : Nat
 hn : Int
structure St where
 ord : Int
 mod : Int
 proc : Int
 at_ : Int
 fp : Int
 sp : Int
 next : Int
 depth : Int
 kind : Nat
 trap : Nat
 steps : Int
 args : List Int
 ws : Nat → Nat
 inp : List UInt8
 out : List UInt8
 last : Int
 blocks : List (Nat × Int × Int)
def mcells (K : MK) (S : St) (A : Option Addr) (c : Nat) : Array Value := #[.pointer (some ⟨K.bt, 0, none⟩), .slice K.pA K.mods.length K.pc, .slice K.oA K.order.length K.oc, .pointer (some ⟨K.bm, 0, none⟩), .pointer (some ⟨K.bh, 0, none⟩), .slice K.dA K.data.length K.dc, .slice K.fA K.first.length K.fc, .int .i64 K.low, .int .i64 K.high, .int .i64 S.ord, .int .i64 S.mod, .int .i64 S.proc, .int .i64 S.at_, .int .i64 S.fp, .int .i64 S.sp, .int .i64 S.next, .slice A S.args.length c, .int .i64 S.depth, .int .u8 S.kind, .int .u8 S.trap, .int .i64 S.steps]
def tcells (K : MK) (S : St) (re im : Nat) : Array Value := #[.string ⟨S.inp.toArray⟩, .string ⟨S.out.toArray⟩, .int .i64 K.most, .complex .f64 re im, .bool true]
structure KOk (K : MK) : Prop where
 hb : K.b ∈ K.bs
 ht : K.bt ∈ K.bs
 hm : K.bm ∈ K.bs
 bt : K.b ≠ K.bt
 bm : K.b ≠ K.bm
 tm : K.bt ≠ K.bm
 mods_le : K.mods.length ≤ 64
 may : checkB K.mods K.order = true
 n_le : K.n ≤ 65535
 low1 : 1 ≤ K.low
 lowh : K.low ≤ K.high
 high : K.high ≤ K.n + 1
 hh : K.bh ∈ K.bs
 hq : K.bq ∈ K.bs
 bh : K.b ≠ K.bh
 bq : K.b ≠ K.bq
 th : K.bt ≠ K.bh
 tq : K.bt ≠ K.bq
 mh : K.bm ≠ K.bh
 mq : K.bm ≠ K.bq
 hqne : K.bh ≠ K.bq
 hn0 : 0 ≤ K.hn
 hn1 : K.high + K.hn ≤ K.n + 1
def hcells (K : MK) (S : St) : Array Value := #[.int .i64 K.high, .int .i64 K.hn, .int .i64 S.last, .map (some K.bq)]
def bent (x : Nat × Int × Int) : Value × Value := (.int .u16 (x.1 : Int), .agg #[.int .i64 x.2.1, .int .i64 x.2.2])
def BlocksAt (q : Nat) (l : List (Nat × Int × Int)) (W : World) : Prop := ∃ es clock, W.heap[q]? = some (.map es clock) ∧ es.toList.map (fun e => (e.key, e.val)) = l.map bent ∧ (∀ e ∈ es.toList, e.born < clock) ∧ es.toList.Pairwise (fun a b => a.born < b.born)
structure HpAt (K : MK) (S : St) (W : World) : Prop where
 box : Bx K.bh (hcells K S) 124 W
 map : BlocksAt K.bq S.blocks W
theorem BlocksAt.lt {q : Nat} {l : List (Nat × Int × Int)} {W : World} (h : BlocksAt q l W) : q < W.heap.size := by
 obtain ⟨es, cl, h1, _⟩ := h
 rcases Nat.lt_or_ge q W.heap.size with h' | h'
 ·exact h'
 ·rw [Array.getElem?_eq_none h'] at h1; cases h1
theorem BlocksAt.later {q : Nat} {l : List (Nat × Int × Int)} {W W' : World} (h : BlocksAt q l W) (hb : W'.heap[q]? = W.heap[q]?) : BlocksAt q l W' := by
 obtain ⟨es, cl, h1, h2⟩ := h
 exact ⟨es, cl, hb.trans h1, h2⟩
theorem HpAt.later {K : MK} {S S' : St} {W W' : World} (h : HpAt K S W) (hl : S'.last = S.last) (hk : S'.blocks = S.blocks) (h1 : W'.heap[K.bh]? = W.heap[K.bh]?) (h2 : W'.heap[K.bq]? = W.heap[K.bq]?) : HpAt K S' W' := by
 refine ⟨?_, ?_⟩
 ·have e : hcells K S' = hcells K S := by unfold hcells; rw [hl]
  rw [e]; exact h1.trans h.box
 ·rw [hk]; exact h.map.later h2
structure At (K : MK) (S : St) (W : World) : Prop where
 box : ∃ A c, Bx K.b (mcells K S A c) 81 W ∧ (Ints (mask K.bs W) A S.args ∧ S.args.length ≤ c)
 term : ∃ re im, (re ≤ fTop ∧ im ≤ fTop) ∧ Bx K.bt (tcells K S re im) 118 W
 mem : MemAt K.bm K.n S.ws W
 hp : HpAt K S W
 mods : Mods (mask K.bs W) K.pA K.mods
 order : Ints (mask K.bs W) K.oA K.order
 data : Ints (mask K.bs W) K.dA K.data
 first : Ints (mask K.bs W) K.fA K.first
 old : ∀ b ∈ K.bs, b < W.heap.size
theorem At.only {K : MK} {S S' : St} {W W' : World} (h : At K S W) (ho : Only K.bs W W') (hbox : ∃ A c, Bx K.b (mcells K S' A c) 81 W' ∧ (Ints (mask K.bs W') A S'.args ∧ S'.args.length ≤ c)) (hterm : ∃ re im, (re ≤ fTop ∧ im ≤ fTop) ∧ Bx K.bt (tcells K S' re im) 118 W') (hmem : MemAt K.bm K.n S'.ws W') (hhp : HpAt K S' W') : At K S' W' :=
 ⟨hbox, hterm, hmem, hhp, h.mods.later ho (by rw [mask_size]; exact Nat.le_refl _), h.order.later ho (by rw [mask_size]; exact Nat.le_refl _), h.data.later ho (by rw [mask_size]; exact Nat.le_refl _), h.first.later ho (by rw [mask_size]; exact Nat.le_refl _), fun b hb => Nat.lt_of_lt_of_le (h.old b hb) ho.size⟩
theorem At.grow {K : MK} {S : St} {W W' : World} (h : At K S W) (hb : Below W.heap.size W W') : At K S W' := by
 have ho : Only K.bs W W' := Only.of_below hb
 obtain ⟨A, c, h1, h2⟩ := h.box
 obtain ⟨re, im, hre, h3⟩ := h.term
 exact h.only ho ⟨A, c, h1.grow hb, ⟨h2.1.later ho (by rw [mask_size]; exact Nat.le_refl _), h2.2⟩⟩ ⟨re, im, hre, h3.grow hb⟩ (h.mem.grow hb) (h.hp.later rfl rfl (hb.block _ h.hp.box.lt) (hb.block _ h.hp.map.lt))
theorem At.lt {K : MK} {S : St} {W : World} (h : At K S W) : K.b < W.heap.size := by
 obtain ⟨A, c, h1, _⟩ := h.box
 exact h1.lt
theorem At.fz {K : MK} {S : St} {W : World} (h : At K S W) (i : Nat) : W.frozen? ⟨K.b, i, none⟩ = false := by
 obtain ⟨A, c, h1, _⟩ := h.box
 exact h1.frozen i
theorem At.setBox {K : MK} {S S' : St} {W : World} (h : At K S W) (k : KOk K) (i : Nat) (v : Value) (ha : S'.args = S.args) (hi : S'.inp = S.inp) (hu : S'.out = S.out) (hw : S'.ws = S.ws) (hl : S'.last = S.last) (hk : S'.blocks = S.blocks) (he : ∀ A c, (mcells K S A c).setIfInBounds i v = mcells K S' A c) : At K S' (W.setCell ⟨K.b, i, none⟩ v) := by
 have ho : Only K.bs W (W.setCell ⟨K.b, i, none⟩ v) := (Only.refl _ _).setCell k.hb v
 obtain ⟨A, c, h1, h2⟩ := h.box
 obtain ⟨re, im, hre, h3⟩ := h.term
 refine h.only ho ⟨A, c, ?_, ?_⟩ ⟨re, im, hre, ?_⟩ ?_ (h.hp.later hl hk (Below.heap_setCell _ _ _ _ k.bh.symm) (Below.heap_setCell _ _ _ _ k.bq.symm))
 ·have := h1.set i v
  rw [he] at this
  exact this
 ·rw [ha]; exact ⟨h2.1.later ho (by rw [mask_size]; exact Nat.le_refl _), h2.2⟩
 ·have := h3.far (a := ⟨K.b, i, none⟩) k.bt.symm v
  unfold tcells at this ⊢
  rw [hi, hu]; exact this
 ·rw [hw]; exact h.mem.later (Below.heap_setCell _ _ _ _ k.bm.symm)
theorem At.setMem {K : MK} {S : St} {W W' : World} {ws : Nat → Nat} (h : At K S W) (k : KOk K) (hm : MemAt K.bm K.n ws W') (ho : Only K.bs W W') (hf : ∀ j, j < W.heap.size → j ≠ K.bm → W'.heap[j]? = W.heap[j]?) : At K { S with ws := ws } W' := by
 obtain ⟨A, c, h1, h2⟩ := h.box
 obtain ⟨re, im, hre, h3⟩ := h.term
 exact h.only ho ⟨A, c, (hf _ h1.lt k.bm).trans h1, ⟨h2.1.later ho (by rw [mask_size]; exact Nat.le_refl _), h2.2⟩⟩ ⟨re, im, hre, (hf _ h3.lt k.tm).trans h3⟩ hm (h.hp.later rfl rfl (hf _ h.hp.box.lt k.mh.symm) (hf _ h.hp.map.lt k.mq.symm))
theorem At.set_ord {K : MK} {S : St} {W : World} (h : At K S W) (k : KOk K) (x : Int) : At K { S with ord := x } (W.setCell ⟨K.b, 9, none⟩ (.int .i64 x)) := h.setBox k 9 _ rfl rfl rfl rfl rfl rfl (fun _ _ => rfl)
theorem At.set_mod {K : MK} {S : St} {W : World} (h : At K S W) (k : KOk K) (x : Int) : At K { S with mod := x } (W.setCell ⟨K.b, 10, none⟩ (.int .i64 x)) := h.setBox k 10 _ rfl rfl rfl rfl rfl rfl (fun _ _ => rfl)
theorem At.set_proc {K : MK} {S : St} {W : World} (h : At K S W) (k : KOk K) (x : Int) : At K { S with proc := x } (W.setCell ⟨K.b, 11, none⟩ (.int .i64 x)) := h.setBox k 11 _ rfl rfl rfl rfl rfl rfl (fun _ _ => rfl)
theorem At.set_at_ {K : MK} {S : St} {W : World} (h : At K S W) (k : KOk K) (x : Int) : At K { S with at_ := x } (W.setCell ⟨K.b, 12, none⟩ (.int .i64 x)) := h.setBox k 12 _ rfl rfl rfl rfl rfl rfl (fun _ _ => rfl)
theorem At.set_fp {K : MK} {S : St} {W : World} (h : At K S W) (k : KOk K) (x : Int) : At K { S with fp := x } (W.setCell ⟨K.b, 13, none⟩ (.int .i64 x)) := h.setBox k 13 _ rfl rfl rfl rfl rfl rfl (fun _ _ => rfl)
theorem At.set_sp {K : MK} {S : St} {W : World} (h : At K S W) (k : KOk K) (x : Int) : At K { S with sp := x } (W.setCell ⟨K.b, 14, none⟩ (.int .i64 x)) := h.setBox k 14 _ rfl rfl rfl rfl rfl rfl (fun _ _ => rfl)
theorem At.set_next {K : MK} {S : St} {W : World} (h : At K S W) (k : KOk K) (x : Int) : At K { S with next := x } (W.setCell ⟨K.b, 15, none⟩ (.int .i64 x)) := h.setBox k 15 _ rfl rfl rfl rfl rfl rfl (fun _ _ => rfl)
theorem At.set_depth {K : MK} {S : St} {W : World} (h : At K S W) (k : KOk K) (x : Int) : At K { S with depth := x } (W.setCell ⟨K.b, 17, none⟩ (.int .i64 x)) := h.setBox k 17 _ rfl rfl rfl rfl rfl rfl (fun _ _ => rfl)
theorem At.set_kind {K : MK} {S : St} {W : World} (h : At K S W) (k : KOk K) (x : Nat) : At K { S with kind := x } (W.setCell ⟨K.b, 18, none⟩ (.int .u8 x)) := h.setBox k 18 _ rfl rfl rfl rfl rfl rfl (fun _ _ => rfl)
theorem At.set_trap {K : MK} {S : St} {W : World} (h : At K S W) (k : KOk K) (x : Nat) : At K { S with trap := x } (W.setCell ⟨K.b, 19, none⟩ (.int .u8 x)) := h.setBox k 19 _ rfl rfl rfl rfl rfl rfl (fun _ _ => rfl)
theorem At.set_steps {K : MK} {S : St} {W : World} (h : At K S W) (k : KOk K) (x : Int) : At K { S with steps := x } (W.setCell ⟨K.b, 20, none⟩ (.int .i64 x)) := h.setBox k 20 _ rfl rfl rfl rfl rfl rfl (fun _ _ => rfl)
theorem At.c0 {K : MK} {S : St} {W : World} (h : At K S W) : W.cell? ⟨K.b, 0, none⟩ = some (.pointer (some ⟨K.bt, 0, none⟩)) := by
 obtain ⟨A, c, h1, _⟩ := h.box
 exact (h1.cell 0).trans rfl
theorem At.c1 {K : MK} {S : St} {W : World} (h : At K S W) : W.cell? ⟨K.b, 1, none⟩ = some (.slice K.pA K.mods.length K.pc) := by
 obtain ⟨A, c, h1, _⟩ := h.box
 exact (h1.cell 1).trans rfl
theorem At.c2 {K : MK} {S : St} {W : World} (h : At K S W) : W.cell? ⟨K.b, 2, none⟩ = some (.slice K.oA K.order.length K.oc) := by
 obtain ⟨A, c, h1, _⟩ := h.box
 exact (h1.cell 2).trans rfl
theorem At.c3 {K : MK} {S : St} {W : World} (h : At K S W) : W.cell? ⟨K.b, 3, none⟩ = some (.pointer (some ⟨K.bm, 0, none⟩)) := by
 obtain ⟨A, c, h1, _⟩ := h.box
 exact (h1.cell 3).trans rfl
theorem At.c4 {K : MK} {S : St} {W : World} (h : At K S W) : W.cell? ⟨K.b, 4, none⟩ = some (.pointer (some ⟨K.bh, 0, none⟩)) := by
 obtain ⟨A, c, h1, _⟩ := h.box
 exact (h1.cell 4).trans rfl
theorem At.c5 {K : MK} {S : St} {W : World} (h : At K S W) : W.cell? ⟨K.b, 5, none⟩ = some (.slice K.dA K.data.length K.dc) := by
 obtain ⟨A, c, h1, _⟩ := h.box
 exact (h1.cell 5).trans rfl
theorem At.c6 {K : MK} {S : St} {W : World} (h : At K S W) : W.cell? ⟨K.b, 6, none⟩ = some (.slice K.fA K.first.length K.fc) := by
 obtain ⟨A, c, h1, _⟩ := h.box
 exact (h1.cell 6).trans rfl
theorem At.c7 {K : MK} {S : St} {W : World} (h : At K S W) : W.cell? ⟨K.b, 7, none⟩ = some (.int .i64 K.low) := by
 obtain ⟨A, c, h1, _⟩ := h.box
 exact (h1.cell 7).trans rfl
theorem At.c8 {K : MK} {S : St} {W : World} (h : At K S W) : W.cell? ⟨K.b, 8, none⟩ = some (.int .i64 K.high) := by
 obtain ⟨A, c, h1, _⟩ := h.box
 exact (h1.cell 8).trans rfl
theorem At.c9 {K : MK} {S : St} {W : World} (h : At K S W) : W.cell? ⟨K.b, 9, none⟩ = some (.int .i64 S.ord) := by
 obtain ⟨A, c, h1, _⟩ := h.box
 exact (h1.cell 9).trans rfl
theorem At.c10 {K : MK} {S : St} {W : World} (h : At K S W) : W.cell? ⟨K.b, 10, none⟩ = some (.int .i64 S.mod) := by
 obtain ⟨A, c, h1, _⟩ := h.box
 exact (h1.cell 10).trans rfl
theorem At.c11 {K : MK} {S : St} {W : World} (h : At K S W) : W.cell? ⟨K.b, 11, none⟩ = some (.int .i64 S.proc) := by
 obtain ⟨A, c, h1, _⟩ := h.box
 exact (h1.cell 11).trans rfl
theorem At.c12 {K : MK} {S : St} {W : World} (h : At K S W) : W.cell? ⟨K.b, 12, none⟩ = some (.int .i64 S.at_) := by
 obtain ⟨A, c, h1, _⟩ := h.box
 exact (h1.cell 12).trans rfl
theorem At.c13 {K : MK} {S : St} {W : World} (h : At K S W) : W.cell? ⟨K.b, 13, none⟩ = some (.int .i64 S.fp) := by
 obtain ⟨A, c, h1, _⟩ := h.box
 exact (h1.cell 13).trans rfl
theorem At.c14 {K : MK} {S : St} {W : World} (h : At K S W) : W.cell? ⟨K.b, 14, none⟩ = some (.int .i64 S.sp) := by
 obtain ⟨A, c, h1, _⟩ := h.box
 exact (h1.cell 14).trans rfl
theorem At.c15 {K : MK} {S : St} {W : World} (h : At K S W) : W.cell? ⟨K.b, 15, none⟩ = some (.int .i64 S.next) := by
 obtain ⟨A, c, h1, _⟩ := h.box
 exact (h1.cell 15).trans rfl
theorem At.c17 {K : MK} {S : St} {W : World} (h : At K S W) : W.cell? ⟨K.b, 17, none⟩ = some (.int .i64 S.depth) := by
 obtain ⟨A, c, h1, _⟩ := h.box
 exact (h1.cell 17).trans rfl
theorem At.c18 {K : MK} {S : St} {W : World} (h : At K S W) : W.cell? ⟨K.b, 18, none⟩ = some (.int .u8 S.kind) := by
 obtain ⟨A, c, h1, _⟩ := h.box
 exact (h1.cell 18).trans rfl
theorem At.c19 {K : MK} {S : St} {W : World} (h : At K S W) : W.cell? ⟨K.b, 19, none⟩ = some (.int .u8 S.trap) := by
 obtain ⟨A, c, h1, _⟩ := h.box
 exact (h1.cell 19).trans rfl
theorem At.c20 {K : MK} {S : St} {W : World} (h : At K S W) : W.cell? ⟨K.b, 20, none⟩ = some (.int .i64 S.steps) := by
 obtain ⟨A, c, h1, _⟩ := h.box
 exact (h1.cell 20).trans rfl
theorem At.set_args {K : MK} {S : St} {W : World} (h : At K S W) (k : KOk K) (A : Option Addr) (c : Nat) (l : List Int) (hl : Ints (mask K.bs W) A l) (hcl : l.length ≤ c) : At K { S with args := l } (W.setCell ⟨K.b, 16, none⟩ (.slice A l.length c)) := by
 have ho : Only K.bs W (W.setCell ⟨K.b, 16, none⟩ (.slice A l.length c)) := (Only.refl _ _).setCell k.hb _
 obtain ⟨A0, c0, h1, h2⟩ := h.box
 obtain ⟨re, im, hre, h3⟩ := h.term
 exact h.only ho ⟨A, c, h1.set 16 (.slice A l.length c), hl.later ho (by rw [mask_size]; exact Nat.le_refl _), hcl⟩ ⟨re, im, hre, h3.far (a := ⟨K.b, 16, none⟩) k.bt.symm _⟩ (h.mem.later (Below.heap_setCell _ _ _ _ k.bm.symm)) (h.hp.later rfl rfl (Below.heap_setCell _ _ _ _ k.bh.symm) (Below.heap_setCell _ _ _ _ k.bq.symm))
def modOf (K : MK) (S : St) : ModL := K.mods.getD S.mod.toNat default
def hereP (K : MK) (S : St) : ProcL := (modOf K S).procs.getD S.proc.toNat default
def baseN (p : ProcL) : Int := 5 + p.params + p.locals
structure ROk (K : MK) (S : St) : Prop where
 mod0 : 0 ≤ S.mod
 mod1 : S.mod < K.mods.length
 proc0 : 0 ≤ S.proc
 proc1 : S.proc < (modOf K S).procs.length
structure SOk (K : MK) (S : St) : Prop extends ROk K S where
 fp1 : K.low ≤ S.fp
 sp0 : S.fp + baseN (hereP K S) ≤ S.sp
 sp1 : S.sp ≤ S.fp + baseN (hereP K S) + (hereP K S).depth
 top : S.fp + baseN (hereP K S) + (hereP K S).depth ≤ K.high
theorem procOk {K : MK} (k : KOk K) {m : ModL} (hm : m ∈ K.mods) {p : ProcL} (hp : p ∈ m.procs) : (0 ≤ p.at_ ∧ p.at_ ≤ 65535) ∧ (0 ≤ p.params ∧ p.params ≤ 65535) ∧ (0 ≤ p.locals ∧ p.locals ≤ 65535) ∧ (0 ≤ p.depth ∧ p.depth ≤ 65535) ∧ (1 ≤ p.level ∧ p.level ≤ 16) ∧ p.at_ ≤ m.code.length := by
 have h := k.may
 unfold checkB at h
 simp only [Bool.and_eq_true] at h
 have h1 := List.all_eq_true.1 h.1.1.2 m hm
 unfold modB headB at h1
 simp only [Bool.and_eq_true, Bool.not_eq_true', decide_eq_false_iff_not] at h1
 have h2 := List.all_eq_true.1 h1.1.1.2 p hp
 have h3 := h1.1.1.1.1.1.1
 unfold mayB withinB at h2
 simp only [Bool.and_eq_true, decide_eq_true_eq] at h2
 omega
theorem getD_mem' {α : Type} (l : List α) (k : Nat) (d : α) (hk : k < l.length) : l.getD k d ∈ l := by
 simp [List.getD_eq_getElem?_getD, hk]
theorem modOf_mem {K : MK} {S : St} (s : ROk K S) : modOf K S ∈ K.mods := getD_mem' _ _ _ (by have := s.mod0; have := s.mod1; omega)
theorem hereP_mem {K : MK} {S : St} (s : ROk K S) : hereP K S ∈ (modOf K S).procs := getD_mem' _ _ _ (by have := s.proc0; have := s.proc1; omega)
theorem hereOk {K : MK} {S : St} (k : KOk K) (s : ROk K S) : (0 ≤ (hereP K S).at_ ∧ (hereP K S).at_ ≤ 65535) ∧ (0 ≤ (hereP K S).params ∧ (hereP K S).params ≤ 65535) ∧ (0 ≤ (hereP K S).locals ∧ (hereP K S).locals ≤ 65535) ∧ (0 ≤ (hereP K S).depth ∧ (hereP K S).depth ≤ 65535) ∧ (1 ≤ (hereP K S).level ∧ (hereP K S).level ≤ 16) ∧ (hereP K S).at_ ≤ (modOf K S).code.length :=
 procOk k (modOf_mem s) (hereP_mem s)
end Go.Proofs.YtabenhpjgjjgnaaGreatDoor
/- A machine's procedure that runs. -/
namespace Go.Proofs.YtabenhpjgjjgnaaGreatDoor
open Go.RowKit
set_option maxRecDepth 100000
theorem wp_region_tail {P : Program} {id : Nat} {Q : Exit → Act → World → Prop} {a : Act} {w : World} {l : List Oper} (n : Nat) (hm : P.follows .mixedOrders = true) (hB : Region.lexTailB .any l.toArray n = true)
 (h : wpStill P l.toArray w.drew (fun a' => wpList P l.toArray Q (l.drop n) a' w.drew) (l.take n) a) : (Code.region id l.toArray true).wp P Q a w := wp_region_still_tail n hm hB h
theorem here_cells {K : MK} {S : St} {W : World} (h : At K S W) (s : ROk K S) : ∃ b o pA pc b2 o2, K.pA = some ⟨b, o, none⟩ ∧ W.cell? ⟨b, o + S.mod.toNat * 5 + 1, none⟩ = some (.slice pA (modOf K S).procs.length pc) ∧ pA = some ⟨b2, o2, none⟩ ∧ ProcAt W b2 (o2 + S.proc.toNat * 6) (hereP K S) ∧ b < W.heap.size ∧ b2 < W.heap.size := by
 have hm := s.mod0
 have hm1 := s.mod1
 have hp := s.proc0
 have hp1 := s.proc1
 obtain ⟨b, o, e, hb, t, hI, _, h1, _⟩ := (h.mods.reads (mask_reads _ _)).at_ (j := S.mod.toNat) (by omega)
 obtain ⟨b2, o2, e2, hb2, hP⟩ := hI.procs.at_ (j := S.proc.toNat) (by unfold modOf at hp1; omega)
 exact ⟨b, o, t.A1, t.c1, b2, o2, e, h1, e2, hP, hb, hb2⟩
def ProcEnd (w : World) (p : ProcL) (e : Ending) (w' : World) : Prop := e = .returned (procV p) ∧ Below w.heap.size w w'
set_option maxHeartbeats 1000000 in
theorem here_any (K : MK) (S : St) (W : World) (h : At K S W) (s : ROk K S) : Calls Tryz.prog 123 #[.pointer (some ⟨K.b, 0, none⟩)] W (ProcEnd W (hereP K S)) := by
 have H := Lib.hid h
 have HS := Lib.hid s
 clear h s
 go_enter Tryz.func123, Tryz.ntmps123
 go_wp2_with fail
 refine wp_region_tail 18 (by kernel_rfl) (by kernel_rfl) ?_
 have HB := Lib.hid (show Below W.heap.size W (W.alloc (.cells #[.int .i64 0, .int .i64 0, .int .i64 0, .int .i64 0, .int .i64 0, .bool false] 113)).drew from below_drawn (alloc_below _ _) 1)
 have HX := Lib.hid (show Bx W.heap.size #[.int .i64 0, .int .i64 0, .int .i64 0, .int .i64 0, .int .i64 0, .bool false] 113 (W.alloc (.cells #[.int .i64 0, .int .i64 0, .int .i64 0, .int .i64 0, .int .i64 0, .bool false] 113)).drew from Bx.new W _ _)
 generalize (W.alloc (.cells #[.int .i64 0, .int .i64 0, .int .i64 0, .int .i64 0, .int .i64 0, .bool false] 113)).drew = wd at *
 have H1 := Lib.hid (H.out.grow HB.out)
 obtain ⟨b, o, pA, pc, b2, o2, hA, c1, hA2, ⟨p0, p1, p2, p3, p4, p5⟩, hb, hb2⟩ := here_cells H1.out HS.out
 have m1 := H1.out.c1
 have m10 := H1.out.c10
 have m11 := H1.out.c11
 have i0 := HS.out.mod0
 have i1 := HS.out.mod1
 have i2 := HS.out.proc0
 have i3 := HS.out.proc1
 rw [hA] at m1
 rw [hA2] at c1
 clear hA hA2
 generalize hereP K S = p at *
 generalize (modOf K S).procs.length = np at *
 simp only [List.take_succ_cons, List.take_zero, List.drop_succ_cons, List.drop_zero]
 repeat still_step
 refine wpStill_nil ?_
 have x0 : wd.cell? ⟨W.heap.size, 0, none⟩ = some (.int .i64 0) := (HX.out.cell 0).trans rfl
 have x1 : wd.cell? ⟨W.heap.size, 1, none⟩ = some (.int .i64 0) := (HX.out.cell 1).trans rfl
 have x2 : wd.cell? ⟨W.heap.size, 2, none⟩ = some (.int .i64 0) := (HX.out.cell 2).trans rfl
 have x3 : wd.cell? ⟨W.heap.size, 3, none⟩ = some (.int .i64 0) := (HX.out.cell 3).trans rfl
 have x4 : wd.cell? ⟨W.heap.size, 4, none⟩ = some (.int .i64 0) := (HX.out.cell 4).trans rfl
 have x5 : wd.cell? ⟨W.heap.size, 5, none⟩ = some (.bool false) := (HX.out.cell 5).trans rfl
 have fz := HX.out.frozen
 go_wp2_with fail
 have HX6 := Lib.hid (((((((((((((HX.out.set 0 (.int .i64 p.at_)).to (ds := #[.int .i64 p.at_, .int .i64 0, .int .i64 0, .int .i64 0, .int .i64 0, .bool false]) rfl).set 1 (.int .i64 p.params)).to (ds := #[.int .i64 p.at_, .int .i64 p.params, .int .i64 0, .int .i64 0, .int .i64 0, .bool false]) rfl).set 2 (.int .i64 p.locals)).to (ds := #[.int .i64 p.at_, .int .i64 p.params, .int .i64 p.locals, .int .i64 0, .int .i64 0, .bool false]) rfl).set 3 (.int .i64 p.depth)).to (ds := #[.int .i64 p.at_, .int .i64 p.params, .int .i64 p.locals, .int .i64 p.depth, .int .i64 0, .bool false]) rfl).set 4 (.int .i64 p.level)).to (ds := #[.int .i64 p.at_, .int .i64 p.params, .int .i64 p.locals, .int .i64 p.depth, .int .i64 p.level, .bool false]) rfl).set 5 (.bool p.fn)).to (ds := #[.int .i64 p.at_, .int .i64 p.params, .int .i64 p.locals, .int .i64 p.depth, .int .i64 p.level, .bool p.fn]) rfl))
 have HB6 := Lib.hid ((((((HB.out.setCell (p := ⟨W.heap.size, 0, none⟩) (Nat.le_refl _) (.int .i64 p.at_)).setCell (p := ⟨W.heap.size, 1, none⟩) (Nat.le_refl _) (.int .i64 p.params)).setCell (p := ⟨W.heap.size, 2, none⟩) (Nat.le_refl _) (.int .i64 p.locals)).setCell (p := ⟨W.heap.size, 3, none⟩) (Nat.le_refl _) (.int .i64 p.depth)).setCell (p := ⟨W.heap.size, 4, none⟩) (Nat.le_refl _) (.int .i64 p.level)).setCell (p := ⟨W.heap.size, 5, none⟩) (Nat.le_refl _) (.bool p.fn))
 clear x0 x1 x2 x3 x4 x5 fz p0 p1 p2 p3 p4 p5 c1 m1 m10 m11 HX
 generalize World.setCell _ _ _ = w6 at *
 have x0 : w6.cell? ⟨W.heap.size, 0, none⟩ = some (.int .i64 p.at_) := (HX6.out.cell 0).trans rfl
 have x1 : w6.cell? ⟨W.heap.size, 1, none⟩ = some (.int .i64 p.params) := (HX6.out.cell 1).trans rfl
 have x2 : w6.cell? ⟨W.heap.size, 2, none⟩ = some (.int .i64 p.locals) := (HX6.out.cell 2).trans rfl
 have x3 : w6.cell? ⟨W.heap.size, 3, none⟩ = some (.int .i64 p.depth) := (HX6.out.cell 3).trans rfl
 have x4 : w6.cell? ⟨W.heap.size, 4, none⟩ = some (.int .i64 p.level) := (HX6.out.cell 4).trans rfl
 have x5 : w6.cell? ⟨W.heap.size, 5, none⟩ = some (.bool p.fn) := (HX6.out.cell 5).trans rfl
 refine bodyPost_ret (v := procV p) ?_ rfl ⟨rfl, HB6.out⟩
 unfold procV
 simp [results, Tryz.results123, go_sem, x0, x1, x2, x3, x4, x5]
theorem base_any (p : ProcL) (h1 : 0 ≤ p.params) (h2 : p.params ≤ 65535) (h3 : 0 ≤ p.locals) (h4 : p.locals ≤ 65535) (W : World) : Calls Tryz.prog 56 #[procV p] W (fun e w' => e = .returned (.int .i64 (baseN p)) ∧ Below W.heap.size W w') := by
 unfold procV baseN
 go_enter Tryz.func56, Tryz.ntmps56
 go_wp2_with fail
 go_ret
 exact ⟨rfl, alloc_below _ _⟩
theorem here_eq {K : MK} {S : St} {W : World} (h : At K S W) (s : ROk K S) {pa pp pl pd pv : Int} {pf : Bool} (hp : hereP K S = ⟨pa, pp, pl, pd, pv, pf⟩) :
 Calls Tryz.prog 123 #[.pointer (some ⟨K.b, 0, none⟩)] W fun e w' => e = .returned (.agg #[.int .i64 pa, .int .i64 pp, .int .i64 pl, .int .i64 pd, .int .i64 pv, .bool pf]) ∧ Below W.heap.size W w' := by
 have := here_any K S W h s
 rw [hp] at this
 exact this
theorem base_eq {pa pp pl pd pv n : Int} {pf : Bool} {W : World} (h1 : 0 ≤ pp) (h2 : pp ≤ 65535) (h3 : 0 ≤ pl) (h4 : pl ≤ 65535) (hn : 5 + pp + pl = n) :
 Calls Tryz.prog 56 #[.agg #[.int .i64 pa, .int .i64 pp, .int .i64 pl, .int .i64 pd, .int .i64 pv, .bool pf]] W fun e w' => e = .returned (.int .i64 n) ∧ Below W.heap.size W w' := by
 rw [← hn]; exact base_any ⟨pa, pp, pl, pd, pv, pf⟩ h1 h2 h3 h4 W
end Go.Proofs.YtabenhpjgjjgnaaGreatDoor
/- A machine pushes and pops words. -/
namespace Go.Proofs.YtabenhpjgjjgnaaGreatDoor
open Go.RowKit
set_option maxRecDepth 100000
theorem field_depth (pa pp pl pd pv : Int) (pf : Bool) (w : World) : (Instr.field 113 (.agg #[.int .i64 pa, .int .i64 pp, .int .i64 pl, .int .i64 pd, .int .i64 pv, .bool pf]) 3).run Tryz.prog w = .ok (.int .i64 pd) w := by kernel_rfl
def OpEnd (K : MK) (W : World) (r : St × Nat) (e : Ending) (W' : World) : Prop := e = .returned (.int .u8 (r.2 : Nat)) ∧ At K r.1 W' ∧ Only K.bs W W'
def topN (K : MK) (S : St) : Int := S.fp + baseN (hereP K S) + (hereP K S).depth
def floorN (K : MK) (S : St) : Int := S.fp + baseN (hereP K S)
def pushM (K : MK) (x : Nat) (S : St) : St × Nat :=
 if topN K S ≤ S.sp then (S, 14) else ({ S with ws := storeM K.n S.ws S.sp x, sp := S.sp + 1 }, 0)
set_option maxHeartbeats 1000000 in
theorem push_any (K : MK) (k : KOk K) (S : St) (s : SOk K S) (x : Nat) (hx : x < 65536) (W : World) (h : At K S W) : Calls Tryz.prog 131 #[.pointer (some ⟨K.b, 0, none⟩), .int .u16 x] W (OpEnd K W (pushM K x S)) := by
 have H := Lib.hid h
 have HK := Lib.hid k
 have HS := Lib.hid s
 obtain ⟨⟨_, _⟩, ⟨q2, q3⟩, ⟨q4, q5⟩, ⟨q6, q7⟩, _, _⟩ := hereOk k s.toROk
 have l1 := k.low1
 have l2 := k.lowh
 have l3 := k.high
 have l4 := k.n_le
 have l5 := s.fp1
 have l6 := s.sp0
 have l7 := s.sp1
 have l8 := s.top
 have htop : topN K S = S.fp + baseN (hereP K S) + (hereP K S).depth := rfl
 generalize hp : hereP K S = p at *
 obtain ⟨pa, pp, pl, pd, pv, pf⟩ := p
 unfold baseN at l6 l7 l8 htop
 simp only at l6 l7 l8 q2 q3 q4 q5 q6 q7 htop
 have HP := Lib.hid hp
 have HTop := Lib.hid htop
 clear h k s hp htop
 have m13 := H.out.c13
 have m14 := H.out.c14
 have hlt := H.out.lt
 have HG := Lib.hid (fun x => H.out.grow (growN_below W x))
 have e1 : IntKind.i64.wrap (S.fp + (5 + pp + pl)) = S.fp + (5 + pp + pl) := IntWalk.i64_in _ (by omega)
 have e2 : IntKind.i64.wrap (S.fp + (5 + pp + pl) + pd) = S.fp + (5 + pp + pl) + pd := IntWalk.i64_in _ (by omega)
 have hfd := field_depth pa pp pl pd pv pf
 by_cases ht : S.fp + (5 + pp + pl) + pd ≤ S.sp
 ·have HR := Lib.hid (show pushM K x S = (S, 14) by unfold pushM; rw [HTop.out, if_pos ht])
  go_enter Tryz.func131, Tryz.ntmps131
  go_wp2_with fail
  refine wp_region_grow (by kernel_rfl) (by kernel_rfl) ?_
  repeat (first | go_big_quiet_step (first
   | (go_at_call 123; refine quiet_grow (here_eq (HG.out _) HS.out.toROk HP.out))
   | (go_at_call 56; refine quiet_grow (base_eq (by omega) (by omega) (by omega) (by omega) rfl))))
  refine wpQuiet_nil ?_
  rintro _ ⟨gx, rfl⟩
  go_wp2_with fail
  go_ret
  rw [HR.out]
  exact ⟨rfl, HG.out gx, Only.of_below (growN_below W gx)⟩
 ·have hnt : S.sp < S.fp + (5 + pp + pl) + pd := by omega
  have HR := Lib.hid (show pushM K x S = ({ S with ws := storeM K.n S.ws S.sp x, sp := S.sp + 1 }, 0) by unfold pushM; rw [HTop.out, if_neg ht])
  clear ht
  go_enter Tryz.func131, Tryz.ntmps131
  go_wp2_with fail
  refine wp_region_grow (by kernel_rfl) (by kernel_rfl) ?_
  repeat (first | go_big_quiet_step (first
   | (go_at_call 123; refine quiet_grow (here_eq (HG.out _) HS.out.toROk HP.out))
   | (go_at_call 56; refine quiet_grow (base_eq (by omega) (by omega) (by omega) (by omega) rfl))))
  refine wpQuiet_nil ?_
  rintro _ ⟨gx, rfl⟩
  have H1 := Lib.hid (HG.out gx)
  have HO1 := Lib.hid (Only.of_below (bs := K.bs) (growN_below W gx))
  clear HG m13 m14 hlt
  generalize growN W gx = w1 at *
  go_wp2_with fail
  have H2 := Lib.hid (H1.out.grow (drew_below w1))
  have HO2 := Lib.hid (HO1.out.trans (Only.of_below (drew_below w1)))
  clear H1 HO1
  refine wp_region_tail 9 (by kernel_rfl) (by kernel_rfl) ?_
  generalize w1.drew = w2 at *
  have m3 := H2.out.c3
  have m14 := H2.out.c14
  simp only [List.take_succ_cons, List.take_zero, List.drop_succ_cons, List.drop_zero]
  repeat still_step
  refine wpStill_nil ?_
  go_wp2_with fail
  refine (store_any K.bs K.bm K.n HK.out.hm S.ws S.sp x hx w2 H2.out.mem).mono ?_
  rintro e w3 ⟨rfl, hm3, ho3, hf3⟩
  have H3 := Lib.hid (H2.out.setMem HK.out hm3 ho3 hf3)
  have HO3 := Lib.hid (HO2.out.trans ho3)
  clear hm3 ho3 hf3 H2 HO2 m3 m14
  have m14 := H3.out.c14
  have f14 := H3.out.fz 14
  go_wp2_with fail
  go_ret
  rw [HR.out]
  exact ⟨rfl, H3.out.set_sp HK.out (S.sp + 1), HO3.out.setCell HK.out.hb _⟩
theorem row_eq (b n : Nat) (ws : Nat → Nat) (at_ : Int) (k : Nat) (h1 : 1 ≤ at_) (h2 : at_ + k ≤ n + 1) (W : World) (hM : MemAt b n ws W) : Calls Tryz.prog 211 #[.pointer (some ⟨b, 0, none⟩), .int .i64 at_, .int .i64 k] W fun e w' =>
 ∃ A c, e = .returned (.tuple #[.slice A k c, .bool true]) ∧ (∀ bs : List Nat, (∀ b ∈ bs, b < W.heap.size) → Words (mask bs w') A (rowM ws at_ k)) ∧ Below W.heap.size W w' := by
 have := row_any b n ws at_ k h1 h2 W hM
 unfold RowEnd at this
 rw [rowM_length] at this
 exact this
theorem make_words (w : World) (n : Nat) (hn : n ≤ 65535) : ∃ w', (Instr.makeSlice 40 (.int .i64 (n : Int)) (.int .i64 (n : Int))).run Tryz.prog w = .ok (.slice (some ⟨w.heap.size, 0, none⟩) n n) w' ∧ Below w.heap.size w w' ∧
 ∀ bs : List Nat, (∀ b ∈ bs, b < w.heap.size) → Words (mask bs w') (some ⟨w.heap.size, 0, none⟩) (List.replicate n 0) := by
 obtain ⟨i, z, hi, hz, hi1, hi2, _⟩ := etU16.info
 have hz0 : z = .int .u16 0 := by
  have h := u16_info
  rw [hi] at h
  simp only [Option.map_some, Option.some.injEq, Prod.mk.injEq, hz] at h
  exact h.1
 obtain ⟨w2, hr, hown, hgr⟩ := run_makeSlice_full (P := Tryz.prog) w w.heap.size 40 50 i z 1 etU16.und hi hz hi1 .i64 .i64 n (by omega) (by rw [hi2]; omega) (by unfold maxLen; omega) (Nat.le_refl _)
 have e : (madeCells z.cells (n * 1)).toList = wordVals (List.replicate n 0) := by
  subst hz0
  apply List.ext_getElem
  ·simp [madeCells, wordVals]
  ·intro j h1 h2
   simp [madeCells, wordVals, Value.cells, Nat.mod_one]
 rw [e] at hown
 refine ⟨w2, hr, (Below.refl _ _).grown hgr (Nat.le_refl _) (fun k hk => by cases hk), fun bs hbs => ?_⟩
 exact words_own_mask (c := n) (l := List.replicate n 0) (B := w.heap.size) (by rw [List.length_replicate]; exact hown) (by intro x hx; rw [List.eq_of_mem_replicate hx]; omega) bs hbs
def PopsEnd (K : MK) (W : World) (r : St × List Nat × Nat) (e : Ending) (W' : World) : Prop := ∃ A c, e = .returned (.tuple #[.slice A r.2.1.length c, .int .u8 (r.2.2 : Nat)]) ∧ Words (mask K.bs W') A r.2.1 ∧ At K r.1 W' ∧ Only K.bs W W'
def popsM (K : MK) (n : Nat) (S : St) : St × List Nat × Nat :=
 if S.sp - n < floorN K S then (S, List.replicate n 0, 14) else ({ S with sp := S.sp - n }, rowM S.ws (S.sp - n) n, 0)
theorem popsM_len (K : MK) (n : Nat) (S : St) : (popsM K n S).2.1.length = n := by unfold popsM; split <;> simp [rowM_length]
set_option maxHeartbeats 1000000 in
theorem pops_any (K : MK) (k : KOk K) (S : St) (s : SOk K S) (n : Nat) (hn : n ≤ 65535) (W : World) (h : At K S W) : Calls Tryz.prog 129 #[.pointer (some ⟨K.b, 0, none⟩), .int .i64 n] W (PopsEnd K W (popsM K n S)) := by
 have H := Lib.hid h
 have HK := Lib.hid k
 have HS := Lib.hid s
 obtain ⟨⟨_, _⟩, ⟨q2, q3⟩, ⟨q4, q5⟩, ⟨q6, q7⟩, _, _⟩ := hereOk k s.toROk
 have l1 := k.low1
 have l2 := k.lowh
 have l3 := k.high
 have l4 := k.n_le
 have l5 := s.fp1
 have l6 := s.sp0
 have l7 := s.sp1
 have l8 := s.top
 have htop : floorN K S = S.fp + baseN (hereP K S) := rfl
 generalize hp : hereP K S = p at *
 obtain ⟨pa, pp, pl, pd, pv, pf⟩ := p
 unfold baseN at l6 l7 l8 htop
 simp only at l6 l7 l8 q2 q3 q4 q5 q6 q7 htop
 have HP := Lib.hid hp
 have HTop := Lib.hid htop
 clear h k s hp htop
 have m13 := H.out.c13
 have m14 := H.out.c14
 have hlt := H.out.lt
 have HG := Lib.hid (fun x => H.out.grow (growN_below W x))
 have e1 : IntKind.i64.wrap (S.fp + (5 + pp + pl)) = S.fp + (5 + pp + pl) := IntWalk.i64_in _ (by omega)
 have e2 : IntKind.i64.wrap (S.sp - n) = S.sp - n := IntWalk.i64_in _ (by omega)
 by_cases ht : S.sp - n < S.fp + (5 + pp + pl)
 ·have HR := Lib.hid (show popsM K n S = (S, List.replicate n 0, 14) by unfold popsM; rw [HTop.out, if_pos ht])
  go_enter Tryz.func129, Tryz.ntmps129
  go_wp2_with fail
  refine wp_region_grow (by kernel_rfl) (by kernel_rfl) ?_
  repeat (first | go_big_quiet_step (first
   | (go_at_call 123; refine quiet_grow (here_eq (HG.out _) HS.out.toROk HP.out))
   | (go_at_call 56; refine quiet_grow (base_eq (by omega) (by omega) (by omega) (by omega) rfl))))
  refine wpQuiet_nil ?_
  rintro _ ⟨gx, rfl⟩
  have H1 := Lib.hid (HG.out gx)
  have HO1 := Lib.hid (Only.of_below (bs := K.bs) (growN_below W gx))
  clear HG m13 m14 hlt
  generalize growN W gx = w1 at *
  obtain ⟨w2, hr, hb2, hW⟩ := make_words w1 n hn
  have HB2 := Lib.hid hb2
  have HMW := Lib.hid (hW K.bs H1.out.old)
  clear hb2 hW
  go_wp2_with fail
  refine bodyPost_ret (v := .tuple #[.slice (some ⟨w1.heap.size, 0, none⟩) n n, .int .u8 14]) (by simp [results, Tryz.results129, go_sem]) rfl ?_
  rw [HR.out]
  exact ⟨_, n, by rw [List.length_replicate]; rfl, HMW.out, H1.out.grow HB2.out, HO1.out.trans (Only.of_below HB2.out)⟩
 ·have hnt : S.fp + (5 + pp + pl) ≤ S.sp - n := by omega
  have HR := Lib.hid (show popsM K n S = ({ S with sp := S.sp - n }, rowM S.ws (S.sp - n) n, 0) by unfold popsM; rw [HTop.out, if_neg ht])
  clear ht
  go_enter Tryz.func129, Tryz.ntmps129
  go_wp2_with fail
  refine wp_region_grow (by kernel_rfl) (by kernel_rfl) ?_
  repeat (first | go_big_quiet_step (first
   | (go_at_call 123; refine quiet_grow (here_eq (HG.out _) HS.out.toROk HP.out))
   | (go_at_call 56; refine quiet_grow (base_eq (by omega) (by omega) (by omega) (by omega) rfl))))
  refine wpQuiet_nil ?_
  rintro _ ⟨gx, rfl⟩
  have H1 := Lib.hid (HG.out gx)
  have HO1 := Lib.hid (Only.of_below (bs := K.bs) (growN_below W gx))
  clear HG m13 m14 hlt
  generalize growN W gx = w1 at *
  have m14 := H1.out.c14
  have f14 := H1.out.fz 14
  have H2 := Lib.hid (H1.out.set_sp HK.out (S.sp - n))
  have HO2 := Lib.hid (HO1.out.setCell (a := ⟨K.b, 14, none⟩) HK.out.hb (.int .i64 (S.sp - n)))
  go_wp2_with fail
  clear H1 HO1 m14 f14
  generalize w1.setCell ⟨K.b, 14, none⟩ (.int .i64 (S.sp - n)) = w2 at *
  have H3 := Lib.hid (H2.out.grow (drew_below w2))
  have HO3 := Lib.hid (HO2.out.trans (Only.of_below (drew_below w2)))
  clear H2 HO2
  have h3 := H3.out
  go_region_held3 (fun W => W.cell? ⟨K.b, 3, none⟩ = some (.pointer (some ⟨K.bm, 0, none⟩)) ∧ W.cell? ⟨K.b, 14, none⟩ = some (.int .i64 (S.sp - n))) (exact ⟨At.c3 (S := { S with sp := S.sp - n }) (by assumption), At.c14 (S := { S with sp := S.sp - n }) (by assumption)⟩) (first
   | (go_at_call 211
      refine (row_eq K.bm K.n S.ws (S.sp - n) n (by omega) (by omega) _ (At.mem (S := { S with sp := S.sp - n }) (by assumption))).mono ?_
      rintro e w4 ⟨A4, c4, rfl, hW4, hb4⟩
      have h4 := At.grow (K := K) (S := { S with sp := S.sp - n }) (by assumption) hb4))
  all_goals (go_wp2_with fail)
  all_goals (
   refine bodyPost_ret (v := .tuple #[.slice A4 n c4, .int .u8 0]) (by simp [results, Tryz.results129, go_sem]) rfl ?_
   rw [HR.out]
   exact ⟨A4, c4, by rw [rowM_length]; rfl, hW4 K.bs H3.out.old, h4, HO3.out.trans (Only.of_below hb4)⟩)
end Go.Proofs.YtabenhpjgjjgnaaGreatDoor
