/- A machine writes bytes. A machine writes numbers. What a machine's writing of a number does, as a closure. What a machine's jump does that keeps its word, as a closure. What a machine's jump on a word does, as a closure. What turns a machine's words, as a closure. Condition: what lies in memory can lie there; what each theorem says. -/
import Derived.Test.YtabenhpjgjjgnaaGreatDoorBag
import Derived.Test.YtabenhpjgjjgnaaGreatDoorBab
import Derived.WalkLawsBesides
import Derived.Laws.Concat
import Derived.Lib.SmallJoins
import Derived.LoopN
import Derived.Lib.ItoaLen
/- A machine writes bytes. -/
namespace Go.Proofs.YtabenhpjgjjgnaaGreatDoor
open Go.RowKit
set_option maxRecDepth 100000
@[go_sem] theorem run_store_complex {P : Program} (w : World) (a : Addr) (m : Mode) (k : FloatKind) (re im : Nat) : (store a (.complex k re im) m).run P w = stored P w a (.complex k re im) m := run_store P w a _ m rfl
def writeM (K : MK) (s : List UInt8) (S : St) : St × Bool := if K.most - S.out.length < s.length then (S, false) else ({ S with out := S.out ++ s }, true)
def WriteEnd (K : MK) (W : World) (r : St × Bool) (e : Ending) (W' : World) : Prop := e = .returned (.bool r.2) ∧ At K r.1 W' ∧ Only K.bs W W'
theorem At.setTerm {K : MK} {S : St} {W W' : World} {inp out : List UInt8} {re im : Nat} (h : At K S W) (k : KOk K) (hr : re ≤ fTop ∧ im ≤ fTop) (ht : Bx K.bt (tcells K { S with inp := inp, out := out } re im) 118 W') (ho : Only K.bs W W') (hf : ∀ j, j < W.heap.size → j ≠ K.bt → W'.heap[j]? = W.heap[j]?) : At K { S with inp := inp, out := out } W' := by
 obtain ⟨A, c, h1, h2⟩ := h.box
 exact h.only ho ⟨A, c, (hf _ h1.lt k.bt).trans h1, ⟨h2.1.later ho (by rw [mask_size]; exact Nat.le_refl _), h2.2⟩⟩ ⟨re, im, hr, ht⟩ (h.mem.later (hf _ h.mem.lt k.tm.symm)) (h.hp.later rfl rfl (hf _ h.hp.box.lt k.th.symm) (hf _ h.hp.map.lt k.tq.symm))
set_option maxHeartbeats 1000000 in
theorem write_any (K : MK) (k : KOk K) (S : St) (s : List UInt8) (hs : s.length ≤ 1000000) (hm0 : 0 ≤ K.most) (hm1 : K.most ≤ 1000000) (ho : S.out.length ≤ 1000000) (W : World) (h : At K S W) : Calls Tryz.prog 166 #[.pointer (some ⟨K.bt, 0, none⟩), .string ⟨s.toArray⟩] W (WriteEnd K W (writeM K s S)) := by
 obtain ⟨re, im, ⟨hr1, hr2⟩, hT⟩ := h.term
 obtain ⟨re2, im2, hr3, hadd⟩ := csum_pos re im 0 (floatOfInt .f64 (s.length : Int)) hr1 hr2 (Nat.zero_le _) (ofInt_pos _)
 clear hr1 hr2
 have t1 : W.cell? ⟨K.bt, 1, none⟩ = some (.string ⟨S.out.toArray⟩) := (hT.cell 1).trans rfl
 have t2 : W.cell? ⟨K.bt, 2, none⟩ = some (.int .i64 K.most) := (hT.cell 2).trans rfl
 have t3 : W.cell? ⟨K.bt, 3, none⟩ = some (.complex .f64 re im) := (hT.cell 3).trans rfl
 have t4 : W.cell? ⟨K.bt, 4, none⟩ = some (.bool true) := (hT.cell 4).trans rfl
 have tf := hT.frozen
 have tl := hT.lt
 have H := Lib.hid h
 have HT := Lib.hid hT
 have HK := Lib.hid k
 have hsI : (s.length : Int) ≤ 1000000 := by omega
 have hoI : (S.out.length : Int) ≤ 1000000 := by omega
 clear h hT k
 by_cases hb : K.most - S.out.length < s.length
 ·have HR := Lib.hid (show writeM K s S = (S, false) by unfold writeM; rw [if_pos hb])
  go_enter Tryz.func166, Tryz.ntmps166
  go_wp2_with fail
  refine wp_region_grow (by kernel_rfl) (by kernel_rfl) ?_
  repeat (first | go_big_quiet_step (fail))
  refine wpQuiet_nil ?_
  rintro _ ⟨gx, rfl⟩
  go_wp2_with fail
  go_ret
  rw [HR.out]
  exact ⟨rfl, H.out.grow (growN_below W gx), Only.of_below (growN_below W gx)⟩
 ·have hnb : (s.length : Int) ≤ K.most - S.out.length := by omega
  have d := decide_eq_false hb
  have HR := Lib.hid (show writeM K s S = ({ S with out := S.out ++ s }, true) by unfold writeM; rw [if_neg hb])
  clear hb
  go_enter Tryz.func166, Tryz.ntmps166
  go_wp2_with fail
  refine wp_region_grow (by kernel_rfl) (by kernel_rfl) ?_
  repeat (first | go_big_quiet_step (fail))
  refine wpQuiet_nil ?_
  rintro _ ⟨gx, rfl⟩
  have H1 := Lib.hid (H.out.grow (growN_below W gx))
  have HT1 := Lib.hid (HT.out.grow (growN_below W gx))
  have HO1 := Lib.hid (Only.of_below (bs := K.bs) (growN_below W gx))
  clear t1 t2 t3 t4 tf tl H HT
  generalize growN W gx = w1 at *
  have t1 : w1.cell? ⟨K.bt, 1, none⟩ = some (.string ⟨S.out.toArray⟩) := (HT1.out.cell 1).trans rfl
  have t3 : w1.cell? ⟨K.bt, 3, none⟩ = some (.complex .f64 re im) := (HT1.out.cell 3).trans rfl
  have tf := HT1.out.frozen
  have tl := HT1.out.lt
  have hadd1 := fun w t => hadd Tryz.prog w t
  clear hadd
  have HX := Lib.hid (((HT1.out.set 1 (.string ⟨(S.out ++ s).toArray⟩)).to (ds := #[.string ⟨S.inp.toArray⟩, .string ⟨(S.out ++ s).toArray⟩, .int .i64 K.most, .complex .f64 re im, .bool true]) rfl).set 3 (.complex .f64 re2 im2))
  have HF := Lib.hid (fun j (_ : j < w1.heap.size) (hne : j ≠ K.bt) => (Below.heap_setCell (w1.setCell ⟨K.bt, 1, none⟩ (.string ⟨(S.out ++ s).toArray⟩)) ⟨K.bt, 3, none⟩ (.complex .f64 re2 im2) j hne).trans (Below.heap_setCell w1 ⟨K.bt, 1, none⟩ (.string ⟨(S.out ++ s).toArray⟩) j hne))
  have HO := Lib.hid (((Only.refl K.bs w1).setCell (a := ⟨K.bt, 1, none⟩) HK.out.ht (.string ⟨(S.out ++ s).toArray⟩)).setCell (a := ⟨K.bt, 3, none⟩) HK.out.ht (.complex .f64 re2 im2))
  go_wp2_with fail
  go_ret
  rw [HR.out]
  exact ⟨rfl, H1.out.setTerm (inp := S.inp) (out := S.out ++ s) HK.out hr3 HX.out HO.out HF.out, HO1.out.trans HO.out⟩
end Go.Proofs.YtabenhpjgjjgnaaGreatDoor
/- A machine writes numbers. -/
namespace Go.Proofs.YtabenhpjgjjgnaaGreatDoor
open Go.RowKit
set_option maxRecDepth 100000
def TabP (W : World) : Prop := Lib.TabIs Tryz.prog W "internal/strconv.uint64pow10" .u64 Lib.pow10Tab
def writesM (K : MK) (s : List UInt8) (S : St) : St × Nat := ((writeM K s S).1, if (writeM K s S).2 then 0 else 11)
theorem writes_any (K : MK) (k : KOk K) (S : St) (s : List UInt8) (hs : s.length ≤ 1000000) (hm0 : 0 ≤ K.most) (hm1 : K.most ≤ 1000000) (ho : S.out.length ≤ 1000000) (W : World) (h : At K S W) : Calls Tryz.prog 100 #[.pointer (some ⟨K.b, 0, none⟩), .string ⟨s.toArray⟩] W (OpEnd K W (writesM K s S)) := by
 have c0 := h.c0
 have HR := Lib.hid (show writesM K s S = ((writeM K s S).1, if (writeM K s S).2 then 0 else 11) from rfl)
 have hc := (write_any K k S s hs hm0 hm1 ho W h)
 have HC := Lib.hid hc
 clear hc h k hs hm0 hm1 ho
 generalize writeM K s S = r at *
 obtain ⟨S2, b⟩ := r
 cases b
 all_goals
  go_enter Tryz.func100, Tryz.ntmps100
  go_wp2_with fail
  refine (HC.out).mono ?_
  rintro e w1 ⟨rfl, h1, ho1⟩
  go_wp2_with fail
  go_ret
  rw [HR.out]
  exact ⟨rfl, h1, ho1⟩
def textL (sgd : Bool) (x : Nat) : List UInt8 := Lib.itoa (if sgd then sg x else (x : Int))
theorem text_any (sgd : Bool) (x : Nat) (hx : x < 65536) (W : World) (ht : TabP W) : Calls Tryz.prog 165 #[.bool sgd, .int .u16 x] W (fun e w' => e = .returned (.string ⟨(textL sgd x).toArray⟩) ∧ Below W.heap.size W w') := by
 have hsg := sg_le x hx
 unfold textL
 cases sgd
 ·go_enter Tryz.func165, Tryz.ntmps165
  go_wp2_with fail
  refine (Tryz.strconv_Itoa (x : Int) (by omega) (by omega) W ht).mono ?_
  rintro e w1 ⟨rfl, kk, os, rfl⟩
  go_wp2_with fail
  go_ret
  exact ⟨rfl, show Below W.heap.size W (growN W ⟨os, (W.drewN kk).drawn⟩) from growN_below _ _⟩
 ·go_enter Tryz.func165, Tryz.ntmps165
  go_wp2_with fail
  refine (int_any x hx W).mono ?_
  rintro e w1 ⟨rfl, rfl⟩
  go_wp2_with fail
  refine (Tryz.strconv_Itoa (sg x) (by omega) (by omega) W ht).mono ?_
  rintro e w1 ⟨rfl, kk, os, rfl⟩
  go_wp2_with fail
  go_ret
  exact ⟨rfl, show Below W.heap.size W (growN W ⟨os, (W.drewN kk).drawn⟩) from growN_below _ _⟩
theorem texts_first (q t : Nat) (W : World) (hq : W.cell? ⟨q, 0, none⟩ = some (.int .u8 t)) : Calls Tryz.prog 163 #[.pointer (some ⟨q, 0, none⟩)] W (fun e w' => e = .returned (.int .u8 t) ∧ W = w') := by
 go_enter Tryz.func163, Tryz.ntmps163
 go_wp2_with fail
 go_ret
 exact ⟨rfl, rfl⟩
theorem texts_traps (g q t : Nat) (cap1 : Array Value) (W : World) (hg0 : W.cell? ⟨g, 0, none⟩ = some (.func (.func 163) #[] #[.pointer (some ⟨q, 0, none⟩)])) (hg1 : W.cell? ⟨g, 1, none⟩ = some (.func (.func 164) #[] cap1)) (hq : W.cell? ⟨q, 0, none⟩ = some (.int .u8 t))
 (R : Ending → World → Prop) (h0 : t ≠ 0 → R (.returned (.int .u8 t)) W) (h1 : t = 0 → Calls Tryz.prog 164 cap1 W (fun e w' => ∃ u : Nat, e = .returned (.int .u8 u) ∧ R (.returned (.int .u8 u)) w')) : Calls Tryz.prog 136 #[.slice (some ⟨g, 0, none⟩) 2 2] W R := by
 have hF := texts_first q t W hq
 have HF := Lib.hid hF
 have H0 := Lib.hid h0
 have H1 := Lib.hid h1
 clear hF h0 h1
 by_cases ht : t = 0
 ·subst ht
  have HC := Lib.hid (H1.out rfl)
  go_enter Tryz.func136, Tryz.ntmps136
  go_wp2_with fail
  refine wp_loop_rounds 3 ?_
  rw [rounds_succ]
  go_wp2_with fail
  refine (HF.out).mono ?_
  rintro e w' ⟨rfl, rfl⟩
  go_wp2_with fail
  rw [rounds_succ]
  go_wp2_with fail
  refine (HC.out).mono ?_
  rintro e w' ⟨u, rfl, hR⟩
  have HR := Lib.hid hR
  clear hR
  by_cases hu : u = 0
  ·subst hu
   go_wp2_with fail
   rw [rounds_succ]
   go_wp2_with fail
   exact HR.out
  ·have d := bne_iff_ne.2 (show (u : Int) ≠ 0 by omega)
   go_wp2_with fail
   exact HR.out
 ·have HC := Lib.hid (H0.out ht)
  have d := bne_iff_ne.2 (show (t : Int) ≠ 0 by omega)
  clear ht
  go_enter Tryz.func136, Tryz.ntmps136
  go_wp2_with fail
  refine wp_loop_rounds 3 ?_
  rw [rounds_succ]
  go_wp2_with fail
  refine (HF.out).mono ?_
  rintro e w' ⟨rfl, rfl⟩
  go_wp2_with fail
  exact HC.out
end Go.Proofs.YtabenhpjgjjgnaaGreatDoor
/- What a machine's writing of a number does, as a closure. -/
namespace Go.Proofs.YtabenhpjgjjgnaaGreatDoor
open Go.RowKit
set_option maxRecDepth 100000
attribute [local go_sem ↓] Go.wp_at_zero Go.wp_at_succ
theorem text_len (z : Bool) (x : Nat) (hx : x < 65536) : (textL z x).length ≤ 21 := by
 have := sg_le x hx
 unfold textL
 split
 ·exact Lib.itoa_length_le _ (by omega) (by omega)
 ·exact Lib.itoa_length_le _ (by omega) (by omega)
theorem mask_notin {bs : List Nat} {W : World} {b o : Nat} {v : Value} (h : (mask bs W).cell? ⟨b, o, none⟩ = some v) : b ∉ bs := fun hb => by
 have hk : b < W.heap.size := by have := lt_of_cell h; rwa [mask_size] at this
 unfold World.cell? at h
 rw [mask_in bs W hb hk] at h
 simp [dead] at h
theorem TabP.grow {W W' : World} (h : TabP W) (hb : Below W.heap.size W W') : TabP W' := by
 unfold TabP Lib.TabIs World.var? at *
 cases hg : Tryz.prog.globalNamed "internal/strconv.uint64pow10" with
 | none => rw [hg] at h; cases h
 | some g =>
   rw [hg] at h
   simp only [Option.bind_some] at h ⊢
   have hlt : g < W.heap.size := by
    rcases Nat.lt_or_ge g W.heap.size with h' | h'
    ·exact h'
    ·rw [Array.getElem?_eq_none h'] at h; cases h
   rw [hb.block g hlt]
   exact h
structure T4 (x y q b o c : Nat) (m z : Value) (x0 : Nat) (W : World) : Prop where
 cx : W.cell? ⟨x, 0, none⟩ = some m
 cy : W.cell? ⟨y, 0, none⟩ = some z
 cq : W.cell? ⟨q, 0, none⟩ = some (.slice (some ⟨b, o, none⟩) 1 c)
 cb : W.cell? ⟨b, o, none⟩ = some (.int .u16 x0)
theorem T4.grow {x y q b o c : Nat} {m z : Value} {x0 : Nat} {W W' : World} (h : T4 x y q b o c m z x0 W) (hb : Below W.heap.size W W') : T4 x y q b o c m z x0 W' :=
 ⟨(hb.cell (lt_of_cell h.cx)).trans h.cx, (hb.cell (lt_of_cell h.cy)).trans h.cy, (hb.cell (lt_of_cell h.cq)).trans h.cq, (hb.cell (lt_of_cell h.cb)).trans h.cb⟩
theorem Only.cellO {bs : List Nat} {W W' : World} (h : Only bs W W') {x o : Nat} {v : Value} (hc : W.cell? ⟨x, o, none⟩ = some v) (hx : x ∉ bs) : W'.cell? ⟨x, o, none⟩ = some v :=
 (World.cell?_of_block (w := W) (h.block (lt_of_cell hc) hx)).trans hc
theorem T4.only {x y q b o c : Nat} {m z : Value} {x0 : Nat} {bs : List Nat} {W W' : World} (h : T4 x y q b o c m z x0 W) (ho : Only bs W W') (hx : x ∉ bs) (hy : y ∉ bs) (hq : q ∉ bs) (hb : b ∉ bs) : T4 x y q b o c m z x0 W' :=
 ⟨ho.cellO h.cx hx, ho.cellO h.cy hy, ho.cellO h.cq hq, ho.cellO h.cb hb⟩
set_option maxHeartbeats 1000000 in
theorem texts2_any (K : MK) (k : KOk K) (S : St) (z : Bool) (x0 : Nat) (hr0 : x0 < 65536) (hm0 : 0 ≤ K.most) (hm1 : K.most ≤ 1000000) (hou : S.out.length ≤ 1000000) (W : World) (h : At K S W) (x y q b o c : Nat) (ht : TabP W)
 (hx : x ∉ K.bs) (hy : y ∉ K.bs) (hq : q ∉ K.bs) (hb : b ∉ K.bs) (hT : T4 x y q b o c (.pointer (some ⟨K.b, 0, none⟩)) (.bool z) x0 W) :
 Calls Tryz.prog 164 #[.pointer (some ⟨x, 0, none⟩), .pointer (some ⟨y, 0, none⟩), .pointer (some ⟨q, 0, none⟩)] W (OpEnd K W (writesM K (textL z x0) S)) := by
 have H := Lib.hid h
 have HT := Lib.hid ht
 have hl := text_len z x0 hr0
 clear h ht
 go_enter Tryz.func164, Tryz.ntmps164
 go_wp2_with fail
 have h2 := hT.grow (drew_below W)
 have HW := Lib.hid (H.out.grow (drew_below W))
 have HO := Lib.hid (Only.of_below (bs := K.bs) (drew_below W))
 have HTW := Lib.hid (HT.out.grow (drew_below W))
 clear hT H HT
 refine wp_region_held_drew (S := T4 x y q b o c (.pointer (some ⟨K.b, 0, none⟩)) (.bool z) x0) (by kernel_rfl) (by assumption) (fun hHeld => ?_)
 refine wpAnyH_take (i := 0) (v := .pointer (some ⟨K.b, 0, none⟩)) rfl (by kernel_rfl) (by kernel_rfl) (by kernel_rfl) (fun _ _ _ h => h) (Or.inl ⟨by rfl, ?_⟩) (by assumption) ?_
 ·intro w hSw; have h1 := hSw.cx; go_simp
 simp only [Act.put, List.setIfInBounds_toArray]
 refine wpAnyH_take (i := 1) (v := .bool z) rfl (by kernel_rfl) (by kernel_rfl) (by kernel_rfl) (fun _ _ _ h => h) (Or.inl ⟨by rfl, ?_⟩) (by assumption) ?_
 ·intro w hSw; have h1 := hSw.cy; go_simp
 simp only [Act.put]
 refine wpAnyH_take (i := 2) (v := .slice (some ⟨b, o, none⟩) 1 c) rfl (by kernel_rfl) (by kernel_rfl) (by kernel_rfl) (fun _ _ _ h => h) (Or.inl ⟨by rfl, ?_⟩) (by assumption) ?_
 ·intro w hSw; have h1 := hSw.cq; go_simp
 simp only [Act.put]
 refine wpAnyH_take (i := 3) (v := .pointer (some ⟨b, o, none⟩)) rfl (by kernel_rfl) (by kernel_rfl) (by kernel_rfl) (fun _ _ _ h => h) (Or.inl ⟨by rfl, ?_⟩) (by assumption) ?_
 ·intro w hSw; go_simp
 simp only [Act.put]
 refine wpAnyH_take (i := 4) (v := .int .u16 x0) rfl (by kernel_rfl) (by kernel_rfl) (by kernel_rfl) (fun _ _ _ h => h) (Or.inl ⟨by rfl, ?_⟩) (by assumption) ?_
 ·intro w hSw; have h1 := hSw.cb; go_simp
 simp only [Act.put]
 refine wpAnyH_ready (rs := [5]) (by kernel_rfl) (by simp) ?_
 refine AllReadyH.cons rfl (fun K' hK => ?_) AllReadyH.nil
 go_simp
 refine (text_any z x0 hr0 _ HTW.out).mono ?_
 rintro e w1 ⟨rfl, hb1⟩
 refine hK.out _ _ (h2.grow hb1) (fun hHeld1 => ?_)
 have h3 := h2.grow hb1
 have HW1 := Lib.hid (HW.out.grow hb1)
 have HO1 := Lib.hid (HO.out.trans (Only.of_below (bs := K.bs) hb1))
 clear hK K' h2 HW HTW HO hb1
 refine wpAnyH_ready (rs := [6]) (by kernel_rfl) (by simp) ?_
 refine AllReadyH.cons rfl (fun K' hK => ?_) AllReadyH.nil
 go_simp
 refine (writes_any K k S (textL z x0) (by omega) hm0 hm1 hou w1 HW1.out).mono ?_
 rintro e w2 ⟨rfl, hA2, ho2⟩
 refine hK.out _ _ (h3.only ho2 hx hy hq hb) (fun hHeld2 => ?_)
 clear hK K'
 refine wpAnyH_take (i := 7) (v := .int .u8 ((writesM K (textL z x0) S).2 : Nat)) rfl (by kernel_rfl) (by kernel_rfl) (by kernel_rfl) (fun _ _ _ h => h) (Or.inl ⟨by rfl, ?_⟩) (by assumption) ?_
 ·intro w hSw; go_simp
 simp only [Act.put, List.setIfInBounds_toArray]
 refine wpAnyH_done (by kernel_rfl) ?_ _
 simp only [List.getElem_toArray, List.getElem_cons_succ, List.getElem_cons_zero, List.set_cons_zero, List.set_cons_succ]
 go_wp2_with fail
 go_ret
 exact ⟨rfl, hA2, HO1.out.trans ho2⟩
def textsR (K : MK) (z : Bool) (r : St × List Nat × Nat) : St × Nat := if r.2.2 ≠ 0 then (r.1, r.2.2) else writesM K (textL z (r.2.1.getD 0 0)) r.1
def textsM (K : MK) (z : Bool) (S : St) : St × Nat := textsR K z (popsM K 1 S)
theorem popsM_out (K : MK) (n : Nat) (S : St) : (popsM K n S).1.out = S.out := by unfold popsM; split <;> rfl
set_option maxHeartbeats 1000000 in
theorem texts1_any (K : MK) (k : KOk K) (S : St) (s : SOk K S) (z : Bool) (hm0 : 0 ≤ K.most) (hm1 : K.most ≤ 1000000) (hou : S.out.length ≤ 1000000) (W : World) (_ht : TabP W) (h : At K S W) (x y : Nat) (hx : x ∉ K.bs) (hy : y ∉ K.bs)
 (hkt : ∀ W', Only K.bs W W' → TabP W')
 (cx : W.cell? ⟨x, 0, none⟩ = some (.pointer (some ⟨K.b, 0, none⟩))) (cy : W.cell? ⟨y, 0, none⟩ = some (.bool z)) : Calls Tryz.prog 162 #[.pointer (some ⟨x, 0, none⟩), .pointer (some ⟨y, 0, none⟩)] W (OpEnd K W (textsM K z S)) := by
 have HP := Lib.hid (show textsM K z S = textsR K z (popsM K 1 S) from rfl)
 have hlen := popsM_len K 1 S
 have hou1 := popsM_out K 1 S
 have HC := Lib.hid (pops_any K k S s 1 (by omega) W h)
 have HCX := Lib.hid cx
 have HCY := Lib.hid cy
 clear h
 go_enter Tryz.func162, Tryz.ntmps162
 go_wp2_with fail
 refine (HC.out).mono ?_
 rintro e w1 ⟨A, c, rfl, hW, hA, ho⟩
 generalize popsM K 1 S = r at *
 obtain ⟨S1, l, t⟩ := r
 simp only at hlen hW hA hou1
 have dx := ho.cell HCX.out hx
 have dy := ho.cell HCY.out hy
 have HT1 := Lib.hid (hkt _ ho)
 have HA := Lib.hid hA
 have HO := Lib.hid ho
 obtain ⟨b, o, rfl, hbl, hc⟩ := hW.at_ (j := 0) (by omega)
 rw [Nat.zero_mul, Nat.add_zero] at hc
 have hbn := mask_notin hc.1
 have hc0 := mask_cell hc.1
 have hr0 := hc.2
 have HV := Lib.hid (show textsM K z S = if t ≠ 0 then (S1, t) else writesM K (textL z (l.getD 0 0)) S1 from HP.out)
 generalize l.getD 0 0 = x0 at *
 clear hA ho HC cx cy HCX HCY hW hc HP hbl
 rw [hlen]
 dsimp only
 have e1 : (w1.alloc (.cells #[.slice (some ⟨b, o, none⟩) 1 c] 40)).heap.size = w1.heap.size + 1 := by simp
 have e2 : ((w1.alloc (.cells #[.slice (some ⟨b, o, none⟩) 1 c] 40)).alloc (.cells #[.int .u8 (t : Nat)] 5)).heap.size = w1.heap.size + 1 + 1 := by simp
 have q0 := Bx.grow (Bx.new w1 #[.slice (some ⟨b, o, none⟩) 1 c] 40) (alloc_below _ (.cells #[.int .u8 (t : Nat)] 5))
 have q1 := Bx.new (w1.alloc (.cells #[.slice (some ⟨b, o, none⟩) 1 c] 40)) #[.int .u8 (t : Nat)] 5
 rw [e1] at q1
 have HB2 := Lib.hid (((Below.refl _ _).alloc (Nat.le_refl _) _).alloc (by rw [e1]; omega) _ : Below w1.heap.size w1 ((w1.alloc (.cells #[.slice (some ⟨b, o, none⟩) 1 c] 40)).alloc (.cells #[.int .u8 (t : Nat)] 5)))
 have Q0 := Lib.hid q0
 have Q1 := Lib.hid q1
 have HE2 := Lib.hid e2
 clear q0 q1 e1 e2
 go_wp2_with fail
 generalize hw2 : ((w1.alloc (.cells #[.slice (some ⟨b, o, none⟩) 1 c] 40)).alloc (.cells #[.int .u8 (t : Nat)] 5)) = w2 at *
 clear hw2
 have HB3 := Lib.hid (alloc_below w2 (.cells #[.func (.func 163) #[] #[.pointer (some ⟨w1.heap.size + 1, 0, none⟩)], .func (.func 164) #[] #[.pointer (some ⟨x, 0, none⟩), .pointer (some ⟨y, 0, none⟩), .pointer (some ⟨w1.heap.size, 0, none⟩)]] 89))
 have q2 := Bx.new w2 #[.func (.func 163) #[] #[.pointer (some ⟨w1.heap.size + 1, 0, none⟩)], .func (.func 164) #[] #[.pointer (some ⟨x, 0, none⟩), .pointer (some ⟨y, 0, none⟩), .pointer (some ⟨w1.heap.size, 0, none⟩)]] 89
 rw [HE2.out] at q2
 generalize w2.alloc (.cells #[.func (.func 163) #[] #[.pointer (some ⟨w1.heap.size + 1, 0, none⟩)], .func (.func 164) #[] #[.pointer (some ⟨x, 0, none⟩), .pointer (some ⟨y, 0, none⟩), .pointer (some ⟨w1.heap.size, 0, none⟩)]] 89) = w3 at *
 have HB := Lib.hid (HB2.out.trans (HB3.out.mono HB2.out.size))
 have h3 := Lib.hid (HA.out.grow HB.out)
 have ho3 := Lib.hid (HO.out.trans (Only.of_below (bs := K.bs) HB.out))
 have hT3 : T4 x y w1.heap.size b o c (.pointer (some ⟨K.b, 0, none⟩)) (.bool z) x0 w3 :=
  ⟨(HB.out.cell (lt_of_cell dx)).trans dx, (HB.out.cell (lt_of_cell dy)).trans dy, ((Q0.out.grow HB3.out).cell 0).trans rfl, (HB.out.cell (lt_of_cell hc0)).trans hc0⟩
 have hqn : w1.heap.size ∉ K.bs := fun hm => by have := HA.out.old _ hm; omega
 refine texts_traps (w1.heap.size + 1 + 1) (w1.heap.size + 1) t _ w3 ((q2.cell 0).trans rfl) ((q2.cell 1).trans rfl) (((Q1.out.grow HB3.out).cell 0).trans rfl) _ ?_ ?_
 ·intro ht
  go_wp2_with fail
  go_ret
  rw [HV.out, if_pos ht]
  exact ⟨rfl, h3.out, ho3.out⟩
 ·intro ht
  refine (texts2_any K k S1 z x0 hr0 hm0 hm1 (by rw [hou1]; exact hou) w3 h3.out x y w1.heap.size b o c (HT1.out.grow HB.out) hx hy hqn hbn hT3).mono ?_
  rintro e w4 ⟨rfl, h4, ho4⟩
  refine ⟨_, rfl, ?_⟩
  go_wp2_with fail
  go_ret
  rw [HV.out, if_neg (by omega)]
  exact ⟨rfl, h4, ho3.out.trans ho4⟩
end Go.Proofs.YtabenhpjgjjgnaaGreatDoor
/- What a machine's jump does that keeps its word, as a closure. -/
namespace Go.Proofs.YtabenhpjgjjgnaaGreatDoor
open Go.RowKit
set_option maxRecDepth 100000
attribute [local go_sem ↓] Go.wp_at_zero Go.wp_at_succ
def keepsR (K : MK) (z : Bool) (r : St × List Nat × Nat) : St × Nat :=
 if r.2.2 ≠ 0 then (r.1, r.2.2) else if ((r.2.1.getD 0 0 == 0) != z) then (r.1, 0) else goesM K (r.1.args.getD 0 0) (pushM K (r.2.1.getD 0 0) r.1).1
def keepsM (K : MK) (z : Bool) (S : St) : St × Nat := keepsR K z (popsM K 1 S)
theorem pushM_keeps (K : MK) (x : Nat) (S : St) : (pushM K x S).1.args = S.args ∧ (pushM K x S).1.next = S.next ∧ (pushM K x S).1.mod = S.mod ∧ (pushM K x S).1.proc = S.proc := by unfold pushM; split <;> exact ⟨rfl, rfl, rfl, rfl⟩
theorem pushM_rok {K : MK} {S : St} (s : ROk K S) (x : Nat) : ROk K (pushM K x S).1 := by
 unfold pushM
 split
 ·exact s
 ·exact ⟨s.mod0, s.mod1, s.proc0, s.proc1⟩
set_option maxHeartbeats 1000000 in
theorem keeps1_any (K : MK) (k : KOk K) (S : St) (s : SOk K S) (z : Bool) (ha : 0 < S.args.length) (hn0 : 0 ≤ S.next) (hn1 : S.next ≤ 1000000) (hf0 : -1000000 ≤ S.args.getD 0 0) (hf1 : S.args.getD 0 0 ≤ 1000000) (W : World) (h : At K S W) (x y : Nat) (hx : x ∉ K.bs) (hy : y ∉ K.bs)
 (cx : W.cell? ⟨x, 0, none⟩ = some (.pointer (some ⟨K.b, 0, none⟩))) (cy : W.cell? ⟨y, 0, none⟩ = some (.bool z)) : Calls Tryz.prog 147 #[.pointer (some ⟨x, 0, none⟩), .pointer (some ⟨y, 0, none⟩)] W (OpEnd K W (keepsM K z S)) := by
 have HS := Lib.hid (popsM_ok s 1)
 have HP := Lib.hid (show keepsM K z S = keepsR K z (popsM K 1 S) from rfl)
 have hlen := popsM_len K 1 S
 have HC := Lib.hid (pops_any K k S s 1 (by omega) W h)
 have HKE := Lib.hid (popsM_keeps K 1 S)
 have HCX := Lib.hid cx
 have HCY := Lib.hid cy
 clear h
 go_enter Tryz.func147, Tryz.ntmps147
 go_wp2_with fail
 refine (HC.out).mono ?_
 rintro e w1 ⟨A, c, rfl, hW, hA, ho⟩
 generalize popsM K 1 S = r at *
 obtain ⟨S1, l, t⟩ := r
 simp only at hlen hW hA HS HKE
 have dx := ho.cell HCX.out hx
 have dy := ho.cell HCY.out hy
 have HA := Lib.hid hA
 have HO := Lib.hid ho
 obtain ⟨b, o, rfl, hc⟩ := word_cells hW (by omega)
 clear hA ho hW HC cx cy HCX HCY
 rw [hlen]
 dsimp only
 by_cases ht : t = 0
 ·subst ht
  obtain ⟨hc0, hr0⟩ := hc 0 (by omega)
  simp only [Nat.add_zero] at hc0
  have hlt : b < w1.heap.size := lt_of_cell hc0
  have hlx : x < w1.heap.size := lt_of_cell dx
  have hly : y < w1.heap.size := lt_of_cell dy
  have hX0 : keepsM K z S = if ((l.getD 0 0 == 0) != z) then (S1, 0) else goesM K (S1.args.getD 0 0) (pushM K (l.getD 0 0) S1).1 := by rw [HP.out, keepsR, if_neg (by simp)]
  have HX := Lib.hid hX0
  generalize l.getD 0 0 = x0 at *
  clear hc hlen hX0 HP
  by_cases hq : ((x0 == 0) != z) = true
  ·have d : (!((((x0 : Nat) : Int) == 0) == z)) = true := by rw [eq0]; revert hq; cases (x0 == 0) <;> cases z <;> simp
   go_wp2_with fail
   refine wp_region_grow (by kernel_rfl) (by kernel_rfl) ?_
   repeat (first | go_big_quiet_step (fail))
   refine wpQuiet_nil ?_
   rintro _ ⟨gx, rfl⟩
   have H1 := Lib.hid (HA.out.grow (growN_below w1 gx))
   have HO1 := Lib.hid (HO.out.trans (Only.of_below (bs := K.bs) (growN_below w1 gx)))
   go_wp2_with fail
   go_ret
   rw [HX.out, if_pos hq]
   exact ⟨rfl, H1.out, HO1.out⟩
  ·have d : (!((((x0 : Nat) : Int) == 0) == z)) = false := by rw [eq0]; revert hq; cases (x0 == 0) <;> cases z <;> simp
   go_wp2_with fail
   refine wp_region_grow (by kernel_rfl) (by kernel_rfl) ?_
   repeat (first | go_big_quiet_step (fail))
   refine wpQuiet_nil ?_
   rintro _ ⟨gx, rfl⟩
   have H1 := Lib.hid (HA.out.grow (growN_below w1 gx))
   have HO1 := Lib.hid (HO.out.trans (Only.of_below (bs := K.bs) (growN_below w1 gx)))
   have dx2 := ((growN_below w1 gx).cell (p := ⟨x, 0, none⟩) hlx).trans dx
   have ha1 : 0 < S1.args.length := by rw [HKE.out.1]; exact ha
   have HG := Lib.hid (show keepsM K z S = goesM K (S1.args.getD 0 0) (pushM K x0 S1).1 by rw [HX.out, if_neg hq])
   have hc2 := ((growN_below w1 gx).cell (p := ⟨b, o, none⟩) hlt).trans hc0
   have HPA := Lib.hid (pushM_keeps K x0 S1)
   have HPR := Lib.hid (pushM_rok HS.out.toROk x0)
   have HPC := Lib.hid (fun W' hW' => push_any K k S1 HS.out x0 hr0 W' hW')
   have hz0 : -1000000 ≤ S1.args.getD 0 0 := by rw [HKE.out.1]; exact hf0
   have hz1 : S1.args.getD 0 0 ≤ 1000000 := by rw [HKE.out.1]; exact hf1
   have hn2 : 0 ≤ S1.next := by rw [HKE.out.2]; exact hn0
   have hn3 : S1.next ≤ 1000000 := by rw [HKE.out.2]; exact hn1
   clear hc0 dx dy hlt hlx hly d HA HO HX hq
   generalize growN w1 gx = w2 at *
   go_wp2_with fail
   have H2 := Lib.hid (H1.out.grow (drew_below w2))
   have HO2 := Lib.hid (HO1.out.trans (Only.of_below (drew_below w2)))
   have dx3 := ((drew_below w2).cell (p := ⟨x, 0, none⟩) (lt_of_cell dx2)).trans dx2
   have hc3 := ((drew_below w2).cell (p := ⟨b, o, none⟩) (lt_of_cell hc2)).trans hc2
   clear H1 HO1 dx2 hc2
   refine wp_region_tail 4 (by kernel_rfl) (by kernel_rfl) ?_
   generalize w2.drew = w3 at *
   simp only [List.take_succ_cons, List.take_zero, List.drop_succ_cons, List.drop_zero]
   repeat still_step
   refine wpStill_nil ?_
   go_wp2_with fail
   refine (HPC.out w3 H2.out).mono ?_
   rintro e w4 ⟨rfl, h4, ho4⟩
   have dx4 := ho4.cell dx3 hx
   have H4 := Lib.hid h4
   have HO4 := Lib.hid (HO2.out.trans ho4)
   clear h4 ho4 hc3 dx3 H2 HO2 HPC
   generalize (pushM K x0 S1).2 = t2 at *
   generalize (pushM K x0 S1).1 = S2 at *
   go_wp2_with fail
   have H5 := Lib.hid (H4.out.grow (drew_below w4))
   have HO5 := Lib.hid (HO4.out.trans (Only.of_below (drew_below w4)))
   have dx5 := ((drew_below w4).cell (p := ⟨x, 0, none⟩) (lt_of_cell dx4)).trans dx4
   clear H4 HO4 dx4
   refine wp_region_tail 7 (by kernel_rfl) (by kernel_rfl) ?_
   generalize w4.drew = w5 at *
   have ha2 : 0 < S2.args.length := by rw [HPA.out.1]; exact ha1
   obtain ⟨b2, o2, c2, m16, hb2, hcc⟩ := H5.out.arg ha2
   have hl2 : (0 : Int) < (S2.args.length : Int) := by omega
   simp only [Nat.add_zero] at hcc
   rw [HPA.out.1] at hcc
   have hn4 : 0 ≤ S2.next := by rw [HPA.out.2.1]; exact hn2
   have hn5 : S2.next ≤ 1000000 := by rw [HPA.out.2.1]; exact hn3
   generalize S1.args.getD 0 0 = a0 at *
   simp only [List.take_succ_cons, List.take_zero, List.drop_succ_cons, List.drop_zero]
   repeat still_step
   refine wpStill_nil ?_
   go_wp2_with fail
   refine (goes_any K k S2 HPR.out a0 hn4 hn5 hz0 hz1 w5 H5.out).mono ?_
   rintro e w6 ⟨rfl, h6, ho6⟩
   go_wp2_with fail
   go_ret
   rw [HG.out]
   exact ⟨rfl, h6, HO5.out.trans ho6⟩
 ·have d := bne_iff_ne.2 (show (t : Int) ≠ 0 by omega)
  go_wp2_with fail
  refine wp_region_grow (by kernel_rfl) (by kernel_rfl) ?_
  repeat (first | go_big_quiet_step (fail))
  refine wpQuiet_nil ?_
  rintro _ ⟨gx, rfl⟩
  have H1 := Lib.hid (HA.out.grow (growN_below w1 gx))
  have HO1 := Lib.hid (HO.out.trans (Only.of_below (bs := K.bs) (growN_below w1 gx)))
  go_wp2_with fail
  go_ret
  rw [HP.out, keepsR, if_pos ht]
  exact ⟨rfl, H1.out, HO1.out⟩
end Go.Proofs.YtabenhpjgjjgnaaGreatDoor
/- What a machine's jump on a word does, as a closure. -/
namespace Go.Proofs.YtabenhpjgjjgnaaGreatDoor
open Go.RowKit
set_option maxRecDepth 100000
attribute [local go_sem ↓] Go.wp_at_zero Go.wp_at_succ
theorem turns_mk (b : Nat) (n : Int) (A : Option Addr) (k c : Nat) (W : World) : Calls Tryz.prog 91 #[.pointer (some ⟨b, 0, none⟩), .int .i64 n, .slice A k c] W (fun e w' => ∃ x y z : Nat, e = .returned (.func (.func 155) #[] #[.pointer (some ⟨x, 0, none⟩), .pointer (some ⟨y, 0, none⟩), .pointer (some ⟨z, 0, none⟩)]) ∧ W.heap.size ≤ x ∧ W.heap.size ≤ y ∧ W.heap.size ≤ z ∧
 w'.cell? ⟨x, 0, none⟩ = some (.pointer (some ⟨b, 0, none⟩)) ∧ w'.cell? ⟨y, 0, none⟩ = some (.int .i64 n) ∧ w'.cell? ⟨z, 0, none⟩ = some (.slice A k c) ∧ Below W.heap.size W w') := by
 go_enter Tryz.func91, Tryz.ntmps91
 go_wp2_with fail
 go_ret
 have e1 : (W.alloc (.cells #[.pointer (some ⟨b, 0, none⟩)] 30)).heap.size = W.heap.size + 1 := by simp
 have e2 : ((W.alloc (.cells #[.pointer (some ⟨b, 0, none⟩)] 30)).alloc (.cells #[.int .i64 n] 3)).heap.size = W.heap.size + 2 := by simp
 have q0 := (Bx.grow (Bx.grow (Bx.new W #[.pointer (some ⟨b, 0, none⟩)] 30) (alloc_below _ (.cells #[.int .i64 n] 3))) (alloc_below _ (.cells #[.slice A k c] 23))).cell 0
 have q1 := (Bx.grow (Bx.new (W.alloc (.cells #[.pointer (some ⟨b, 0, none⟩)] 30)) #[.int .i64 n] 3) (alloc_below _ (.cells #[.slice A k c] 23))).cell 0
 have q2 := (Bx.new ((W.alloc (.cells #[.pointer (some ⟨b, 0, none⟩)] 30)).alloc (.cells #[.int .i64 n] 3)) #[.slice A k c] 23).cell 0
 rw [e1] at q1
 rw [e2] at q2
 exact ⟨_, _, _, rfl, Nat.le_refl _, Nat.le_succ _, Nat.le_add_right _ 2, q0.trans rfl, q1.trans rfl, q2.trans rfl, (((Below.refl _ _).alloc (Nat.le_refl _) _).alloc (by rw [e1]; omega) _).alloc (by rw [e2]; omega) _⟩
end Go.Proofs.YtabenhpjgjjgnaaGreatDoor
/- What turns a machine's words, as a closure. -/
namespace Go.Proofs.YtabenhpjgjjgnaaGreatDoor
open Go.RowKit
set_option maxRecDepth 100000
attribute [local go_sem ↓] Go.wp_at_zero Go.wp_at_succ
def pushAll (K : MK) : List Nat → St → St × Nat
 | [], S => (S, 0)
 | x :: l, S => if (pushM K x S).2 ≠ 0 then pushM K x S else pushAll K l (pushM K x S).1
def turnsR (K : MK) (n : Nat) (order : List Nat) (r : St × List Nat × Nat) : St × Nat :=
 if r.2.2 ≠ 0 then (r.1, r.2.2) else pushAll K (order.map fun k => r.2.1.getD (n - 1 - k) 0) r.1
def turnsM (K : MK) (n : Nat) (order : List Nat) (S : St) : St × Nat := turnsR K n order (popsM K n S)
theorem pushM_ok {K : MK} (_k : KOk K) {S : St} (s : SOk K S) (x : Nat) : SOk K (pushM K x S).1 := by
 unfold pushM
 split
 ·exact s
 ·rename_i h
  have e : hereP K { S with ws := storeM K.n S.ws S.sp x, sp := S.sp + 1 } = hereP K S := rfl
  refine ⟨⟨s.mod0, s.mod1, s.proc0, s.proc1⟩, s.fp1, ?_, ?_, ?_⟩
  ·rw [e]; have := s.sp0; simp only; omega
  ·rw [e]; unfold topN at h; simp only; omega
  ·rw [e]; exact s.top
theorem Ints.only {bs : List Nat} {W W' : World} {A : Option Addr} {l : List Int} (h : Ints (mask bs W) A l) (ho : Only bs W W') : Ints (mask bs W') A l := h.later ho (by rw [mask_size]; exact Nat.le_refl _)
theorem Words.only {bs : List Nat} {W W' : World} {A : Option Addr} {l : List Nat} (h : Words (mask bs W) A l) (ho : Only bs W W') : Words (mask bs W') A l := h.later ho (by rw [mask_size]; exact Nat.le_refl _)
def natI (l : List Nat) : List Int := l.map fun (k : Nat) => (k : Int)
set_option maxHeartbeats 2000000 in
theorem turns1_any (K : MK) (k : KOk K) (S : St) (s : SOk K S) (n : Nat) (hn : n ≤ 65535) (order : List Nat) (hord : ∀ j ∈ order, j < n) (hlo : order.length ≤ 1000) (W : World) (h : At K S W) (x y z : Nat) (hx : x ∉ K.bs) (hy : y ∉ K.bs) (hz : z ∉ K.bs) (A : Option Addr) (c : Nat)
 (cx : W.cell? ⟨x, 0, none⟩ = some (.pointer (some ⟨K.b, 0, none⟩))) (cy : W.cell? ⟨y, 0, none⟩ = some (.int .i64 n)) (cz : W.cell? ⟨z, 0, none⟩ = some (.slice A (natI order).length c)) (hI : Ints (mask K.bs W) A (natI order)) :
 Calls Tryz.prog 155 #[.pointer (some ⟨x, 0, none⟩), .pointer (some ⟨y, 0, none⟩), .pointer (some ⟨z, 0, none⟩)] W (OpEnd K W (turnsM K n order S)) := by
 have HS := Lib.hid (popsM_ok s n)
 have hlen := popsM_len K n S
 have HP := Lib.hid (show turnsM K n order S = turnsR K n order (popsM K n S) from rfl)
 have HC := Lib.hid (pops_any K k S s n hn W h)
 have HCX := Lib.hid cx
 have HCY := Lib.hid cy
 have HCZ := Lib.hid cz
 clear h
 go_enter Tryz.func155, Tryz.ntmps155
 go_wp2_with fail
 refine (HC.out).mono ?_
 rintro e w1 ⟨B, cb, rfl, hW, hA, ho⟩
 generalize popsM K n S = r at *
 obtain ⟨S1, l, t⟩ := r
 simp only at hlen hW hA HS
 have dx := ho.cell HCX.out hx
 have dy := ho.cell HCY.out hy
 have dz := ho.cell HCZ.out hz
 have HI := Lib.hid (hI.only ho)
 have HA := Lib.hid hA
 have HO := Lib.hid ho
 have HW := Lib.hid hW
 clear hA ho HC cx cy cz HCX HCY HCZ hW hI
 rw [hlen]
 dsimp only
 by_cases ht : t = 0
 ·subst ht
  have hX0 : turnsM K n order S = pushAll K (order.map fun k => l.getD (n - 1 - k) 0) S1 := by rw [HP.out, turnsR, if_neg (by simp)]
  have HX := Lib.hid hX0
  have hln : (natI order).length = order.length := by simp [natI]
  rw [hln] at dz
  clear hX0 HP
  go_wp2_with fail
  go_loopg [20] (order.length) (fun g i wr => ∃ (j : Nat) (S2 : St), j + g = order.length ∧ i = .int .i64 j ∧ At K S2 wr ∧ SOk K S2 ∧ Only K.bs w1 wr ∧ turnsM K n order S = pushAll K ((order.drop j).map fun k => l.getD (n - 1 - k) 0) S2)
  case atStart => exact ⟨0, S1, by omega, rfl, HA.out, HS.out, Only.refl _ _, HX.out⟩
  case round =>
   clear HA HS HX
   obtain ⟨j, S2, hj, rfl, hA2, hS2, ho2, hX2⟩ := hrel
   have ex := ho2.cell dx hx
   have ey := ho2.cell dy hy
   have H2 := Lib.hid hA2
   have HO2 := Lib.hid ho2
   have HS2 := Lib.hid hS2
   have HX2 := Lib.hid hX2
   clear hA2 hS2 ho2 hX2
   by_cases hlt : j < order.length
   ·obtain ⟨ab, ao, rfl, hab, hac⟩ := ((HI.out.only HO2.out).reads (mask_reads _ _)).at_ (j := j) (by rw [hln]; exact hlt)
    rw [Nat.mul_one] at hac
    have hk : order.getD j 0 < n := hord _ (getD_mem' _ _ _ hlt)
    have hac' : wr.cell? ⟨ab, ao + j, none⟩ = some (.int .i64 (order.getD j 0 : Nat)) := by
     rw [hac]; congr 2
     simp [natI, List.getD_eq_getElem?_getD, hlt]
    obtain ⟨bb, bo, rfl, hwc⟩ := word_cells (HW.out.only HO2.out) (by omega)
    obtain ⟨hwc1, hwr⟩ := hwc (n - 1 - order.getD j 0) (by omega)
    have HX3 := Lib.hid (show turnsM K n order S = if (pushM K (l.getD (n - 1 - order.getD j 0) 0) S2).2 ≠ 0 then pushM K (l.getD (n - 1 - order.getD j 0) 0) S2 else pushAll K ((order.drop (j + 1)).map fun k => l.getD (n - 1 - k) 0) (pushM K (l.getD (n - 1 - order.getD j 0) 0) S2).1 by
     rw [HX2.out, List.drop_eq_getElem_cons hlt, List.map_cons, show order[j] = order.getD j 0 by simp [List.getD_eq_getElem?_getD, hlt]]
     rfl)
    have hi1 : (n : Int) - 1 - ((order.getD j 0 : Nat) : Int) = ((n - 1 - order.getD j 0 : Nat) : Int) := by omega
    have hnI : (n : Int) ≤ 65535 := by omega
    have hkI : ((order.getD j 0 : Nat) : Int) < n := by omega
    generalize order.getD j 0 = kk at *
    generalize l.getD (n - 1 - kk) 0 = x0 at *
    have hjI : (j : Int) < (order.length : Int) := by omega
    have hbb : bb < wr.heap.size := lt_of_cell hwc1
    have hxl : x < wr.heap.size := lt_of_cell ex
    have hyl : y < wr.heap.size := lt_of_cell ey
    have e1 : IntKind.i64.wrap ((n : Int) - 1) = (n : Int) - 1 := IntWalk.i64_in _ (by omega)
    have e2 : IntKind.i64.wrap ((n : Int) - 1 - (kk : Int)) = ((n - 1 - kk : Nat) : Int) := by rw [hi1]; exact IntWalk.i64_in _ (by omega)
    have hnl : ((n - 1 - kk : Nat) : Int) < (n : Int) := by omega
    clear HX2 hwc hac hi1
    go_wp2_with fail
    have H4 := Lib.hid (H2.out.grow (drew_below wr))
    have HO4 := Lib.hid (HO2.out.trans (Only.of_below (drew_below wr)))
    have dx3 := ((drew_below wr).cell (p := ⟨x, 0, none⟩) hxl).trans ex
    have dy3 := ((drew_below wr).cell (p := ⟨y, 0, none⟩) hyl).trans ey
    have dw3 := ((drew_below wr).cell (p := ⟨bb, bo + (n - 1 - kk), none⟩) hbb).trans hwc1
    refine wp_region_tail 8 (by kernel_rfl) (by kernel_rfl) ?_
    clear ex ey hwc1 hac' H2 hxl hyl hbb hab
    generalize wr.drew = wd at *
    simp only [List.take_succ_cons, List.take_zero, List.drop_succ_cons, List.drop_zero]
    repeat still_step
    refine wpStill_nil ?_
    go_wp2_with fail
    refine (push_any K k S2 HS2.out x0 hwr wd H4.out).mono ?_
    rintro e w5 ⟨rfl, h5, ho5⟩
    have HSP := Lib.hid (pushM_ok k HS2.out x0)
    have HO5 := Lib.hid (HO4.out.trans ho5)
    have H5 := Lib.hid h5
    clear h5 ho5 dx3 dy3 dw3 H4
    generalize pushM K x0 S2 = r2 at *
    obtain ⟨S3, t3⟩ := r2
    simp only at HSP H5 HX3
    by_cases ht3 : t3 = 0
    ·subst ht3
     have HX4 := Lib.hid (show turnsM K n order S = pushAll K ((order.drop (j + 1)).map fun k => l.getD (n - 1 - k) 0) S3 by rw [HX3.out, if_neg (by simp)])
     clear HX3
     go_wp2_with fail
     go_roundg (gk - 1)
     case measure => omega
     case rel => exact ⟨j + 1, S3, by omega, by go_num, H5.out, HSP.out, HO5.out, HX4.out⟩
    ·have d := bne_iff_ne.2 (show (t3 : Int) ≠ 0 by omega)
     have HX4 := Lib.hid (show turnsM K n order S = (S3, t3) by rw [HX3.out, if_pos (by simpa using ht3)])
     clear HX3
     go_wp2_with fail
     go_ret
     rw [HX4.out]
     exact ⟨rfl, H5.out, HO.out.trans HO5.out⟩
   ·obtain rfl : j = order.length := by omega
    have HX4 := Lib.hid (show turnsM K n order S = (S2, 0) by rw [HX2.out, List.drop_length]; rfl)
    clear HX2
    go_wp2_with fail
    go_ret
    rw [HX4.out]
    exact ⟨rfl, H2.out, HO.out.trans HO2.out⟩
 ·have d := bne_iff_ne.2 (show (t : Int) ≠ 0 by omega)
  go_wp2_with fail
  go_ret
  rw [HP.out, turnsR, if_pos ht]
  exact ⟨rfl, HA.out, HO.out⟩
end Go.Proofs.YtabenhpjgjjgnaaGreatDoor
