/- maps. slices. The shelf's contracts at this dump, laid by the kit's own tool. slices. Condition: what lies in memory can lie there; what each theorem says. -/
import Derived.Test.YtabenhpjgjjgnaaGreatDoorBba
import Derived.Test.YtabenhpjgjjgnaaGreatDoorProg
import Derived.Test.YtabenhpjgjjgnaaGreatDoorBap
import Derived.RangeFuncBox
import Derived.RangeFuncCalls
import Derived.Maps.AppendAt
import Derived.Shelf.SlSortCmp.NoneTotal
import Derived.Ground.SlsfProg
/- maps. -/
namespace Go.Proofs.YtabenhpjgjjgnaaGreatDoor
open Go.RowKit Go.Shelf
set_option maxRecDepth 100000
set_option maxHeartbeats 2000000 in
theorem values1_any (F : Fence) (n : Nat) (h8 : F.fn 326) (hro : F.round = none) (hn : 1 ≤ n) (y Bm q : Nat) (l : List (Nat × Int × Int)) (J Jx : List (Nat × Int × Int) → World → Prop)
 (hY : ∀ pre x W, J pre W → pre.length < l.length → YieldAt F (n - 1) Tryz.prog y #[bval x] W fun e W' => (e = .returned (.bool true) ∧ J (pre ++ [x]) W' ∧ KeepsWalks W W') ∨ (e = .returned (.bool false) ∧ Jx (pre ++ [x]) W'))
 (W : World) (hJ : AbidesFrom W.heap.size J) (hm : W.cell? ⟨Bm, 0, none⟩ = some (.map (some q))) (hB : BlocksAt q l W) (h0 : J [] W) :
 CallsIn F n Tryz.prog 326 #[.func (.yield y) #[] #[], .pointer (some ⟨Bm, 0, none⟩)] W fun e W' => (∃ v, e = .returned v) ∧ ((∃ xs, xs.Perm l ∧ J xs W') ∨ (∃ pre, True ∧ Jx pre W')) := by
 obtain ⟨w0, hrg, hW0, hg0⟩ := wk_range (P := Tryz.prog) Tryz.underlying122 hB
 have HW0 := Lib.hid hW0
 have HJ0 := Lib.hid (hJ [] W w0 none h0 hg0 (fun r e => by cases e))
 have HN := Lib.hid (show W.heap.size ≠ q from fun e => by have := hB.lt; omega)
 have HY := Lib.hid hY
 have HJ := Lib.hid hJ
 clear hW0 hY hJ hB h0 hg0
 refine callsIn_of_wp Tryz.func326 rfl h8 ?_ hro
 simp only [Tryz.ntmps326, List.size_toArray, List.length_cons, List.length_nil, Nat.reduceAdd, Nat.reduceSub, Array.replicate_succ, Array.replicate_zero, List.push_toArray, List.append_toArray, List.nil_append, List.cons_append]
 gi_wp2
 clear hrg hm
 gi_loopw [4] (fun _ wr => ∃ xs, Wk q W.heap.size l xs wr ∧ J xs wr) (fun _ wr => wr.rangeLeft q W.heap.size)
 case atStart => exact ⟨[], HW0.out, HJ0.out⟩
 case round =>
  obtain ⟨xs, hw, hj⟩ := hrel
  have HWk := Lib.hid hw
  have HJs := Lib.hid hj
  clear HW0 HJ0
  rcases wk_next (P := Tryz.prog) hw HN.out with ⟨hp, hnx⟩ | ⟨x, w2, hnx, hw2, hlt, hg2, hlen, hen⟩
  ·have HP := Lib.hid hp
   clear hp hw hj
   gi_wp2
   go_end0
   exact ⟨⟨_, rfl⟩, .inl ⟨xs, HP.out, HJs.out⟩⟩
  ·have HW2 := Lib.hid hw2
   have HLT := Lib.hid hlt
   have hJ2 : J xs w2 := HJ.out xs wr w2 (some W.heap.size) hj hg2 (fun r e => by cases e; exact ⟨Nat.le_refl _, hw.walk⟩)
   have hJ3 : J xs (w2.alloc (.cells #[.int .i64 x.2.1, .int .i64 x.2.2] 176)) := HJ.out xs w2 _ none hJ2 (World.grownBy_alloc w2 _ none) (fun r e => by cases e)
   obtain ⟨fn, tmps, assign, body, hy, hR⟩ := HY.out xs x _ hJ3 hlen
   have HR := Lib.hid hR
   unfold bval at hy hnx hen
   unfold bkey at hnx hen
   clear hw hj hw2 hlt hg2 hlen hJ2 hJ3 hR
   gi_wp2
   refine HR.out.mono ?_
   rintro e W3 (⟨rfl, hJ4, hk3⟩ | ⟨rfl, hJx4⟩)
   ·have HW3 := Lib.hid ((HW2.out.keeps (KeepsWalks.alloc _ _)).keeps hk3)
    have HJ4 := Lib.hid hJ4
    have HL3 := Lib.hid (show W3.rangeLeft q W.heap.size < wr.rangeLeft q W.heap.size by rw [HW2.out.left ((KeepsWalks.alloc _ _).trans hk3)]; exact HLT.out)
    clear hJ4 hk3 hy hnx hen HR
    gi_wp2
    go_roundw
    case rel => exact ⟨xs ++ [x], HW3.out, HJ4.out⟩
    case measure => exact HL3.out
   ·clear hy hnx hen HR
    gi_wp2
    refine bodyPost_ret (results_none rfl _ _ _) rfl ?_
    exact ⟨⟨_, rfl⟩, .inr ⟨_, trivial, hJx4⟩⟩
theorem values_any (F : Fence) (n : Nat) (hf : F.fn 299) (hro : F.round = none) (mb : Option Nat) (w : World) :
 CallsIn F n Tryz.prog 299 #[.map mb] w fun e w' => e = .returned (.func (.func 326) #[] #[.pointer (some ⟨w.heap.size, 0, none⟩)]) ∧ w' = w.alloc (.cells #[.map mb] 122) := by
 refine callsIn_of_wp Tryz.func299 rfl hf ?_ hro
 simp only [Tryz.ntmps299, List.size_toArray, List.length_cons, List.length_nil, Nat.reduceAdd, Nat.reduceSub, Array.replicate_succ, Array.replicate_zero, List.push_toArray, List.append_toArray, List.nil_append, List.cons_append]
 gi_wp2
 go_ret
 exact ⟨rfl, rfl⟩
theorem values_stops (F : Fence) (n : Nat) (h8 : F.fn 326) (hro : F.round = none) (hn : 1 ≤ n) (Bm q : Nat) (l : List (Nat × Int × Int)) (w : World) (hBm : Bm < w.heap.size) (hm : w.cell? ⟨Bm, 0, none⟩ = some (.map (some q))) (hB : BlocksAt q l w) :
 SeqStopsK F n Tryz.prog 326 #[.pointer (some ⟨Bm, 0, none⟩)] (fun x => #[bval x]) KeepsWalks (fun xs => xs.Perm l) (fun _ => True) l.length w := fun y J Jx W hW hJ _ hY h0 =>
 values1_any F n h8 hro hn y Bm q l J Jx hY W hJ ((hW.cell (p := ⟨Bm, 0, none⟩) hBm).trans hm) (hB.later (hW.block q hB.lt)) h0
end Go.Proofs.YtabenhpjgjjgnaaGreatDoor
/- slices. -/
namespace Go.Proofs.YtabenhpjgjjgnaaGreatDoor
open Go.RowKit Go.Shelf
set_option maxRecDepth 100000
attribute [local go_sem] Oper.semAt_some
def bcells (x : Nat × Int × Int) : List Value := [.int .i64 x.2.1, .int .i64 x.2.2]
theorem infoBlock : (Tryz.prog.info? 176).map (fun i => (i.zero, i.size, i.bytes)) = some (some (.agg #[.int .i64 0, .int .i64 0]), 2, 16) := by kernel_rfl
theorem two_new (w : World) (a n : Int) (t : TypeId) : ∀ j u, ([.int .i64 a, .int .i64 n] : List Value)[j]? = some u → (w.alloc (.cells #[.int .i64 a, .int .i64 n] t)).cell? ((⟨w.heap.size, 0, none⟩ : Addr).add j) = some u := by
 intro j u hj
 rw [WideShapes.add_plain]
 have := (Bx.new w #[.int .i64 a, .int .i64 n] t).cell (0 + j)
 rw [this, ← hj, Nat.zero_add, List.getElem?_toArray]
set_option maxHeartbeats 2000000 in
theorem appendSeq_any (F : Fence) (n : Nat) (h11 : F.fn 336) (hro : F.round = none) (hn : 2 ≤ n) (g : Nat) (lb : Array Value) (hFg : F.fn g) (eg : ∀ args w, (callFunc g args).run Tryz.prog w = .ok (.enter g args) w)
 (S Sp : List (Nat × Int × Int) → Prop) (N : Nat) (hN : N ≤ 100000000) (w : World) (hseq : SeqStopsK F (n - 1) Tryz.prog g lb (fun x => #[bval x]) KeepsWalks S Sp N w) :
 CallsIn F n Tryz.prog 336 #[.slice none 0 0, .func (.func g) #[] lb] w fun e w' => ∃ v xs, e = .returned v ∧ S xs ∧ w'.ownsRow w.heap.size 176 2 v xs.length (xs.flatMap bcells) ∧ Below w.heap.size w w' := by
 have h1 : 1 ≤ n := by omega
 obtain ⟨i0, hi, hz0, hz1, hz2⟩ := info_parts infoBlock
 have HS := Lib.hid hseq
 clear hseq
 refine callsIn_of_wp_marks Tryz.func336 rfl h11 ?_ hro
 simp only [Tryz.ntmps336, List.size_toArray, List.length_cons, List.length_nil, Nat.reduceAdd, Nat.reduceSub, Array.replicate_succ, Array.replicate_zero, List.push_toArray, List.append_toArray, List.nil_append, List.cons_append]
 gi_wp2
 have bO := Boxed.new w 274 (.slice none 0 0)
 have hB0 : Below w.heap.size w (w.alloc (.cells #[.slice none 0 0] 274)) := (Below.refl _ w).alloc (Nat.le_refl _) _
 refine wpIn_rangeFunc_ownH hro h1 (gf := g) (lb := lb) rfl hFg eg HS.out walksK_t walksK_b hB0 (fun _ => rfl)
  (fun pre W => (∃ v, Boxed W w.heap.size 274 v ∧ W.ownsRow w.heap.size 176 2 v pre.length (pre.flatMap bcells) ∧ True) ∧ (Below w.heap.size w W ∧ pre.length ≤ N))
  (fun _ _ _ => False)
  (OwnFrom.and (Own.from (holdsRow_own w.heap.size w.heap.size 274 176 2 (fun pre : List (Nat × Int × Int) => pre.length) (fun pre => pre.flatMap bcells) (fun _ _ => True)) _) (OwnFrom.and (ownFrom_below (Nat.le_refl _) (by simp)) (fun _ _ _ _ hs _ _ => hs)))
  (fun _ _ _ _ _ hs _ _ => hs)
  ⟨⟨_, bO, World.ownsRow_nil _ _ _ _, trivial⟩, hB0, Nat.zero_le _⟩
  (fun x a' W => ∃ Bk, w.heap.size < Bk ∧ Bx Bk #[.int .i64 x.2.1, .int .i64 x.2.2] 176 W ∧ a' = { tmps := #[.slice none 0 0, .func (.func g) #[] lb, .pointer (some ⟨w.heap.size, 0, none⟩), undef, .slice none 0 0, .pointer (some ⟨Bk, 0, none⟩), .func (.func g) #[] lb, .agg #[.int .i64 x.2.1, .int .i64 x.2.2], undef, undef, undef, undef, undef], defers := [] })
  (fun x a' _ X Y row hs hg hr => by
   obtain ⟨Bk, q1, q2, q3⟩ := hs
   refine ⟨Bk, q1, (hg.block Bk q2.lt (fun e => ?_)).trans q2, q3⟩
   obtain ⟨_, o, ho, hc⟩ := hr Bk e.symm
   rw [show X.heap[Bk]? = _ from q2] at ho; cases ho; cases hc)
  ?assign ?body ?done ?stop
 case assign =>
  rintro l pre x W K ⟨⟨v, hv, hrow, _⟩, hB, hle⟩ hK
  have HK := Lib.hid hK
  clear hK
  dsimp only [bval]
  gi_wp2
  exact HK.out _ _ ((KeepsOthers.alloc _ _).from _) (KeepsWalks.alloc _ _) ⟨⟨v, hv.alloc _, hrow.alloc _, trivial⟩, hB.alloc hB.size _, hle⟩ ⟨W.heap.size, hv.lt, Bx.new W _ _, rfl⟩
 case body =>
  rintro l pre x a' W hl _ ⟨⟨v, hv, hrow, _⟩, hB, hle⟩ ⟨Bk, hBk, bX, rfl⟩ hlt
  have hc := hv.cell
  have k0 : W.cell? ⟨Bk, 0, none⟩ = some (.int .i64 x.2.1) := (bX.cell 0).trans rfl
  have k1 : W.cell? ⟨Bk, 1, none⟩ = some (.int .i64 x.2.2) := (bX.cell 1).trans rfl
  have HL := Lib.hid hlt
  have HR := Lib.hid hrow
  have HB := Lib.hid hB
  have HV := Lib.hid hv
  clear hv hrow hB hlt
  gi_wp2_with (gi_at_builtin; refine wpListIn_append_own _ rfl _ _ 274 rfl w.heap.size 176 i0 (.agg #[.int .i64 0, .int .i64 0]) 2 16 Tryz.underlying274 hi hz0 hz1 hz2 rfl (by decide) _ _ _ rfl (HR.out.alloc _) ⟨W.heap.size, 0, none⟩ 1 1 [.int .i64 x.2.1, .int .i64 x.2.2] rfl rfl (two_new _ _ _ _) (by intro u hu; simp at hu; rcases hu with rfl | rfl <;> rfl) (by unfold maxLen; omega) (by omega) (by have := HB.out.size; simp; omega) ?_; intro v' w1 hown' hgrow _; obtain ⟨g', cap', rfl⟩ := ownsRow_succ hown'; obtain ⟨hv1, hv2, hr2, hk2, hb2⟩ := HV.out.appended (by decide) HR.out HB.out.size (Nat.le_refl _) hown' hgrow; have hc1 := hv1.cell; have hf1 := hv1.frozen; have HV2 := Lib.hid hv2; have HR2 := Lib.hid hr2; have HK2 := Lib.hid hk2; have HB2 := Lib.hid hb2; clear hown' hgrow hv1 hv2 hr2 hk2 hb2)
  refine ⟨HK2.out.from _, ⟨HK2.out.size, fun k o h hw => HK2.out.same k o h (Obj.not_cells_of_walk hw)⟩, ⟨_, HV2.out, ?_, trivial⟩, HB.out.trans HB2.out, by have := HL.out; simp; omega⟩
  have := HR2.out
  rw [List.length_append, List.flatMap_append]
  simpa [bcells] using this
 case done =>
  rintro D ys W hD hS ⟨⟨v, hv, hrow, _⟩, hB, _⟩ hK
  have hc := hv.cell
  gi_wp2
  refine ⟨by simp, .inl ⟨_, _, rfl, run_takeDeferred hK, ?_⟩⟩
  exact ⟨_, results_tmp rfl _ _ _, v, ys, rfl, hS, ownsRow_putObj hrow _ hK rfl, hB.trans (belowK_b (w := w) (Nat.le_refl _) W D _ _ (by simp at hD; omega) hK rfl rfl)⟩
 case stop =>
  rintro D c pre W _ _ h _
  exact h.elim
theorem collect_any (F : Fence) (n : Nat) (h8 : F.fn 324) (h11 : F.fn 336) (hro : F.round = none) (hn : 3 ≤ n) (g : Nat) (lb : Array Value) (hFg : F.fn g) (eg : ∀ args w, (callFunc g args).run Tryz.prog w = .ok (.enter g args) w)
 (S Sp : List (Nat × Int × Int) → Prop) (N : Nat) (hN : N ≤ 100000000) (w : World) (hseq : SeqStopsK F (n - 1 - 1) Tryz.prog g lb (fun x => #[bval x]) KeepsWalks S Sp N w) :
 CallsIn F n Tryz.prog 324 #[.func (.func g) #[] lb] w fun e w' => ∃ v xs, e = .returned v ∧ S xs ∧ w'.ownsRow w.heap.size 176 2 v xs.length (xs.flatMap bcells) ∧ Below w.heap.size w w' := by
 have h1 : 1 ≤ n := by omega
 have HC := Lib.hid (appendSeq_any F (n - 1) h11 hro (by omega) g lb hFg eg S Sp N hN w hseq)
 clear hseq
 refine callsIn_of_wp Tryz.func324 rfl h8 ?_ hro
 simp only [Tryz.ntmps324, List.size_toArray, List.length_cons, List.length_nil, Nat.reduceAdd, Nat.reduceSub, Array.replicate_succ, Array.replicate_zero, List.push_toArray, List.append_toArray, List.nil_append, List.cons_append]
 gi_wp2_with (gi_at_call 336; refine (HC.out).mono ?_; rintro e w' ⟨v, xs, rfl, hS, hrow, hb⟩)
 go_ret
 exact ⟨v, xs, rfl, hS, hrow, hb⟩
end Go.Proofs.YtabenhpjgjjgnaaGreatDoor
/- The shelf's contracts at this dump, laid by the kit's own tool. -/
namespace Go.Proofs
open Go.Shelf
def Tryz.sortB_ren : Go.Shelf.Ren := ⟨fun | 6 => 325 | 15 => 249 | 14 => 337 | 28 => 315 | 29 => 316 | 20 => 345 | 21 => 346 | 22 => 347 | 23 => 348 | 24 => 349 | 25 => 350 | 26 => 351 | 27 => 352 | 46 => 357 | 47 => 329 | 48 => 330 | 49 => 358 | 50 => 359 | 57 => 362 | n => n, fun | 22 => 274 | 24 => 176 | 25 => 279 | 3 => 3 | 39 => 108 | 0 => 0 | 53 => 292 | 55 => 104 | 4 => 4 | 46 => 285 | 45 => 284 | 50 => 242 | 5 => 5 | 9 => 9 | 66 => 306 | 70 => 309 | 76 => 323 | 77 => 62 | n => n, fun | n => n⟩
theorem Tryz.sortB : Go.Proofs.SlLaysF0.n6 Tryz.prog Tryz.sortB_ren := {
 mixed := by kernel_rfl
 f6 := ⟨Tryz.f325.name, by decide, Tryz.func325.trans (congrArg some (by kernel_rfl))⟩
 f14 := ⟨Tryz.f337.name, by decide, Tryz.func337.trans (congrArg some (by kernel_rfl))⟩
 f15 := Tryz.func249.trans (congrArg some (by kernel_rfl))
 f20 := ⟨Tryz.f345.name, by decide, Tryz.func345.trans (congrArg some (by kernel_rfl))⟩
 f21 := ⟨Tryz.f346.name, by decide, Tryz.func346.trans (congrArg some (by kernel_rfl))⟩
 f22 := ⟨Tryz.f347.name, by decide, Tryz.func347.trans (congrArg some (by kernel_rfl))⟩
 f23 := ⟨Tryz.f348.name, by decide, Tryz.func348.trans (congrArg some (by kernel_rfl))⟩
 f24 := ⟨Tryz.f349.name, by decide, Tryz.func349.trans (congrArg some (by kernel_rfl))⟩
 f25 := ⟨Tryz.f350.name, by decide, Tryz.func350.trans (congrArg some (by kernel_rfl))⟩
 f26 := ⟨Tryz.f351.name, by decide, Tryz.func351.trans (congrArg some (by kernel_rfl))⟩
 f27 := ⟨Tryz.f352.name, by decide, Tryz.func352.trans (congrArg some (by kernel_rfl))⟩
 f28 := Tryz.func315.trans (congrArg some (by kernel_rfl))
 f29 := Tryz.func316.trans (congrArg some (by kernel_rfl))
 f46 := ⟨Tryz.f357.name, by decide, Tryz.func357.trans (congrArg some (by kernel_rfl))⟩
 f47 := Tryz.func329.trans (congrArg some (by kernel_rfl))
 f48 := Tryz.func330.trans (congrArg some (by kernel_rfl))
 f49 := ⟨Tryz.f358.name, by decide, Tryz.func358.trans (congrArg some (by kernel_rfl))⟩
 f50 := ⟨Tryz.f359.name, by decide, Tryz.func359.trans (congrArg some (by kernel_rfl))⟩
 f57 := ⟨Tryz.f362.name, by decide, Tryz.func362.trans (congrArg some (by kernel_rfl))⟩
 t0 := Tryz.underlying0
 a0 := Tryz.isAgg0
 z0 := Tryz.sizeOf0
 v0 := Tryz.zeroValue0
 t3 := Tryz.underlying3
 a3 := Tryz.isAgg3
 z3 := Tryz.sizeOf3
 v3 := Tryz.zeroValue3
 t4 := Tryz.underlying4
 a4 := Tryz.isAgg4
 z4 := Tryz.sizeOf4
 v4 := Tryz.zeroValue4
 t5 := Tryz.underlying5
 a5 := Tryz.isAgg5
 z5 := Tryz.sizeOf5
 v5 := Tryz.zeroValue5
 t9 := Tryz.underlying9
 a9 := Tryz.isAgg9
 z9 := Tryz.sizeOf9
 v9 := Tryz.zeroValue9
 t22 := Tryz.underlying274
 a22 := Tryz.isAgg274
 z22 := Tryz.sizeOf274
 v22 := Tryz.zeroValue274
 t25 := Tryz.underlying279
 a25 := Tryz.isAgg279
 z25 := Tryz.sizeOf279
 v25 := Tryz.zeroValue279
 t39 := Tryz.underlying108
 a39 := Tryz.isAgg108
 z39 := Tryz.sizeOf108
 v39 := Tryz.zeroValue108
 t45 := Tryz.underlying284
 a45 := Tryz.isAgg284
 z45 := Tryz.sizeOf284
 v45 := Tryz.zeroValue284
 t46 := Tryz.underlying285
 a46 := Tryz.isAgg285
 z46 := Tryz.sizeOf285
 v46 := Tryz.zeroValue285
 t50 := Tryz.underlying242
 a50 := Tryz.isAgg242
 z50 := Tryz.sizeOf242
 v50 := Tryz.zeroValue242
 t53 := Tryz.underlying292
 a53 := Tryz.isAgg292
 z53 := Tryz.sizeOf292
 v53 := Tryz.zeroValue292
 t55 := Tryz.underlying104
 a55 := Tryz.isAgg104
 z55 := Tryz.sizeOf104
 v55 := Tryz.zeroValue104
 t66 := Tryz.underlying306
 a66 := Tryz.isAgg306
 z66 := Tryz.sizeOf306
 v66 := Tryz.zeroValue306
 t70 := Tryz.underlying309
 a70 := Tryz.isAgg309
 z70 := Tryz.sizeOf309
 v70 := Tryz.zeroValue309
 t76 := Tryz.underlying323
 a76 := Tryz.isAgg323
 z76 := Tryz.sizeOf323
 v76 := Tryz.zeroValue323
 t77 := Tryz.underlying62
 a77 := Tryz.isAgg62
 z77 := Tryz.sizeOf62
 v77 := Tryz.zeroValue62 }
end Go.Proofs
/- slices. -/
namespace Go.Proofs.YtabenhpjgjjgnaaGreatDoor
open Go.RowKit Go.Shelf Go.Sort
set_option maxRecDepth 100000
attribute [local go_sem ↓] Go.wp_at_zero Go.wp_at_succ
def Bl : Type := { p : Int × Int // 0 ≤ p.1 ∧ p.1 ≤ 1000000 }
instance : Inhabited Bl := ⟨⟨(0, 0), by decide, by decide⟩⟩
def pcells (p : Int × Int) : List Value := [.int .i64 p.1, .int .i64 p.2]
def encBl (p : Bl) : List Value := pcells p.1
def cfBl (x y : Bl) : Int := x.1.1 - y.1.1
theorem ltBl (x y : Bl) : ltOf cfBl x y = decide (x.1.1 < y.1.1) := by
 unfold ltOf cfBl
 rw [decide_eq_decide]; omega
theorem swoBl : SWO (ltOf cfBl) where
 irrefl x := by rw [ltBl]; simp
 trans x y z h1 h2 := by rw [ltBl] at *; simp at *; omega
 ntrans x y z h1 h2 := by rw [ltBl] at *; simp at *; omega
theorem closure_any (x y : Bl) (W : World) : Calls Tryz.prog 300 #[.agg (encBl x).toArray, .agg (encBl y).toArray] W fun e w' => e = .returned (.int .i64 (cfBl x y)) ∧ w' = grow (W.drewN 0) #[.cells (encBl x).toArray 176, .cells (encBl y).toArray 176] := by
 obtain ⟨⟨a, n⟩, h0, h1⟩ := x
 obtain ⟨⟨c, m⟩, h2, h3⟩ := y
 simp only at h0 h1 h2 h3
 unfold encBl pcells cfBl
 simp only
 go_enter Tryz.func300, Tryz.ntmps300
 go_wp2_with fail
 go_ret
 exact ⟨rfl, rfl⟩
theorem cmpBl (blk off size : Nat) (w : World) : CmpLays Tryz.prog 300 #[] encBl 2 cfBl blk off size w := fun _ _ _ _ x y => (closure_any x y _).mono fun _ _ ⟨he, hw⟩ => ⟨he, 0, _, hw⟩
theorem flatK_list (l : List Bl) : (flatK encBl 2 l.toArray).toList = l.flatMap encBl := by
 apply List.ext_getElem?
 intro t
 by_cases ht : t < l.length * 2
 ·have hs : t < (flatK encBl 2 l.toArray).size := by simpa using ht
  have h1 := get_flatK encBl 2 l.toArray t (by simpa using ht)
  rw [Array.getElem?_toList, Array.getElem?_eq_getElem hs]
  rw [getElem!_pos _ t hs] at h1
  have hd : t / 2 < l.length := by omega
  have hm : t % 2 < 2 := by omega
  have h2 := flat8 encBl 2 (fun _ => rfl) l default (t / 2) (t % 2) hd hm
  rw [show t / 2 * 2 + t % 2 = t by omega] at h2
  rw [h2, h1]
  have e : (l.toArray)[t / 2]! = l.getD (t / 2) default := by simp [List.getD_eq_getElem?_getD, hd]
  rw [e]
  generalize l.getD (t / 2) default = y
  rcases (show t % 2 = 0 ∨ t % 2 = 1 by omega) with e | e <;> rw [e] <;> rfl
 ·rw [List.getElem?_eq_none (by simpa using ht), List.getElem?_eq_none]
  have : (l.flatMap encBl).length = l.length * 2 := by
   clear ht
   induction l with
   | nil => rfl
   | cons x l ih => rw [List.flatMap_cons, List.length_append, ih]; simp [encBl, pcells]; omega
  omega
theorem flatB_len (l : List Bl) : (l.flatMap encBl).length = l.length * 2 := by
 rw [← flatK_list]; simp
theorem holds_bl {w : World} {g : Nat} {cur : Array Value} {e : TypeId} {l : List Bl} (hb : w.heap[g]? = some (.cells cur e (0, 0))) (ht : cur.toList.take (l.length * 2) = l.flatMap encBl) : HoldsK encBl 2 w g 0 l.toArray := by
 unfold HoldsK
 intro j hj
 have hj' : j < l.length * 2 := by simpa using hj
 refine ⟨?_, by simp [World.frozen?, hb]⟩
 have h1 : (cur.toList.take (l.length * 2))[j]? = (l.flatMap encBl)[j]? := by rw [ht]
 rw [List.getElem?_take_of_lt hj', ← flatK_list] at h1
 simp only [World.cell?, hb, Nat.zero_add, Option.isSome_none, Bool.false_eq_true, if_false]
 rw [← Array.getElem?_toList, h1, Array.getElem?_toList, Array.getElem?_eq_getElem hj, getElem!_pos _ j hj]
 rfl
theorem own_bl {w : World} {base g cap n : Nat} {e : TypeId} {os : Array Obj} {cur : Array Value} {l : List Bl} {k : Nat} (hl : l.length = k) (hbase : base ≤ g) (hb : w.heap[g]? = some (.cells cur e (0, 0))) (h1 : k ≤ cap) (h2 : cap ≤ maxLen) (h3 : cur.size = cap * 2) :
 (sortWorldK encBl 2 w g 0 n l.toArray os).ownsRow base e 2 (.slice (some ⟨g, 0, none⟩) k cap) k (l.flatMap encBl) := by
 have hg : g < w.heap.size := (Array.getElem?_eq_some_iff.1 hb).1
 have hh : (sortWorldK encBl 2 w g 0 n l.toArray os).heap[g]? = some (.cells (putCells id 0 (flatK encBl 2 l.toArray) cur) e (0, 0)) := by
  unfold sortWorldK putRowK
  rw [heap_grow_old _ _ (by simpa using hg)]
  simp [putRow, mapBlock, Sort.ahead, Array.getElem?_modify, hb, onCells]
 refine ⟨by rw [flatB_len, hl], .inr ⟨g, cap, _, rfl, hbase, hh, h1, h2, by simp [putCells, h3], ?_⟩⟩
 rw [← hl, ← flatK_list]
 apply List.ext_getElem?
 intro j
 by_cases hj : j < l.length * 2
 ·have hjs : j < (flatK encBl 2 l.toArray).size := by simpa using hj
  rw [List.getElem?_take_of_lt hj, Array.getElem?_toList, Array.getElem?_toList]
  simp [putCells, hj, show j < cur.size by omega]
 ·rw [List.getElem?_take_eq_none (by omega), List.getElem?_eq_none (by simp; omega)]
theorem grown_bl {w : World} {g n : Nat} {os : Array Obj} (d : Array Bl) : w.grownBy (sortWorldK encBl 2 w g 0 n d os) (some g) := by
 unfold sortWorldK putRowK
 refine ⟨rfl, rfl, rfl, by simp, fun k hk hne => ?_⟩
 rw [heap_grow_old _ _ (by simpa using hk)]
 have : g ≠ k := fun e => hne (by rw [e])
 simp [putRow, mapBlock, Sort.ahead, Array.getElem?_modify, this]
theorem sort_any (g cap : Nat) (l : List Bl) (hl : l.length ≤ 100000000) (w : World) (hH : HoldsK encBl 2 w g 0 l.toArray) (hg : g < w.heap.size) :
 Calls Tryz.prog 325 #[.slice (some ⟨g, 0, none⟩) l.length cap, .func (.func 300) #[] #[]] w fun e w' => e = .returned (.tuple #[]) ∧ ∃ (d : List Bl) (n : Nat) (os : Array Obj), d.Perm l ∧ (d.Pairwise fun x y => x.1.1 ≤ y.1.1) ∧ w' = sortWorldK encBl 2 w g 0 n d.toArray os := by
 have eg : ∀ args w, (callFunc 300 args).run Tryz.prog w = .ok (.enter 300 args) w := enters_of Tryz.func300 (by kernel_rfl) rfl
 have hcon := AnyQ.slices_SortFunc Tryz.sortB 2 Tryz.isAgg176 Tryz.sizeOf176 encBl (fun _ => rfl) (fun x v hv => by simp [encBl, pcells] at hv; rcases hv with rfl | rfl <;> rfl) cfBl swoBl 300 #[] g 0 cap l.toArray w eg (cmpBl g 0 l.toArray.size w) hH hg (by simp; omega)
 change Calls Tryz.prog 325 _ _ _ at hcon
 refine hcon.mono ?_
 rintro e w' ⟨he, d', n, os, ⟨hs, _, hp⟩, hso, hw⟩
 have e1 : d'.extract 0 l.toArray.size = d' := by rw [← hs]; exact Array.extract_size
 rw [e1, Array.extract_size] at hp
 refine ⟨he, d'.toList, n, os, hp, ?_, hw⟩
 rw [List.pairwise_iff_getElem]
 intro i j hi hj hij
 have hi' : i < d'.size := by simpa using hi
 have hj' : j < d'.size := by simpa using hj
 have := hso i j (Nat.zero_le _) hij (by omega)
 rw [getElem!_pos d' j hj', getElem!_pos d' i hi', ltBl, decide_eq_false_iff_not] at this
 simp only [Array.getElem_toList]
 omega
end Go.Proofs.YtabenhpjgjjgnaaGreatDoor
