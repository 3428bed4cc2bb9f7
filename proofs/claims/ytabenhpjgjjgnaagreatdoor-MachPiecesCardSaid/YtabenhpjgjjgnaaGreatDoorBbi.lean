/- slices. The library's sort of words, and a heap's numbers in order. What a law of the machine does not run. Two machines side by side, of which the first is run by pieces. Condition: what lies in memory can lie there; what each theorem says. -/
import Derived.Test.YtabenhpjgjjgnaaGreatDoorBbh
import Derived.Test.YtabenhpjgjjgnaaGreatDoorBbg
import Derived.RangeFuncBox
import Derived.RangeFuncCalls
import Derived.Maps.AppendAt
/- slices. -/
namespace Go.Proofs.YtabenhpjgjjgnaaGreatDoor
open Go.RowKit Go.Shelf
set_option maxRecDepth 100000
attribute [local go_sem] Oper.semAt_some
def ucells (x : Nat × Int × Int) : List Value := [.int .u16 (x.1 : Int)]
theorem infoU16 : (Tryz.prog.info? 50).map (fun i => (i.zero, i.size, i.bytes)) = some (some (.int .u16 0), 1, 2) := by kernel_rfl
theorem one_newU (w : World) (a : Int) (t : TypeId) : ∀ j u, ([.int .u16 a] : List Value)[j]? = some u → (w.alloc (.cells #[.int .u16 a] t)).cell? ((⟨w.heap.size, 0, none⟩ : Addr).add j) = some u := by
 intro j u hj
 rw [WideShapes.add_plain]
 have := (Bx.new w #[.int .u16 a] t).cell (0 + j)
 rw [this, ← hj, Nat.zero_add, List.getElem?_toArray]
set_option maxHeartbeats 2000000 in
theorem appendSeqU (F : Fence) (n : Nat) (h11 : F.fn 247) (hro : F.round = none) (hn : 2 ≤ n) (g : Nat) (lb : Array Value) (hFg : F.fn g) (eg : ∀ args w, (callFunc g args).run Tryz.prog w = .ok (.enter g args) w)
 (S Sp : List (Nat × Int × Int) → Prop) (N : Nat) (hN : N ≤ 100000000) (w : World) (hseq : SeqStopsK F (n - 1) Tryz.prog g lb (fun x => #[bkey x]) KeepsWalks S Sp N w) :
 CallsIn F n Tryz.prog 247 #[.slice none 0 0, .func (.func g) #[] lb] w fun e w' => ∃ v xs, e = .returned v ∧ S xs ∧ w'.ownsRow w.heap.size 50 1 v xs.length (xs.flatMap ucells) ∧ Below w.heap.size w w' := by
 have h1 : 1 ≤ n := by omega
 obtain ⟨i0, hi, hz0, hz1, hz2⟩ := info_parts infoU16
 have HS := Lib.hid hseq
 clear hseq
 refine callsIn_of_wp_marks Tryz.func247 rfl h11 ?_ hro
 simp only [Tryz.ntmps247, List.size_toArray, List.length_cons, List.length_nil, Nat.reduceAdd, Nat.reduceSub, Array.replicate_succ, Array.replicate_zero, List.push_toArray, List.append_toArray, List.nil_append, List.cons_append]
 gi_wp2
 have bO := Boxed.new w 40 (.slice none 0 0)
 have hB0 : Below w.heap.size w (w.alloc (.cells #[.slice none 0 0] 40)) := (Below.refl _ w).alloc (Nat.le_refl _) _
 refine wpIn_rangeFunc_ownH hro h1 (gf := g) (lb := lb) rfl hFg eg HS.out walksK_t walksK_b hB0 (fun _ => rfl)
  (fun pre W => (∃ v, Boxed W w.heap.size 40 v ∧ W.ownsRow w.heap.size 50 1 v pre.length (pre.flatMap ucells) ∧ True) ∧ (Below w.heap.size w W ∧ pre.length ≤ N))
  (fun _ _ _ => False)
  (OwnFrom.and (Own.from (holdsRow_own w.heap.size w.heap.size 40 50 1 (fun pre : List (Nat × Int × Int) => pre.length) (fun pre => pre.flatMap ucells) (fun _ _ => True)) _) (OwnFrom.and (ownFrom_below (Nat.le_refl _) (by simp)) (fun _ _ _ _ hs _ _ => hs)))
  (fun _ _ _ _ _ hs _ _ => hs)
  ⟨⟨_, bO, World.ownsRow_nil _ _ _ _, trivial⟩, hB0, Nat.zero_le _⟩
  (fun x a' _ => a' = { tmps := #[.slice none 0 0, .func (.func g) #[] lb, .pointer (some ⟨w.heap.size, 0, none⟩), undef, .slice none 0 0, .int .u16 (x.1 : Int), .func (.func g) #[] lb, .int .u16 (x.1 : Int), undef, undef, undef, undef, undef], defers := [] })
  (fun _ _ _ _ _ _ hs _ _ => hs)
  ?assign ?body ?done ?stop
 case assign =>
  rintro l pre x W K ⟨⟨v, hv, hrow, _⟩, hB, hle⟩ hK
  have HK := Lib.hid hK
  clear hK
  dsimp only [bkey]
  gi_wp2
  exact HK.out _ _ ((KeepsOthers.refl _).from _) (KeepsWalks.refl _) ⟨⟨v, hv, hrow, trivial⟩, hB, hle⟩ rfl
 case body =>
  rintro l pre x a' W hl _ ⟨⟨v, hv, hrow, _⟩, hB, hle⟩ rfl hlt
  have hc := hv.cell
  have HL := Lib.hid hlt
  have HR := Lib.hid hrow
  have HB := Lib.hid hB
  have HV := Lib.hid hv
  clear hv hrow hB hlt
  gi_wp2_with (gi_at_builtin; refine wpListIn_append_own _ rfl _ _ 40 rfl w.heap.size 50 i0 (.int .u16 0) 1 2 Tryz.underlying40 hi hz0 hz1 hz2 rfl (by decide) _ _ _ rfl (HR.out.alloc _) ⟨W.heap.size, 0, none⟩ 1 1 [.int .u16 (x.1 : Int)] rfl rfl (one_newU _ _ _) (by intro u hu; simp at hu; subst hu; rfl) (by unfold maxLen; omega) (by omega) (by have := HB.out.size; simp; omega) ?_; intro v' w1 hown' hgrow _; obtain ⟨g', cap', rfl⟩ := ownsRow_succ hown'; obtain ⟨hv1, hv2, hr2, hk2, hb2⟩ := HV.out.appended (by decide) HR.out HB.out.size (Nat.le_refl _) hown' hgrow; have hc1 := hv1.cell; have hf1 := hv1.frozen; have HV2 := Lib.hid hv2; have HR2 := Lib.hid hr2; have HK2 := Lib.hid hk2; have HB2 := Lib.hid hb2; clear hown' hgrow hv1 hv2 hr2 hk2 hb2)
  refine ⟨HK2.out.from _, ⟨HK2.out.size, fun k o h hw => HK2.out.same k o h (Obj.not_cells_of_walk hw)⟩, ⟨_, HV2.out, ?_, trivial⟩, HB.out.trans HB2.out, by have := HL.out; simp; omega⟩
  have := HR2.out
  rw [List.length_append, List.flatMap_append]
  simpa [ucells] using this
 case done =>
  rintro D ys W hD hS ⟨⟨v, hv, hrow, _⟩, hB, _⟩ hK
  have hc := hv.cell
  gi_wp2
  refine ⟨by simp, .inl ⟨_, _, rfl, run_takeDeferred hK, ?_⟩⟩
  exact ⟨_, results_tmp rfl _ _ _, v, ys, rfl, hS, ownsRow_putObj hrow _ hK rfl, hB.trans (belowK_b (w := w) (Nat.le_refl _) W D _ _ (by simp at hD; omega) hK rfl rfl)⟩
 case stop =>
  rintro D c pre W _ _ h _
  exact h.elim
theorem collectU (F : Fence) (n : Nat) (h8 : F.fn 204) (h11 : F.fn 247) (hro : F.round = none) (hn : 3 ≤ n) (g : Nat) (lb : Array Value) (hFg : F.fn g) (eg : ∀ args w, (callFunc g args).run Tryz.prog w = .ok (.enter g args) w)
 (S Sp : List (Nat × Int × Int) → Prop) (N : Nat) (hN : N ≤ 100000000) (w : World) (hseq : SeqStopsK F (n - 1 - 1) Tryz.prog g lb (fun x => #[bkey x]) KeepsWalks S Sp N w) :
 CallsIn F n Tryz.prog 204 #[.func (.func g) #[] lb] w fun e w' => ∃ v xs, e = .returned v ∧ S xs ∧ w'.ownsRow w.heap.size 50 1 v xs.length (xs.flatMap ucells) ∧ Below w.heap.size w w' := by
 have h1 : 1 ≤ n := by omega
 have HC := Lib.hid (appendSeqU F (n - 1) h11 hro (by omega) g lb hFg eg S Sp N hN w hseq)
 clear hseq
 refine callsIn_of_wp Tryz.func204 rfl h8 ?_ hro
 simp only [Tryz.ntmps204, List.size_toArray, List.length_cons, List.length_nil, Nat.reduceAdd, Nat.reduceSub, Array.replicate_succ, Array.replicate_zero, List.push_toArray, List.append_toArray, List.nil_append, List.cons_append]
 gi_wp2_with (gi_at_call 247; refine (HC.out).mono ?_; rintro e w' ⟨v, xs, rfl, hS, hrow, hb⟩)
 go_ret
 exact ⟨v, xs, rfl, hS, hrow, hb⟩
end Go.Proofs.YtabenhpjgjjgnaaGreatDoor
/- The library's sort of words, and a heap's numbers in order. -/
namespace Go.Proofs.YtabenhpjgjjgnaaGreatDoor
open Go.RowKit
set_option maxRecDepth 100000
attribute [local go_sem ↓] Go.wp_at_zero Go.wp_at_succ
theorem bitLen_small (x : Nat) : Lib.bitLen x ≤ 64 := by
 have h : ∀ (f x : Nat), Lib.bitLenAux f x ≤ f := by
  intro f
  induction f with
  | zero => intro x; exact Nat.le_refl _
  | succ f ih => intro x; unfold Lib.bitLenAux; split; exact Nat.zero_le _; have := ih (x / 2); omega
 exact h 64 x
theorem sort_u (blk off n cap : Nat) (hn : n ≤ 1000000000) (W : World) (hR : RowU blk off n W) :
 Calls Tryz.prog 205 #[.slice (some ⟨blk, off, none⟩) n cap] W fun e w' => e = .returned (.tuple #[]) ∧ Fr blk off n W w' := by
 have H1 := Lib.hid (Tryz.bits_Len (n : Int) W (by omega) (by omega))
 have H2 := Lib.hid (pdq_u blk off n cap hn (n + 1) 0 n (Lib.bitLen n) W (by omega) (Nat.zero_le _) (Nat.le_refl _) (by have := bitLen_small n; omega) hR)
 clear hR
 go_enter Tryz.func205, Tryz.ntmps205
 go_wp2_with fail
 refine H1.out.mono ?_
 rintro e w1 ⟨rfl, rfl⟩
 rw [Int.toNat_natCast]
 go_wp2_with fail
 refine H2.out.mono ?_
 rintro e w1 ⟨rfl, hF⟩
 have HF := Lib.hid hF
 clear H1 H2 hF
 go_wp2_with fail
 go_end0
 exact ⟨rfl, HF.out⟩
theorem ins_none (W : World) : Calls Tryz.prog 306 #[.slice none 0 0, .int .i64 0, .int .i64 0] W fun e w' => e = .returned (.tuple #[]) ∧ w' = W := by
 go_enter Tryz.func306, Tryz.ntmps306
 go_wp2_with fail
 refine wp_loop_rounds 1 ?_
 rw [rounds_succ]
 go_wp2_with fail
 go_end0
 exact ⟨rfl, rfl⟩
theorem pdq_none (W : World) : Calls Tryz.prog 248 #[.slice none 0 0, .int .i64 0, .int .i64 0, .int .i64 0] W fun e w' => e = .returned (.tuple #[]) ∧ w' = W := by
 go_enter Tryz.func248, Tryz.ntmps248
 go_wp2_with fail
 refine wp_loop_rounds 1 ?_
 rw [rounds_succ]
 go_wp2_with (go_at_call 306; refine (ins_none _).mono ?_; rintro e w' ⟨rfl, rfl⟩)
 (try simp only [Exit.inBlock, Exit.then]); refine bodyPost_ret (results_none rfl _ _ _) rfl ?_
 exact ⟨rfl, rfl⟩
theorem sort_none (W : World) : Calls Tryz.prog 205 #[.slice none 0 0] W fun e w' => e = .returned (.tuple #[]) ∧ w' = W := by
 have H1 := Lib.hid (Tryz.bits_Len 0 W (by omega) (by omega))
 go_enter Tryz.func205, Tryz.ntmps205
 go_wp2_with fail
 refine H1.out.mono ?_
 rintro e w1 ⟨rfl, rfl⟩
 rw [show ((Lib.bitLen (0 : Int).toNat : Nat) : Int) = 0 from rfl]
 go_wp2_with (go_at_call 248; refine (pdq_none _).mono ?_; rintro e w' ⟨rfl, rfl⟩)
 go_end0
 exact ⟨rfl, rfl⟩
theorem ucells_get : ∀ (xs : List (Nat × Int × Int)) (t : Nat), t < xs.length → ∃ x : Int, (xs.flatMap ucells)[t]? = some (.int .u16 x)
 | [], t, h => by simp at h
 | x :: xs, 0, _ => ⟨x.1, rfl⟩
 | x :: xs, t + 1, h => by
   obtain ⟨y, e⟩ := ucells_get xs t (by simpa using h)
   exact ⟨y, by simpa [List.flatMap_cons, ucells] using e⟩
set_option maxHeartbeats 1000000 in
theorem sorted_u (l : List (Nat × Int × Int)) (hl : l.length ≤ 100000000) (Bm q : Nat) (w : World) (hBm : Bm < w.heap.size) (hm : w.cell? ⟨Bm, 0, none⟩ = some (.map (some q))) (hB : BlocksAt q l w) :
 Calls Tryz.prog 118 #[.func (.func 206) #[] #[.pointer (some ⟨Bm, 0, none⟩)]] w fun e w' => ∃ A cap, e = .returned (.slice A l.length cap) ∧ Below w.heap.size w w' := by
 have HC := Lib.hid (callsIn_wide.1 (collectU Fence.wide 5 trivial trivial rfl (by omega) 206 _ trivial (enters_of Tryz.func206 (by kernel_rfl) rfl) _ _ l.length hl w (keys_stops Fence.wide 3 trivial rfl (by omega) Bm q l w hBm hm hB)))
 clear hBm hm hB
 go_enter Tryz.func118, Tryz.ntmps118
 go_wp2_with fail
 refine (HC.out).mono ?_
 rintro e w1 ⟨v, xs, rfl, hp, hrow, hb⟩
 have hlen := hp.length_eq
 have HB := Lib.hid hb
 clear hb hp HC
 rcases hrow.2 with ⟨rfl, hz⟩ | ⟨gb, cap, cur, rfl, hbase, hgb, r1, r2, r3, r4⟩
 ·have hl0 : l.length = 0 := by omega
  have HL := Lib.hid hl0
  have HS := Lib.hid (sort_none w1)
  clear hrow hz hlen hl0
  go_wp2_with fail
  refine HS.out.mono ?_
  rintro e w2 ⟨rfl, rfl⟩
  go_wp2_with fail
  go_ret
  exact ⟨none, 0, by rw [HL.out]; rfl, HB.out⟩
 ·have hR : RowU gb 0 xs.length w1 := by
   refine ⟨cur, _, hgb, fun t ht => ?_⟩
   obtain ⟨x, e⟩ := ucells_get xs t ht
   refine ⟨x, ?_⟩
   rw [Nat.zero_add, ← Array.getElem?_toList, ← e, ← r4, List.getElem?_take_of_lt (by omega)]
  have HS := Lib.hid (sort_u gb 0 xs.length cap (by omega) w1 hR)
  have HBA := Lib.hid hbase
  have HLE := Lib.hid hlen
  clear hrow hbase hgb r1 r2 r3 r4 hR hlen
  go_wp2_with fail
  refine HS.out.mono ?_
  rintro e w2 ⟨rfl, hF⟩
  have HF := Lib.hid hF
  clear HS hF
  go_wp2_with fail
  go_ret
  exact ⟨some ⟨gb, 0, none⟩, cap, by rw [HLE.out]; rfl, HB.out.trans (HF.out.only.below HB.out.size (fun b hb => by rw [List.mem_singleton.1 hb]; exact HBA.out))⟩
theorem live_any (K : MK) (S : St) (hl : S.blocks.length ≤ 100000000) (W : World) (h : HpAt K S W) : Calls Tryz.prog 51 #[.pointer (some ⟨K.bh, 0, none⟩)] W fun e w' => ∃ A cap, e = .returned (.slice A S.blocks.length cap) ∧ Below W.heap.size W w' := by
 have HN := Lib.hid (hnone_any K S W h)
 obtain ⟨_, _, _, c3⟩ := h.c
 have HV := Lib.hid (callsIn_wide.1 (keys_any Fence.wide 1 trivial rfl (some K.bq) W))
 have HS := Lib.hid (sorted_u S.blocks hl W.heap.size K.bq (W.alloc (.cells #[.map (some K.bq)] 122)) (by simp) (((Bx.new W #[.map (some K.bq)] 122).cell 0).trans rfl) (h.map.later ((alloc_below W _).block _ h.map.lt)))
 have HB0 := Lib.hid (alloc_below W (.cells #[.map (some K.bq)] 122))
 have hbh : K.bh < W.heap.size := h.box.lt
 clear h
 go_enter Tryz.func51, Tryz.ntmps51
 go_wp2_with fail
 refine (HN.out).mono ?_
 rintro e w1 ⟨rfl, rfl⟩
 go_wp2_with fail
 refine (HV.out).mono ?_
 rintro e w1 ⟨rfl, rfl⟩
 go_wp2_with fail
 refine (HS.out).mono ?_
 rintro e w2 ⟨A, cap, rfl, hb⟩
 have HB := Lib.hid (HB0.out.trans (hb.mono HB0.out.size))
 clear HN HV HS hb HB0
 go_wp2_with fail
 go_ret
 exact ⟨A, cap, rfl, HB.out⟩
theorem blocks_any (K : MK) (S : St) (hl : S.blocks.length ≤ 100000000) (W : World) (h : HpAt K S W) (c4 : W.cell? ⟨K.b, 4, none⟩ = some (.pointer (some ⟨K.bh, 0, none⟩))) : Calls Tryz.prog 20 #[.pointer (some ⟨K.b, 0, none⟩)] W fun e w' => e = .returned (.int .i64 S.blocks.length) ∧ Below W.heap.size W w' := by
 have HL := Lib.hid (live_any K S hl W h)
 clear h
 go_enter Tryz.func20, Tryz.ntmps20
 go_wp2_with fail
 refine (HL.out).mono ?_
 rintro e w2 ⟨A, cap, rfl, hb⟩
 have HB := Lib.hid hb
 clear HL hb
 go_wp2_with fail
 go_ret
 exact ⟨rfl, HB.out⟩
end Go.Proofs.YtabenhpjgjjgnaaGreatDoor
/- What a law of the machine does not run. -/
namespace Go.Proofs.YtabenhpjgjjgnaaGreatDoor
open Go.RowKit
set_option maxRecDepth 100000
attribute [local go_sem ↓] Go.wp_at_zero Go.wp_at_succ
def HvEnd (w : World) (m o i : Nat) (e : Ending) (w' : World) : Prop := ∃ hv : Bool, e = .returned (.bool hv) ∧ (hv = false → m ≤ 70 ∧ o ≤ 100 ∧ i ≤ 32768) ∧ Below w.heap.size w w'
set_option maxHeartbeats 4000000 in
theorem heavy_any (A2 A3 : Option Addr) (c2 c3 : Nat) (ms : List ModL) (o : List Int) (st hp ou : Int) (inp : List UInt8) (fuel : Int) (w : World) (hM : Mods w A2 ms) :
 Calls Tryz.prog 6 #[.agg #[.slice A2 ms.length c2, .slice A3 o.length c3], .agg #[.int .i64 st, .int .i64 hp, .int .i64 ou], .string ⟨inp.toArray⟩, .int .i64 fuel] w (HvEnd w ms.length o.length inp.length) := by
 have HB1 := Lib.hid (alloc_below w (.cells #[.slice A2 ms.length c2, .slice A3 o.length c3] 25))
 have HX1 := Lib.hid (Bx.new w #[.slice A2 ms.length c2, .slice A3 o.length c3] 25)
 have HM := Lib.hid hM
 clear hM
 go_enter Tryz.func6, Tryz.ntmps6
 go_upto_region 1 with fail
 have HB2 := Lib.hid (HB1.out.trans ((alloc_below (w.alloc (.cells #[.slice A2 ms.length c2, .slice A3 o.length c3] 25)) (.cells #[.int .i64 st, .int .i64 hp, .int .i64 ou] 27)).mono HB1.out.size))
 have HX2 := Lib.hid (HX1.out.grow (alloc_below (w.alloc (.cells #[.slice A2 ms.length c2, .slice A3 o.length c3] 25)) (.cells #[.int .i64 st, .int .i64 hp, .int .i64 ou] 27)))
 clear HB1 HX1
 generalize (w.alloc (.cells #[.slice A2 ms.length c2, .slice A3 o.length c3] 25)).alloc (.cells #[.int .i64 st, .int .i64 hp, .int .i64 ou] 27) = w2 at *
 have c0 : w2.cell? ⟨w.heap.size, 0, none⟩ = some (.slice A2 ms.length c2) := (HX2.out.cell 0).trans rfl
 have c1 : w2.cell? ⟨w.heap.size, 1, none⟩ = some (.slice A3 o.length c3) := (HX2.out.cell 1).trans rfl
 go_wp2_with fail
 any_goals
  go_ret
  exact ⟨true, rfl, fun h => (by cases h), HB2.out⟩
 go_loopg [9, 10] ms.length (fun g n i wr => ∃ k x : Nat, k + g = ms.length ∧ i = .int .i64 k ∧ n = .int .i64 x ∧ x ≤ k * 1000000 ∧ Below w2.heap.size w2 wr)
 case atStart => exact ⟨0, 0, by omega, rfl, rfl, by omega, Below.refl _ _⟩
 case round =>
  obtain ⟨k, x, hk, rfl, rfl, hx, hb⟩ := hrel
  have HB := Lib.hid hb
  have d0 : wr.cell? ⟨w.heap.size, 0, none⟩ = some (.slice A2 ms.length c2) := (hb.cell (p := ⟨w.heap.size, 0, none⟩) (lt_of_cell c0)).trans c0
  have HBw := Lib.hid (HB2.out.trans (hb.mono HB2.out.size))
  clear hb
  by_cases hlt : k < ms.length
  ·obtain ⟨b, off, hA2, hbl, hP⟩ := Each.at_ (HM.out.later HBw.out (Nat.le_refl _)) hlt
   generalize ms.getD k default = m at *
   obtain ⟨s, hI, m0, m1, m2, m3, m4⟩ := hP
   subst hA2
   clear hI
   have hkI : (k : Int) < (ms.length : Int) := by omega
   go_upto_region 8 with fail
   have HB4 := Lib.hid (alloc_below wr (.cells #[.string ⟨m.code.toArray⟩, .slice s.A1 m.procs.length s.c1, .slice s.A2 m.imports.length s.c2, .int .i64 m.data, .slice s.A3 m.init.length s.c3] 68))
   have HX4 := Lib.hid (Bx.new wr #[.string ⟨m.code.toArray⟩, .slice s.A1 m.procs.length s.c1, .slice s.A2 m.imports.length s.c2, .int .i64 m.data, .slice s.A3 m.init.length s.c3] 68)
   have HB5 := Lib.hid (HB.out.trans (HB4.out.mono HB.out.size))
   have HBw5 := Lib.hid (HBw.out.trans (HB4.out.mono HBw.out.size))
   generalize wr.alloc (.cells #[.string ⟨m.code.toArray⟩, .slice s.A1 m.procs.length s.c1, .slice s.A2 m.imports.length s.c2, .int .i64 m.data, .slice s.A3 m.init.length s.c3] 68) = w5 at *
   clear m0 m1 m2 m3 m4 HB4 HB HBw
   generalize wr.heap.size = b5 at *
   have m0 : w5.cell? ⟨b5, 0, none⟩ = some (.string ⟨m.code.toArray⟩) := (HX4.out.cell 0).trans rfl
   have m1 : w5.cell? ⟨b5, 1, none⟩ = some (.slice s.A1 m.procs.length s.c1) := (HX4.out.cell 1).trans rfl
   have m2 : w5.cell? ⟨b5, 2, none⟩ = some (.slice s.A2 m.imports.length s.c2) := (HX4.out.cell 2).trans rfl
   have m4 : w5.cell? ⟨b5, 4, none⟩ = some (.slice s.A3 m.init.length s.c3) := (HX4.out.cell 4).trans rfl
   by_cases g1 : 131072 < m.code.length ∨ 2048 < m.procs.length ∨ 512 < m.imports.length ∨ 131072 < m.init.length
   ·by_cases g2 : 131072 < m.code.length
    ·have i1 : (131072 : Int) < (m.code.length : Int) := by omega
     go_wp2_with fail
     go_ret
     exact ⟨true, rfl, fun h => (by cases h), HBw5.out⟩
    ·have i1 : ¬ (131072 : Int) < (m.code.length : Int) := by omega
     by_cases g3 : 2048 < m.procs.length
     ·have i2 : (2048 : Int) < (m.procs.length : Int) := by omega
      go_wp2_with fail
      go_ret
      exact ⟨true, rfl, fun h => (by cases h), HBw5.out⟩
     ·have i2 : ¬ (2048 : Int) < (m.procs.length : Int) := by omega
      by_cases g4 : 512 < m.imports.length
      ·have i3 : (512 : Int) < (m.imports.length : Int) := by omega
       go_wp2_with fail
       go_ret
       exact ⟨true, rfl, fun h => (by cases h), HBw5.out⟩
      ·have i3 : ¬ (512 : Int) < (m.imports.length : Int) := by omega
       have i4 : (131072 : Int) < (m.init.length : Int) := by omega
       go_wp2_with fail
       go_ret
       exact ⟨true, rfl, fun h => (by cases h), HBw5.out⟩
   ·have i1 : ¬ (131072 : Int) < (m.code.length : Int) := by omega
    have i2 : ¬ (2048 : Int) < (m.procs.length : Int) := by omega
    have i3 : ¬ (512 : Int) < (m.imports.length : Int) := by omega
    have i4 : ¬ (131072 : Int) < (m.init.length : Int) := by omega
    have hb8 : x + m.code.length + m.procs.length + m.init.length ≤ (k + 1) * 1000000 := by omega
    have hms : ms.length ≤ 70 := by omega
    have hx9 : x + m.code.length + m.procs.length + m.init.length ≤ 71000000 := by omega
    go_wp2_with fail
    go_roundg (gk - 1)
    case measure => omega
    case rel => exact ⟨k + 1, x + m.code.length + m.procs.length + m.init.length, by omega, by go_num, by go_num, hb8, HB5.out⟩
  ·obtain rfl : k = ms.length := by omega
   have hkI : ¬ ((ms.length : Nat) : Int) < (ms.length : Int) := by omega
   go_wp2_with fail
   go_ret
   exact ⟨_, rfl, fun _ => (by omega), HBw.out⟩
theorem AtW.cell {K : MK} {S : St} {W : World} (h : AtW K S W) : W.cell? ⟨K.b, 3, none⟩ = some (.pointer (some ⟨K.bm, 0, none⟩)) ∧ W.cell? ⟨K.b, 4, none⟩ = some (.pointer (some ⟨K.bh, 0, none⟩)) ∧ W.cell? ⟨K.b, 10, none⟩ = some (.int .i64 S.mod) ∧ W.cell? ⟨K.b, 12, none⟩ = some (.int .i64 S.at_) ∧ W.cell? ⟨K.b, 17, none⟩ = some (.int .i64 S.depth) ∧
 W.cell? ⟨K.b, 18, none⟩ = some (.int .u8 S.kind) ∧ W.cell? ⟨K.b, 19, none⟩ = some (.int .u8 S.trap) ∧ W.cell? ⟨K.b, 20, none⟩ = some (.int .i64 S.steps) := by
 obtain ⟨cs, hx, A, c, a, rfl⟩ := h.box
 exact ⟨(hx.cell 3).trans rfl, (hx.cell 4).trans rfl, (hx.cell 10).trans rfl, (hx.cell 12).trans rfl, (hx.cell 17).trans rfl, (hx.cell 18).trans rfl, (hx.cell 19).trans rfl, (hx.cell 20).trans rfl⟩
theorem where_any (K : MK) (S : St) (W : World) (h : AtW K S W) : Calls Tryz.prog 18 #[.pointer (some ⟨K.b, 0, none⟩)] W fun e w' => e = .returned (.tuple #[.int .i64 S.mod, .int .i64 S.at_]) ∧ Below W.heap.size W w' := by
 obtain ⟨_, _, c10, c12, _⟩ := h.cell
 clear h
 go_enter Tryz.func18, Tryz.ntmps18
 go_wp2_with fail
 go_big_quiet (fail)
 go_wp2_with fail
 go_ret2
 exact ⟨rfl, rfl, rfl, rfl, Nat.le_refl _, fun _ _ => rfl⟩
theorem depth_any (K : MK) (S : St) (W : World) (h : AtW K S W) : Calls Tryz.prog 19 #[.pointer (some ⟨K.b, 0, none⟩)] W fun e w' => e = .returned (.int .i64 S.depth) ∧ w' = W := by
 obtain ⟨_, _, _, _, c17, _⟩ := h.cell
 clear h
 go_enter Tryz.func19, Tryz.ntmps19
 go_wp2_with fail
 go_ret
 exact ⟨rfl, rfl⟩
theorem wordAt_any (K : MK) (S : St) (i : Int) (W : World) (h : AtW K S W) : Calls Tryz.prog 12 #[.pointer (some ⟨K.b, 0, none⟩), .int .i64 i] W (LoadEnd W (loadM K.n S.ws i) (inM K.n i)) := by
 obtain ⟨c3, _⟩ := h.cell
 have HL := Lib.hid (load_any K.bm K.n S.ws i W h.mem)
 clear h
 go_enter Tryz.func12, Tryz.ntmps12
 go_wp2_with fail
 refine HL.out.mono ?_
 rintro e w' ⟨rfl, hb⟩
 have HB := Lib.hid hb
 clear HL hb
 go_wp2_with fail
 go_ret2
 exact ⟨rfl, HB.out⟩
theorem below_set3 {W w : World} (h : Below W.heap.size W w) (u v x : Value) : Below W.heap.size W (((w.setCell ⟨W.heap.size, 0, none⟩ u).setCell ⟨W.heap.size, 1, none⟩ v).setCell ⟨W.heap.size, 2, none⟩ x) :=
 ⟨h.os, h.tape, h.output, by rw [setCell_size, setCell_size, setCell_size]; exact h.size, fun k hk => (set3_at w _ u v x k (by omega)).trans (h.block k hk)⟩
theorem stop_any (K : MK) (S : St) (n : Int) (W : World) (h : AtW K S W) (hs : S.kind = 0 → n ≤ S.steps) : Calls Tryz.prog 10 #[.pointer (some ⟨K.b, 0, none⟩), .int .i64 n] W fun e w' => e = .returned (.agg (eE S)) ∧ Below W.heap.size W w' := by
 obtain ⟨c3, _, _, _, _, c18, c19, c20⟩ := h.cell
 have hlt := lt_of_cell c3
 have HB := Lib.hid (alloc_below W (.cells #[.int .u8 0, .int .u8 0, .int .i64 0] 38))
 have HX := Lib.hid (Bx.new W #[.int .u8 0, .int .u8 0, .int .i64 0] 38)
 have HC := Lib.hid h
 clear h
 go_enter Tryz.func10, Tryz.ntmps10
 go_wp2_with fail
 have d18 := ((HB.out).cell (p := ⟨K.b, 18, none⟩) hlt).trans c18
 have d19 := ((HB.out).cell (p := ⟨K.b, 19, none⟩) hlt).trans c19
 have d20 := ((HB.out).cell (p := ⟨K.b, 20, none⟩) hlt).trans c20
 have hx0 : (W.alloc (.cells #[.int .u8 0, .int .u8 0, .int .i64 0] 38)).cell? ⟨W.heap.size, 0, none⟩ = some (.int .u8 0) := (HX.out.cell 0).trans rfl
 have hx1 : (W.alloc (.cells #[.int .u8 0, .int .u8 0, .int .i64 0] 38)).cell? ⟨W.heap.size, 1, none⟩ = some (.int .u8 0) := (HX.out.cell 1).trans rfl
 have hx2 : (W.alloc (.cells #[.int .u8 0, .int .u8 0, .int .i64 0] 38)).cell? ⟨W.heap.size, 2, none⟩ = some (.int .i64 0) := (HX.out.cell 2).trans rfl
 have hxf := HX.out.frozen
 have hxl := HX.out.lt
 clear c3 c18 c19 c20
 generalize W.alloc (.cells #[.int .u8 0, .int .u8 0, .int .i64 0] 38) = w0 at *
 refine wp_loop_rounds 1 ?_
 rw [rounds_succ]
 by_cases hk : S.kind = 0
 ·have hst := hs hk
  rw [hk] at d18
  have HE2 := Lib.hid (show endOf S = (3, 0, S.steps) by unfold endOf; rw [if_pos hk])
  have d : decide (S.steps < n) = false := decide_eq_false (by omega)
  have hX3 := Lib.hid (((HX.out.set 0 (.int .u8 (3 : Nat))).set 1 (.int .u8 (0 : Nat))).set 2 (.int .i64 S.steps))
  clear hst hs
  go_wp2_with fail
  refine run_ret3 hX3.out rfl rfl ?_
  unfold eE
  rw [HE2.out]
  exact ⟨rfl, below_set3 HB.out _ _ _⟩
 ·have d : ((S.kind : Int) == 0) = false := beq_eq_false_iff_ne.2 (by omega)
  have HE2 := Lib.hid (show endOf S = (S.kind, S.trap, S.steps) by unfold endOf; rw [if_neg hk])
  have hX3 := Lib.hid (((HX.out.set 0 (.int .u8 (S.kind : Nat))).set 1 (.int .u8 (S.trap : Nat))).set 2 (.int .i64 S.steps))
  clear hs
  go_wp2_with fail
  refine run_ret3 hX3.out rfl rfl ?_
  unfold eE
  rw [HE2.out]
  exact ⟨rfl, below_set3 HB.out _ _ _⟩
set_option maxHeartbeats 1000000 in
theorem new_bad (bs0 : List Nat) (A2 A3 : Option Addr) (c2 c3 : Nat) (ms : List ModL) (o : List Int) (hck : checkB ms o = false) (hms : ms.length ≤ 140737488355328) (ho : o.length ≤ 140737488355328) (st hp out : Int) (inp : List UInt8) (W : World) (hMm : Mods W A2 ms) (hO : Ints W A3 o) (R : Ending → World → Prop)
 (hrest : ∀ e w', NewAll bs0 ms o (dataL 1 ms) (firstL 1 ms) st hp out inp W e w' → R e w') :
 Calls Tryz.prog 8 #[.agg #[.slice A2 ms.length c2, .slice A3 o.length c3], .agg #[.int .i64 st, .int .i64 hp, .int .i64 out], .string ⟨inp.toArray⟩] W R := by
 have HB1 := Lib.hid (alloc_below W (.cells #[.slice A2 ms.length c2, .slice A3 o.length c3] 25))
 have HX1 := Lib.hid (Bx.new W #[.slice A2 ms.length c2, .slice A3 o.length c3] 25)
 have HM := Lib.hid hMm
 have HO := Lib.hid hO
 have HR := Lib.hid hrest
 have HCK := Lib.hid hck
 clear hMm hO hrest hck
 go_enter Tryz.func8, Tryz.ntmps8
 go_upto_region 1 with fail
 have HB2 := Lib.hid (HB1.out.trans ((alloc_below (W.alloc (.cells #[.slice A2 ms.length c2, .slice A3 o.length c3] 25)) (.cells #[.int .i64 st, .int .i64 hp, .int .i64 out] 27)).mono HB1.out.size))
 have HX2 := Lib.hid (HX1.out.grow (alloc_below (W.alloc (.cells #[.slice A2 ms.length c2, .slice A3 o.length c3] 25)) (.cells #[.int .i64 st, .int .i64 hp, .int .i64 out] 27)))
 clear HB1 HX1
 generalize (W.alloc (.cells #[.slice A2 ms.length c2, .slice A3 o.length c3] 25)).alloc (.cells #[.int .i64 st, .int .i64 hp, .int .i64 out] 27) = w2 at *
 have c0 : w2.cell? ⟨W.heap.size, 0, none⟩ = some (.slice A2 ms.length c2) := (HX2.out.cell 0).trans rfl
 have c1 : w2.cell? ⟨W.heap.size, 1, none⟩ = some (.slice A3 o.length c3) := (HX2.out.cell 1).trans rfl
 go_wp2_with fail
 refine (check_any A2 A3 c2 c3 ms o hms ho _ (HM.out.later HB2.out (Nat.le_refl _)) (HO.out.later HB2.out (Nat.le_refl _))).mono ?_
 rintro e w3 ⟨k, rfl, hb⟩
 rw [errMod_false HCK.out]
 have HB3 := Lib.hid (HB2.out.trans (hb.mono HB2.out.size))
 clear hb c0 c1
 go_wp2_with fail
 exact HR.out _ _ (.inl ⟨200, .inl rfl, by unfold newErr; rw [if_pos HCK.out], rfl, HB3.out⟩)
theorem new_all (bs0 : List Nat) (A2 A3 : Option Addr) (c2 c3 : Nat) (ms : List ModL) (o : List Int) (hms : ms.length ≤ 140737488355328) (hol : o.length ≤ 1000) (st hp out : Int) (hst0 : -9223372036854775808 ≤ st) (hst1 : st ≤ 9223372036854775807) (hhp0 : -9223372036854775808 ≤ hp) (hhp1 : hp ≤ 9223372036854775807) (hou0 : -9223372036854775808 ≤ out) (hou1 : out ≤ 9223372036854775807) (inp : List UInt8) (hil : inp.length ≤ 1000000) (W : World) (hb0 : ∀ x ∈ bs0, x < W.heap.size) (hMm : Mods (mask bs0 W) A2 ms) (hO : Ints W A3 o) (R : Ending → World → Prop)
 (hrest : ∀ e w', NewAll bs0 ms o (dataL 1 ms) (firstL 1 ms) st hp out inp W e w' → R e w') :
 Calls Tryz.prog 8 #[.agg #[.slice A2 ms.length c2, .slice A3 o.length c3], .agg #[.int .i64 st, .int .i64 hp, .int .i64 out], .string ⟨inp.toArray⟩] W R := by
 cases hck : checkB ms o with
 | true => exact new_rows bs0 A2 A3 c2 c3 ms o hck hol st hp out hst0 hst1 hhp0 hhp1 hou0 hou1 inp hil W hb0 hMm hO R hrest
 | false => exact new_bad bs0 A2 A3 c2 c3 ms o hck hms (by omega) st hp out inp W (hMm.reads (mask_reads bs0 W)) hO R hrest
end Go.Proofs.YtabenhpjgjjgnaaGreatDoor
/- Two machines side by side, of which the first is run by pieces. -/
namespace Go.Proofs.YtabenhpjgjjgnaaGreatDoor
open Go.RowKit
set_option maxRecDepth 100000
attribute [local go_sem ↓] Go.wp_at_zero Go.wp_at_succ
theorem Only.wide {bs bs' : List Nat} {W W' : World} (h : Only bs W W') (hs : ∀ b ∈ bs, b ∈ bs') : Only bs' W W' := by
 refine ⟨h.os, h.tape, h.output, by have := h.size; rw [mask_size, mask_size]; exact this, fun k hk => ?_⟩
 by_cases hb : k ∈ bs'
 ·rw [mask_in _ _ hb hk, mask_in _ _ hb (Nat.lt_of_lt_of_le hk h.size)]
 ·rw [mask_at _ _ hb, mask_at _ _ hb]; exact h.block hk (fun e => hb (hs k e))
theorem mask_perm20 {bs bs' : List Nat} (h : ∀ b, b ∈ bs ↔ b ∈ bs') (W : World) : mask bs W = mask bs' W := by
 unfold mask
 congr 1
 apply Array.ext_getElem?
 intro k
 rw [Array.getElem?_mapIdx, Array.getElem?_mapIdx]
 simp only [h k]
theorem At.same {K : MK} {bs bs' : List Nat} {S : St} {W : World} (h : At { K with bs := bs } S W) (hs : ∀ b, b ∈ bs ↔ b ∈ bs') : At { K with bs := bs' } S W := by
 have e := mask_perm20 hs W
 obtain ⟨A, c, h1, h2, h3⟩ := h.box
 exact ⟨⟨A, c, h1, by rw [← e]; exact h2, h3⟩, h.term, h.mem, ⟨h.hp.box, h.hp.map⟩, by rw [← e]; exact h.mods, by rw [← e]; exact h.order, by rw [← e]; exact h.data, by rw [← e]; exact h.first, fun b hb => h.old b ((hs b).2 hb)⟩
theorem At.widen {K : MK} {S : St} {W W' : World} {b : Nat} (h : At K S W) (hb : Below W.heap.size W W') (h1 : W.heap.size ≤ b) (h2 : b < W'.heap.size) : At { K with bs := K.bs ++ [b] } S W' := by
 have hw := mask_wide (bs0 := K.bs) (bs := [b]) hb (Nat.le_refl _) (fun x hx => by rw [List.mem_singleton.1 hx]; exact h1)
 obtain ⟨A, c, q1, q2, q3⟩ := h.box
 obtain ⟨re, im, hre, q4⟩ := h.term
 have hz : (mask K.bs W).heap.size ≤ W.heap.size := by rw [mask_size]; exact Nat.le_refl _
 exact ⟨⟨A, c, q1.grow hb, q2.later hw hz, q3⟩, ⟨re, im, hre, q4.grow hb⟩, h.mem.grow hb, ⟨h.hp.box.grow hb, h.hp.map.later (hb.block _ h.hp.map.lt)⟩, h.mods.later hw hz, h.order.later hw hz, h.data.later hw hz, h.first.later hw hz, fun x hx => by
  rcases List.mem_append.1 hx with q | q
  ·exact Nat.lt_of_lt_of_le (h.old x q) hb.size
  ·rw [List.mem_singleton.1 q]; exact h2⟩
structure Pc (A B : MK) (SA SB : St) (W0 W6 : World) (W : World) : Prop where
 hb : Below W0.heap.size W0 W
 a : ∃ x, At A { SA with args := x } W
 oa : Only A.bs W6 W
 b : At { B with bs := (A.bs ++ [W6.heap.size]) ++ B.bs } SB W
structure Pd (A B : MK) (SA SB : St) (W0 : World) (W : World) : Prop where
 hb : Below W0.heap.size W0 W
 a : AtW A SA W
 b : AtW B SB W
 old : ∀ b ∈ A.bs ++ B.bs, b < W.heap.size
structure Rn2 (A B : MK) (S : St) (W0 W6 : World) : Prop where
 ka : KOk A
 kb : KOk B
 fa : KFacts A
 fb : KFacts B
 ra : Rest A S
 rb : Rest B S
 hok : HOk A.high A.hn S.last S.blocks
 s0 : S.steps = 0
 env : Env W0
 la : ∀ b ∈ A.bs, W0.heap.size ≤ b
 lb : ∀ b ∈ B.bs, W0.heap.size ≤ b
 ab : ∀ b ∈ B.bs, b ∉ A.bs
 h6 : ∃ S6, At A S6 W6
 l6 : W0.heap.size ≤ W6.heap.size
 b6 : ∀ b ∈ A.bs ++ B.bs, b < W6.heap.size
section
variable {A B : MK} {S SA SB : St} {W0 W6 W W' : World}
theorem Pc.grow (h : Pc A B SA SB W0 W6 W) (hb : Below W.heap.size W W') : Pc A B SA SB W0 W6 W' :=
 ⟨h.hb.trans (hb.mono h.hb.size), h.a.imp fun _ q => q.grow hb, h.oa.trans (Only.of_below hb), h.b.grow hb⟩
theorem Pd.grow (h : Pd A B SA SB W0 W) (ka : KOk A) (kb : KOk B) (hb : Below W.heap.size W W') : Pd A B SA SB W0 W' :=
 ⟨h.hb.trans (hb.mono h.hb.size), h.a.later (fun b hm => hb.block b (h.old b (List.mem_append_left _ hm))) ka, h.b.later (fun b hm => hb.block b (h.old b (List.mem_append_right _ hm))) kb, fun b hm => Nat.lt_of_lt_of_le (h.old b hm) hb.size⟩
theorem Pc.aw (h : Pc A B SA SB W0 W6 W) : AtW A SA W := by
 obtain ⟨x, q⟩ := h.a
 exact AtW.of_at q
theorem run_pc {n : Int} (r : Rn2 A B S W0 W6) (hn : n ≤ 1000000) (hr : Rest A SA) (hs : SA.steps ≤ 1000000) (h : Pc A B SA SB W0 W6 W) : Calls Tryz.prog 10 #[.pointer (some ⟨A.b, 0, none⟩), .int .i64 n] W fun e w' => e = .returned (.agg (eE (runF A n SA))) ∧ Pc A B (runF A n SA) SB W0 W6 w' ∧ Only A.bs W w' := by
 obtain ⟨x, ha⟩ := h.a
 refine (run_all A r.ka r.fa n hn SA hr hs x W ha (envK24 r.env h.hb r.la)).mono ?_
 rintro e w' ⟨rfl, ho, a, hA⟩
 refine ⟨rfl, ⟨h.hb.trans (ho.below h.hb.size r.la), ⟨a, hA⟩, h.oa.trans ho, ?_⟩, ho⟩
 refine h.b.apart r.kb (ho.wide fun b hb => List.mem_append_left _ hb) (fun b hb hm => ?_)
 rcases List.mem_append.1 hm with q | q
 ·exact r.ab b hb q
 ·have := r.b6 b (List.mem_append_right _ hb); rw [List.mem_singleton.1 q] at this; omega
theorem Pc.set3 {y0 y1 y2 : Int} (r : Rn2 A B S W0 W6) (h : Pc A B SA SB W0 W6 W) (hx : Bx W6.heap.size #[.int .u8 y0, .int .u8 y1, .int .i64 y2] 38 W) (u v : Value) (x : Int) : Pc A B SA SB W0 W6 (((W.setCell ⟨W6.heap.size, 0, none⟩ u).setCell ⟨W6.heap.size, 1, none⟩ v).setCell ⟨W6.heap.size, 2, none⟩ (.int .i64 x)) := by
 obtain ⟨a, ha⟩ := h.a
 obtain ⟨S6, h6⟩ := r.h6
 have hn : W6.heap.size ∉ A.bs := fun hm => by have := r.b6 _ (List.mem_append_left _ hm); omega
 obtain ⟨a2, ha2⟩ := at_set3 r.ka h6 h.oa ha hx hn u v x
 have ho : Only [W6.heap.size] W (((W.setCell ⟨W6.heap.size, 0, none⟩ u).setCell ⟨W6.heap.size, 1, none⟩ v).setCell ⟨W6.heap.size, 2, none⟩ (.int .i64 x)) :=
  (((Only.refl _ W).setCell (a := ⟨W6.heap.size, 0, none⟩) (List.mem_singleton.2 rfl) u).setCell (a := ⟨W6.heap.size, 1, none⟩) (List.mem_singleton.2 rfl) v).setCell (a := ⟨W6.heap.size, 2, none⟩) (List.mem_singleton.2 rfl) _
 refine ⟨h.hb.trans (ho.below h.hb.size (fun b hb => by rw [List.mem_singleton.1 hb]; exact r.l6)), ⟨a2, ha2⟩, only3 h.oa u v _, ?_⟩
 refine h.b.apart r.kb (ho.wide fun b hb => List.mem_append_right _ hb) (fun b hb hm => ?_)
 rcases List.mem_append.1 hm with q | q
 ·exact r.ab b hb q
 ·have := r.b6 b (List.mem_append_right _ hb); rw [List.mem_singleton.1 q] at this; omega
theorem run_pd {n : Int} (r : Rn2 A B S W0 W6) (hn : n ≤ 1000000) (h : Pc A B SA S W0 W6 W) : Calls Tryz.prog 10 #[.pointer (some ⟨B.b, 0, none⟩), .int .i64 n] W fun e w' => e = .returned (.agg (eE (runF B n S))) ∧ Pd A B SA (runF B n S) W0 w' ∧ Only B.bs W w' := by
 obtain ⟨x, ha⟩ := h.a
 refine (run_all B r.kb r.fb n hn S r.rb (by have := r.s0; omega) S.args W h.b.less (envK24 r.env h.hb r.lb)).mono ?_
 rintro e w' ⟨rfl, ho, a2, hB⟩
 exact ⟨rfl, ⟨h.hb.trans (ho.below h.hb.size r.lb), (AtW.of_at ha).apart r.ka ho ha.old (fun b hm hm2 => r.ab b hm2 hm), AtW.of_at hB, fun b hb => by
  rcases List.mem_append.1 hb with q | q
  ·exact Nat.lt_of_lt_of_le (ha.old b q) ho.size
  ·exact hB.old b q⟩, ho⟩
end
theorem run_piece {K : MK} (k : KOk K) {S : St} (r : Rest K S) (hs : S.steps = 0) {f g : Int} (h0 : 0 ≤ f) (hfg : f ≤ g) : runF K g (runF K f S) = runF K g S := by
 have e1 : (f - S.steps).toNat = f.toNat := by omega
 have e2 : (g - S.steps).toNat = f.toNat + (g - f).toNat := by omega
 unfold runF
 rw [e1, e2, run_add]
 by_cases hk : (runM K f.toNat S).kind = 0
 ·obtain ⟨_, _, _, h4⟩ := run_rest k f.toNat r
  have := h4 hk
  rw [show (g - (runM K f.toNat S).steps).toNat = (g - f).toNat by omega]
 ·rw [run_stop K _ hk, run_stop K _ hk]
theorem run_facts {K : MK} (k : KOk K) {S : St} (r : Rest K S) (hs : S.steps = 0) {f : Int} (h0 : 0 ≤ f) :
 Rest K (runF K f S) ∧ (runF K f S).steps ≤ f ∧ ((runF K f S).kind = 0 → (runF K f S).steps = f) ∧ (endOf (runF K f S)).2.2 ≤ f ∧ ((endOf (runF K f S)).1 = 3 → (endOf (runF K f S)).2.2 = f) ∧ (endOf (runF K f S)).1 ≠ 0 ∧ (endOf (runF K f S)).1 ≤ 3 := by
 have e1 : (f - S.steps).toNat = f.toNat := by omega
 obtain ⟨h1, h2, h3, h4⟩ := run_rest k f.toNat r
 unfold runF
 rw [e1]
 have hk := h1.kin
 have hst : (runM K f.toNat S).steps ≤ f := by omega
 refine ⟨h1, hst, fun h => by have := h4 h; omega, ?_⟩
 unfold endOf
 split
 ·rename_i h
  have := h4 h
  exact ⟨hst, fun _ => by show (runM K f.toNat S).steps = f; omega, (by show (3 : Nat) ≠ 0; decide), Nat.le_refl 3⟩
 ·rename_i h
  exact ⟨hst, fun h3 => by (have h3' : (runM K f.toNat S).kind = 3 := h3); omega, h, by show (runM K f.toNat S).kind ≤ 3; omega⟩
theorem run_out {K : MK} (k : KOk K) {S : St} (r : Rest K S) (hs : S.steps = 0) {f g : Int} (h0 : 0 ≤ f) (hfg : f ≤ g) : (runF K f S).out <+: (runF K g S).out := by
 rw [← run_piece k r hs h0 hfg]
 exact (run_rest k _ (run_facts k r hs h0).1).2.1
theorem run_hok {K : MK} (k : KOk K) : ∀ (n : Nat) {S : St}, Rest K S → HOk K.high K.hn S.last S.blocks → HOk K.high K.hn (runM K n S).last (runM K n S).blocks
 | 0, S, _, h => h
 | n + 1, S, r, h => by
   by_cases hk : S.kind ≠ 0
   ·rw [run_stop K _ hk]; exact h
   ·have hk0 : S.kind = 0 := by omega
    have hs := r.ste
    rw [run_succ, if_neg hk]
    have q := res_step k (by omega) (r.inv hk0).tick
    unfold runR
    split
    ·exact q.inv.hp
    ·rename_i ht
     obtain ⟨r', e, x⟩ := rest_step k r hk0 (by simpa using ht)
     exact run_hok k n r' q.inv.hp
theorem start_hok (K : MK) (inp : List UInt8) : HOk K.high K.hn (startG K inp).last (startG K inp).blocks := by
 have e : (startG K inp).last = 0 ∧ (startG K inp).blocks = [] := by
  have z0 : (zeroG (initAll K.n 1 K.mods (fun _ => 0)) inp).last = 0 ∧ (zeroG (initAll K.n 1 K.mods (fun _ => 0)) inp).blocks = [] := ⟨rfl, rfl⟩
  unfold startG
  generalize zeroG (initAll K.n 1 K.mods (fun _ => 0)) inp = z at *
  unfold trapG beginsM
  split
  ·exact z0
  ·split <;> exact z0
 rw [e.1, e.2]
 exact ⟨fun x hx => (by cases hx), Int.le_refl _, by decide, fun x hx => (by cases hx), .nil, .nil⟩
theorem run_zero {K : MK} {S : St} (hs : S.steps = 0) : runF K 0 S = S := by unfold runF; rw [hs]; rfl
theorem hok_len {fr hn last : Int} {l : List (Nat × Int × Int)} (hk : HOk fr hn last l) : l.length ≤ 100000000 := by
 have hn := hk.once
 have h1 := hk.last1
 have := List.Nodup.length_le_of_subset (l₁ := l.map (·.1)) (l₂ := List.range 65536) hn (fun x hx => by
  obtain ⟨y, hy, rfl⟩ := List.mem_map.1 hx
  have := hk.num y hy
  rw [List.mem_range]; omega)
 rw [List.length_map, List.length_range] at this
 omega
end Go.Proofs.YtabenhpjgjjgnaaGreatDoor
