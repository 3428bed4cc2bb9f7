/- Where a heap's new block has room. A heap makes a block. A machine's new. Condition: what lies in memory can lie there; what each theorem says. -/
import Derived.Test.YtabenhpjgjjgnaaGreatDoorBbb
import Derived.Test.YtabenhpjgjjgnaaGreatDoorBax
import Derived.Test.YtabenhpjgjjgnaaGreatDoorBal
import Derived.Test.YtabenhpjgjjgnaaGreatDoorBba
import Derived.Deep.RegionHeld3
import Derived.Outline
import Derived.Deep.QuietTactic
import Derived.BigQuiet
/- Where a heap's new block has room. -/
namespace Go.Proofs.YtabenhpjgjjgnaaGreatDoor
open Go.RowKit Go.Shelf Go.Sort
set_option maxRecDepth 100000
attribute [local go_sem ↓] Go.wp_at_zero Go.wp_at_succ
def toBl (p : Int × Int) : Bl := ⟨if 0 ≤ p.1 ∧ p.1 ≤ 1000000 then p else (0, 0), by
 by_cases h : 0 ≤ p.1 ∧ p.1 ≤ 1000000
 ·rw [if_pos h]; exact h
 ·rw [if_neg h]; decide⟩
theorem toBl_val {p : Int × Int} (h : 0 ≤ p.1 ∧ p.1 ≤ 1000000) : (toBl p).1 = p := if_pos h
set_option maxHeartbeats 1000000 in
theorem sortedFunc_any (fr hn last : Int) (l : List (Nat × Int × Int)) (hk : HOk fr hn last l) (hfr : 0 ≤ fr) (hfn : fr + hn ≤ 1000000) (hl : l.length ≤ 100000000) (Bm q : Nat) (w : World) (hBm : Bm < w.heap.size) (hm : w.cell? ⟨Bm, 0, none⟩ = some (.map (some q))) (hB : BlocksAt q l w) :
 Calls Tryz.prog 298 #[.func (.func 326) #[] #[.pointer (some ⟨Bm, 0, none⟩)], .func (.func 300) #[] #[]] w fun e w' => ∃ v, e = .returned v ∧ w'.ownsRow w.heap.size 176 2 v (rowsOf l).length ((rowsOf l).flatMap pcells) ∧ Below w.heap.size w w' := by
 have hbd : ∀ x ∈ l, 0 ≤ x.2.1 ∧ x.2.1 ≤ 1000000 := fun x hx => by have := hk.lie x hx; omega
 have HC := Lib.hid (callsIn_wide.1 (collect_any Fence.wide 5 trivial trivial rfl (by omega) 326 _ trivial (enters_of Tryz.func326 (by kernel_rfl) rfl) _ _ l.length hl w (values_stops Fence.wide 3 trivial rfl (by omega) Bm q l w hBm hm hB)))
 clear hBm hm hB
 have HK := Lib.hid hk
 have HBD := Lib.hid hbd
 clear hk hbd
 go_enter Tryz.func298, Tryz.ntmps298
 go_wp2_with fail
 refine (HC.out).mono ?_
 rintro e w1 ⟨v, xs, rfl, hp, hrow, hb⟩
 have hlen := hp.length_eq
 have HP := Lib.hid hp
 have hxs : ∀ x ∈ xs, 0 ≤ x.2.1 ∧ x.2.1 ≤ 1000000 := fun x hx => HBD.out x (hp.mem_iff.1 hx)
 have hrl : (rowsOf l).length = l.length := by rw [(rowsOf_perm l).length_eq, List.length_map]
 have hbl : (xs.map fun x => toBl x.2).flatMap encBl = xs.flatMap bcells := by
  clear hp hrow hlen hrl HP
  induction xs with
  | nil => rfl
  | cons x xs ih =>
    rw [List.map_cons, List.flatMap_cons, List.flatMap_cons, ih (fun y hy => hxs y (List.mem_cons_of_mem _ hy))]
    congr 1
    show pcells (toBl x.2).1 = _
    rw [toBl_val (hxs x (List.mem_cons_self ..))]
    rfl
 have HB := Lib.hid hb
 have hll : (xs.map fun x => toBl x.2).length = xs.length := List.length_map _
 have HLS := Lib.hid (show (xs.map fun x => toBl x.2).map (·.1) = xs.map (·.2) by
  rw [List.map_map]
  exact List.map_congr_left (fun x hx => toBl_val (hxs x hx)))
 clear hxs
 generalize (xs.map fun x => toBl x.2) = ls at *
 rcases hrow.2 with ⟨rfl, hz⟩ | ⟨gb, cap, cur, rfl, hbase, hgb, r1, r2, r3, r4⟩
 ·have hl0 : l = [] := List.eq_nil_of_length_eq_zero (by omega)
  have hS := AnyF.slices_SortFunc_none Tryz.sortB none 0 (.func (.func 300) #[] #[]) w1
  change Calls Tryz.prog 325 _ _ _ at hS
  have HS := Lib.hid hS
  have HR := Lib.hid hrow
  clear hp hrow hlen hrl hbl hS hb hll
  go_wp2_with fail
  refine (HS.out).mono ?_
  rintro e w2 ⟨rfl, rfl⟩
  go_wp2_with fail
  go_ret
  subst hl0
  have hx0 : xs = [] := List.eq_nil_of_length_eq_zero (by have := HP.out.length_eq; simpa using this)
  subst hx0
  exact ⟨_, rfl, by simpa [rowsOf] using HR.out, HB.out⟩
 ·rw [← hbl] at r4
  have hH : HoldsK encBl 2 w1 gb 0 ls.toArray := holds_bl hgb (by rw [hll]; exact r4)
  have hgl : gb < w1.heap.size := (Array.getElem?_eq_some_iff.1 hgb).1
  have hS := sort_any gb cap ls (by omega) w1 hH hgl
  rw [hll] at hS
  have HS := Lib.hid hS
  have HG := Lib.hid hgb
  have R1 := Lib.hid r1
  have R2 := Lib.hid r2
  have R3 := Lib.hid r3
  have HBA := Lib.hid hbase
  have HHL := Lib.hid hll
  have HRL := Lib.hid hrl
  have HLE := Lib.hid hlen
  clear hp hrow hbl hb hH hgl hS hgb r1 r2 r3 r4 hll hrl hlen hbase
  go_wp2_with fail
  refine (HS.out).mono ?_
  rintro e w2 ⟨rfl, d, n, os, hd, hds, rfl⟩
  have hdl := hd.length_eq
  have hdm : d.map (·.1) = rowsOf l := by
   refine rows_one HK.out ?_ ?_
   ·refine (hd.map (·.1)).trans ?_
    rw [HLS.out]
    exact HP.out.map _
   ·rw [List.pairwise_map]; exact hds
  have HO := Lib.hid (own_bl (n := n) (os := os) (l := d) (k := xs.length) (by rw [hdl, HHL.out]) HBA.out HG.out R1.out R2.out R3.out)
  have HGR := Lib.hid (HB.out.grown (grown_bl (n := n) (os := os) d.toArray) HB.out.size (fun j hj => by cases hj; exact HBA.out))
  have HDM := Lib.hid hdm
  clear hd hds hdl hdm
  generalize sortWorldK encBl 2 w1 gb 0 n d.toArray os = w3 at *
  go_wp2_with fail
  go_ret
  refine ⟨_, rfl, ?_, HGR.out⟩
  have e : (rowsOf l).flatMap pcells = d.flatMap encBl := by rw [← HDM.out, List.flatMap_map]; rfl
  rw [e, HRL.out, ← HLE.out]
  exact HO.out
theorem etBlocks : ET Tryz.prog 274 176 2 16 := et_of (z := .agg #[.int .i64 0, .int .i64 0]) Tryz.underlying274 (by kernel_rfl) rfl (by omega)
theorem src_blk (w : World) (a n : Int) : Src Tryz.prog 2 274 (.slice (some ⟨w.heap.size, 0, none⟩) 1 1) 1 [.int .i64 a, .int .i64 n] (w.alloc (.cells #[.int .i64 a, .int .i64 n] 176)) := by
 have := src_new etBlocks w #[.int .i64 a, .int .i64 n] 176 1 1 rfl (by intro u hu; simp at hu; rcases hu with rfl | rfl <;> rfl)
 simpa using this
theorem drewNN_below (B : Nat) (w : World) (n : Nat) : RowKit.Below B w (w.drewN n) := ⟨rfl, rfl, rfl, Nat.le_refl _, fun _ _ => rfl⟩
theorem gap_nil (x n : Int) : gapsM x n [] = x := rfl
theorem gap_stop {x n : Int} {b : Int × Int} {l : List (Int × Int)} (h : n ≤ b.1 - x) : gapsM x n (b :: l) = x := if_pos h
theorem gap_on {x n : Int} {b : Int × Int} {l : List (Int × Int)} (h : ¬ n ≤ b.1 - x) : gapsM x n (b :: l) = gapsM (b.1 + b.2) n l := if_neg h
theorem drop_get {α : Type} (l : List α) (k : Nat) (d : α) (h : k < l.length) : l.drop k = l.getD k d :: l.drop (k + 1) := by
 rw [List.drop_eq_getElem_cons h, List.getD_eq_getElem?_getD, List.getElem?_eq_getElem h, Option.getD_some]
set_option maxHeartbeats 4000000 in
theorem place_any (K : MK) (k : KOk K) (S : St) (hk : HOk K.high K.hn S.last S.blocks) (n : Int) (h1 : 1 ≤ n) (h2 : n ≤ 1000000) (W : World) (h : HpAt K S W) : Calls Tryz.prog 215 #[.pointer (some ⟨K.bh, 0, none⟩), .int .i64 n] W (fun e w' => e = .returned (.tuple #[.int .i64 (placeM K.high K.hn S.blocks n).1, .bool (placeM K.high K.hn S.blocks n).2]) ∧ Below W.heap.size W w') := by
 have kn := k.n_le
 have kl := k.low1
 have klh := k.lowh
 have kh0 := k.hn0
 have kh1 := k.hn1
 have kh := k.high
 have hfr : 0 ≤ K.high := by omega
 have hfn : K.high + K.hn ≤ 1000000 := by omega
 have hh0 : 0 ≤ K.hn := kh0
 have hbl : S.blocks.length ≤ 100000000 := by
  have hn := hk.once
  have h1 := hk.last1
  have := List.Nodup.length_le_of_subset (l₁ := S.blocks.map (·.1)) (l₂ := List.range 65536) hn (fun x hx => by
   obtain ⟨y, hy, rfl⟩ := List.mem_map.1 hx
   have := hk.num y hy
   rw [List.mem_range]; omega)
  rw [List.length_map, List.length_range] at this
  omega
 have HRW := Lib.hid (rows_all hk kh0)
 have HRL := Lib.hid (show (rowsOf S.blocks).length ≤ 100000000 by rw [(rowsOf_perm S.blocks).length_eq, List.length_map]; exact hbl)
 have HPM := Lib.hid (show placeM K.high K.hn S.blocks n = (gapsM K.high n (rowsOf S.blocks ++ [(K.high + K.hn, 0)]), decide (n ≤ K.high + K.hn - gapsM K.high n (rowsOf S.blocks ++ [(K.high + K.hn, 0)]))) from rfl)
 have c0 : W.cell? ⟨K.bh, 0, none⟩ = some (.int .i64 K.high) := (h.box.cell 0).trans rfl
 have c3 : W.cell? ⟨K.bh, 3, none⟩ = some (.map (some K.bq)) := (h.box.cell 3).trans rfl
 have HX := Lib.hid (show Bx K.bh #[.int .i64 K.high, .int .i64 K.hn, .int .i64 S.last, .map (some K.bq)] 124 W from h.box)
 have hV := values_any Fence.wide 1 trivial rfl (some K.bq) W
 have hS := sortedFunc_any K.high K.hn S.last S.blocks hk hfr hfn hbl W.heap.size K.bq (W.alloc (.cells #[.map (some K.bq)] 122)) (by simp) (((Bx.new W #[.map (some K.bq)] 122).cell 0).trans rfl) (h.map.later ((alloc_below W _).block _ h.map.lt))
 have HV := Lib.hid (callsIn_wide.1 hV)
 have HS := Lib.hid hS
 have HB0 := Lib.hid (alloc_below W (.cells #[.map (some K.bq)] 122))
 have hbh : K.bh < W.heap.size := h.box.lt
 clear hV hS hk h k kn kl klh kh0 kh1 kh hbl
 generalize placeM K.high K.hn S.blocks n = pm at *
 generalize hfrE : K.high = fr at *
 generalize hhnE : K.hn = hn at *
 generalize rowsOf S.blocks = rows at *
 clear hfrE hhnE
 go_enter Tryz.func215, Tryz.ntmps215
 go_wp2_with fail
 go_step3
 go_wp2_with fail
 refine (HV.out).mono ?_
 rintro e w1 ⟨rfl, rfl⟩
 go_wp2_with fail
 refine (HS.out).mono ?_
 rintro e w2 ⟨v, rfl, hrow, hb⟩
 have HB2 := Lib.hid (HB0.out.trans (hb.mono HB0.out.size))
 have HX2 := Lib.hid (HX.out.grow HB2.out)
 have HR2 := Lib.hid hrow
 obtain ⟨A, c, rfl⟩ := own_slice' hrow
 clear hb hrow HB0 HX HV HS c0 c3
 go_wp2_with fail
 go_step3
 go_upto_region 3 with (fail)
 have HXd := Lib.hid (HX2.out.grow (drew_below w2))
 have HRd := Lib.hid (K16.own_later HR2.out (drew_below w2))
 have HBd := Lib.hid (HB2.out.trans ((drew_below w2).mono HB2.out.size))
 refine wp_region_held_drew (S := fun W' => W'.cell? ⟨K.bh, 0, none⟩ = some (.int .i64 fr) ∧ W'.cell? ⟨K.bh, 1, none⟩ = some (.int .i64 hn)) (by kernel_rfl) ⟨(HXd.out.cell 0).trans rfl, (HXd.out.cell 1).trans rfl⟩ (fun hHeld => ?_)
 have HZ := Lib.hid HB2.out.size
 clear HX2 HR2 HB2
 generalize w2.drew = w3 at *
 have e1 : IntKind.i64.wrap (fr + hn) = fr + hn := IntWalk.i64_in _ (by omega)
 refine wpAnyH_take (i := 0) (v := ?_) rfl (by kernel_rfl) (by kernel_rfl) (by kernel_rfl) (fun _ _ _ h => h) (Or.inl ⟨by rfl, ?_⟩) hHeld ?_
 rotate_left 1
 ·intro w9 hS9
  go_simp
  try with_reducible rfl
 try simp only [Act.put]
 try simp only [List.setIfInBounds_toArray]
 refine wpAnyH_take (i := 1) (v := ?_) rfl (by kernel_rfl) (by kernel_rfl) (by kernel_rfl) (fun _ _ _ h => h) (Or.inl ⟨by rfl, ?_⟩) hHeld ?_
 rotate_left 1
 ·intro w9 hS9
  go_simp
  try with_reducible rfl
 try simp only [Act.put]
 try simp only [List.setIfInBounds_toArray]
 refine wpAnyH_take (i := 2) (v := ?_) rfl (by kernel_rfl) (by kernel_rfl) (by kernel_rfl) (fun _ _ _ h => h) (Or.inl ⟨by rfl, ?_⟩) hHeld ?_
 rotate_left 1
 ·intro w9 hS9
  go_simp
  try with_reducible rfl
 try simp only [Act.put]
 try simp only [List.setIfInBounds_toArray]
 refine wpAnyH_take (i := 3) (v := ?_) rfl (by kernel_rfl) (by kernel_rfl) (by kernel_rfl) (fun _ _ _ h => h) (Or.inl ⟨by rfl, ?_⟩) hHeld ?_
 rotate_left 1
 ·intro w9 hS9
  go_simp
  try with_reducible rfl
 try simp only [Act.put]
 try simp only [List.setIfInBounds_toArray]
 refine wpAnyH_take (i := 4) (v := ?_) rfl (by kernel_rfl) (by kernel_rfl) (by kernel_rfl) (fun _ _ _ h => h) (Or.inl ⟨by rfl, ?_⟩) hHeld ?_
 rotate_left 1
 ·intro w9 hS9
  have l9 := hS9.1
  go_simp
  try with_reducible rfl
 try simp only [Act.put]
 try simp only [List.setIfInBounds_toArray]
 refine wpAnyH_take (i := 5) (v := ?_) rfl (by kernel_rfl) (by kernel_rfl) (by kernel_rfl) (fun _ _ _ h => h) (Or.inl ⟨by rfl, ?_⟩) hHeld ?_
 rotate_left 1
 ·intro w9 hS9
  go_simp
  try with_reducible rfl
 try simp only [Act.put]
 try simp only [List.setIfInBounds_toArray]
 refine wpAnyH_take (i := 6) (v := ?_) rfl (by kernel_rfl) (by kernel_rfl) (by kernel_rfl) (fun _ _ _ h => h) (Or.inl ⟨by rfl, ?_⟩) hHeld ?_
 rotate_left 1
 ·intro w9 hS9
  go_simp
  try with_reducible rfl
 try simp only [Act.put]
 try simp only [List.setIfInBounds_toArray]
 refine wpAnyH_take (i := 7) (v := ?_) rfl (by kernel_rfl) (by kernel_rfl) (by kernel_rfl) (fun _ _ _ h => h) (Or.inl ⟨by rfl, ?_⟩) hHeld ?_
 rotate_left 1
 ·intro w9 hS9
  go_simp
  try with_reducible rfl
 try simp only [Act.put]
 try simp only [List.setIfInBounds_toArray]
 refine wpAnyH_take (i := 8) (v := ?_) rfl (by kernel_rfl) (by kernel_rfl) (by kernel_rfl) (fun _ _ _ h => h) (Or.inl ⟨by rfl, ?_⟩) hHeld ?_
 rotate_left 1
 ·intro w9 hS9
  have l9 := hS9.2
  go_simp
  try with_reducible rfl
 try simp only [Act.put]
 try simp only [List.setIfInBounds_toArray]
 refine wpAnyH_take (i := 9) (v := ?_) rfl (by kernel_rfl) (by kernel_rfl) (by kernel_rfl) (fun _ _ _ h => h) (Or.inl ⟨by rfl, ?_⟩) hHeld ?_
 rotate_left 1
 ·intro w9 hS9
  go_simp
  try with_reducible rfl
 try simp only [Act.put]
 try simp only [List.setIfInBounds_toArray]
 refine wpAnyH_take (i := 10) (v := ?_) rfl (by kernel_rfl) (by kernel_rfl) (by kernel_rfl) (fun _ _ _ h => h) (Or.inl ⟨by rfl, ?_⟩) hHeld ?_
 rotate_left 1
 ·intro w9 hS9
  go_simp
  try with_reducible rfl
 try simp only [Act.put]
 try simp only [List.setIfInBounds_toArray]
 refine wpAnyH_take (i := 14) (v := ?_) rfl (by kernel_rfl) (by kernel_rfl) (by kernel_rfl) (fun _ _ _ h => h) (Or.inl ⟨by rfl, ?_⟩) hHeld ?_
 rotate_left 1
 ·intro w9 hS9
  go_simp
  try with_reducible rfl
 try simp only [Act.put]
 try simp only [List.setIfInBounds_toArray]
 clear e1
 refine wpAnyH_ready (rs := [11]) (by kernel_rfl) (by simp) ?_
 refine AllReadyH.cons rfl (fun K' hK => ?_) AllReadyH.nil
 go_simp
 have HXe := Lib.hid (HXd.out.grow (alloc_below w3 (.cells #[.int .i64 (fr + hn), .int .i64 0] 176)))
 refine hK.out _ _ ⟨(HXe.out.cell 0).trans rfl, (HXe.out.cell 1).trans rfl⟩ (fun hHeld => ?_)
 clear hK K'
 try simp only [Act.put]
 try simp only [List.setIfInBounds_toArray]
 refine wpAnyH_ready (rs := [12]) (by kernel_rfl) (by simp) ?_
 refine AllReadyH.cons rfl (fun K' hK => ?_) AllReadyH.nil
 refine step_app etBlocks (by rfl) _ _ (by rfl) _ _ rows.length (rows.flatMap pcells) (by rfl) (HRd.out.alloc _) (.slice (some ⟨w3.heap.size, 0, none⟩) 1 1) 1 [.int .i64 (fr + hn), .int .i64 0] (by rfl) (src_blk w3 _ _) (by have := HRL.out; omega) (by have := HRL.out; unfold maxLen; omega) (by have := HRd.out; have := HBd.out.size; simp; omega) ?_
 intro v4 w4 hA
 obtain ⟨A4, c4, rfl⟩ := own_slice' hA.own
 have HA := Lib.hid hA
 have HRB := Lib.hid (fun k hk => HRd.out.lt k hk)
 have hne : some K.bh ≠ (Value.slice A rows.length c).ownBlock := fun e => by have := (HRB.out _ e.symm).1; simp at this; omega
 have HX4 := Lib.hid (show Bx K.bh #[.int .i64 fr, .int .i64 hn, .int .i64 S.last, .map (some K.bq)] 124 w4 from (hA.grown.block K.bh HXe.out.lt hne).trans HXe.out)
 have HB4 := Lib.hid (hA.below (HBd.out.trans ((alloc_below w3 (.cells #[.int .i64 (fr + hn), .int .i64 0] 176)).mono HBd.out.size)) (by have := HBd.out.size; simp; omega) (HRd.out.alloc _) (by simp))
 have ho := hA.own
 have HO := Lib.hid (show w4.ownsRow (W.heap.size + 1) 176 2 (.slice A4 (rows.length + 1) c4) (rows ++ [(fr + hn, 0)]).length ((rows ++ [(fr + hn, 0)]).flatMap pcells) by
  rw [List.length_append, List.flatMap_append]
  simpa [pcells] using ho)
 clear hA ho HXe HXd HRd HBd HA HRB hne
 refine hK.out _ _ ⟨(HX4.out.cell 0).trans rfl, (HX4.out.cell 1).trans rfl⟩ (fun hHeld => ?_)
 clear hK K'
 try simp only [Act.put]
 try simp only [List.setIfInBounds_toArray]
 refine wpAnyH_ready (rs := [13]) (by kernel_rfl) (by simp) ?_
 refine AllReadyH.cons rfl (fun K' hK => ?_) AllReadyH.nil
 go_simp
 refine hK.out _ _ hHeld (fun _ => ?_)
 clear hK K' hHeld
 try simp only [Act.put]
 try simp only [List.setIfInBounds_toArray]
 refine wpAnyH_done (by kernel_rfl) ?_ _
 have HLL := Lib.hid (show (rows ++ [(fr + hn, 0)]).length = rows.length + 1 by simp)
 have HMP := Lib.hid (show 0 < rows.length + 1 by omega)
 have hml : rows.length + 1 ≤ 100000001 := by have := HRL.out; omega
 have HRW2 := Lib.hid HRW.out.2
 generalize rows ++ [(fr + hn, 0)] = rs at *
 generalize rows.length = m at *
 go_wp2_with fail
 have hmE := HLL.out
 obtain ⟨g, hge, hgl, hgc⟩ : ∃ g, A4 = some ⟨g, 0, none⟩ ∧ g < w4.heap.size ∧ ∀ j, j < m + 1 → w4.cell? ⟨g, j * 2, none⟩ = some (.int .i64 (rs.getD j default).1) ∧ w4.cell? ⟨g, j * 2 + 1, none⟩ = some (.int .i64 (rs.getD j default).2) := by
  rcases HO.out.2 with ⟨_, hz⟩ | ⟨g, cap, cur, he, _, hgb, _⟩
  ·exact absurd hz (by have := HMP.out; omega)
  ·injection he with he1 _ _
   refine ⟨g, he1, (Array.getElem?_eq_some_iff.1 hgb).1, fun j hj => ?_⟩
   have hc : ∀ t u, t < 2 → (pcells (rs.getD j default))[t]? = some u → w4.cell? ⟨g, j * 2 + t, none⟩ = some u := fun t u ht hu => by
    have := HO.out.cells (g := g) (by rw [he1]; rfl) (j * 2 + t) u (by rw [flat8 pcells 2 (fun _ => rfl) rs default j t (by omega) ht]; exact hu)
    rw [WideShapes.add_plain] at this
    simpa using this
   exact ⟨hc 0 _ (by omega) rfl, hc 1 _ (by omega) rfl⟩
 subst hge
 have HGC := Lib.hid hgc
 clear hgc hmE HO
 go_loopg [6, 34] (m + 1) (fun q x y wr => ∃ (k r : Nat) (z : Int), x = .int .i64 z ∧ y = .int .i64 (k : Nat) ∧ k + r = m + 1 ∧ r ≤ q ∧ gapsM z n (rs.drop k) = gapsM fr n rs ∧ (0 ≤ z ∧ z ≤ 1000000) ∧ RowKit.Below w4.heap.size w4 wr)
 case atStart => exact ⟨0, m + 1, fr, rfl, rfl, by omega, Nat.le_refl _, rfl, ⟨hfr, by omega⟩, RowKit.Below.refl _ _⟩
 case round =>
  obtain ⟨k, r, z, rfl, rfl, hk, hr, hgap, ⟨hz0, hz1⟩, hbr⟩ := hrel
  have HGAP := Lib.hid hgap
  have HBr := Lib.hid hbr
  have HK := Lib.hid hk
  clear hgap hbr hk
  have HXr := Lib.hid (HX4.out.grow HBr.out)
  cases r with
  | succ r =>
    have hkl : k < m + 1 := by have := HK.out; omega
    have hklI : (k : Int) < (m : Int) + 1 := by omega
    obtain ⟨e0, e1⟩ := HGC.out k hkl
    have HDG := Lib.hid (drop_get rs k default (by have := HLL.out; omega))
    have hmem := HRW2.out _ (getD_mem' rs k default (by have := HLL.out; omega))
    generalize rs.getD k default = b at *
    obtain ⟨ba, bn⟩ := b
    simp only at e0 e1 hmem
    obtain ⟨hb1, hb2, hb3⟩ := hmem
    have f0 := (HBr.out.cell (p := ⟨g, k * 2, none⟩) hgl).trans e0
    have f1 := (HBr.out.cell (p := ⟨g, k * 2 + 1, none⟩) hgl).trans e1
    have hgr : g < wr.heap.size := Nat.lt_of_lt_of_le hgl HBr.out.size
    have hsz := HBr.out.size
    clear e0 e1
    have hkI : (k : Int) ≤ 100000001 := by omega
    by_cases hs : n ≤ ba - z
    ·have ds := decide_eq_true hs
     have HS := Lib.hid (show gapsM z n (rs.drop k) = z by rw [HDG.out]; exact gap_stop hs)
     have q0 : wr.cell? ⟨K.bh, 0, none⟩ = some (.int .i64 fr) := (HXr.out.cell 0).trans rfl
     have q1 : wr.cell? ⟨K.bh, 1, none⟩ = some (.int .i64 hn) := (HXr.out.cell 1).trans rfl
     have ql := HXr.out.lt
     have HG := Lib.hid (show gapsM fr n rs = z from HGAP.out.symm.trans HS.out)
     have w1 : IntKind.i64.wrap (fr + hn) = fr + hn := IntWalk.i64_in _ (by omega)
     have w2 : IntKind.i64.wrap (fr + hn - z) = fr + hn - z := IntWalk.i64_in _ (by omega)
     clear HDG hr w1 w2
     go_wp2_with fail
     have w1 : IntKind.i64.wrap (fr + hn) = fr + hn := IntWalk.i64_in _ (by omega)
     have w2 : IntKind.i64.wrap (fr + hn - z) = fr + hn - z := IntWalk.i64_in _ (by omega)
     go_quiet (fail)
     clear w1 w2
     go_wp2_with fail
     rw [Exit.noGoto_ret]
     go_ret2
     rw [HPM.out, HG.out]
     exact ⟨rfl, (HB4.out.trans ((HBr.out.trans ((alloc_below wr (.cells #[.int .i64 ba, .int .i64 bn] 176)).mono HBr.out.size)).mono HB4.out.size)).trans (drewNN_below _ _ _)⟩
    ·have ds := decide_eq_false hs
     have HS := Lib.hid (show gapsM z n (rs.drop k) = gapsM (ba + bn) n (rs.drop (k + 1)) by rw [HDG.out]; exact gap_on hs)
     have hs' : ba - z < n := by omega
     clear HDG hs
     go_wp2_with fail
     go_roundg r
     case measure => omega
     case rel => exact ⟨k + 1, r, ba + bn, rfl, by go_num, by have := HK.out; omega, by omega, HS.out.symm.trans HGAP.out, ⟨by omega, by omega⟩, HBr.out.trans ((alloc_below _ _).mono HBr.out.size)⟩
  | zero =>
    obtain rfl : k = m + 1 := by have := HK.out; omega
    have HS := Lib.hid (show gapsM z n (rs.drop (m + 1)) = z by rw [List.drop_of_length_le (by have := HLL.out; omega)]; exact gap_nil z n)
    have q0 : wr.cell? ⟨K.bh, 0, none⟩ = some (.int .i64 fr) := (HXr.out.cell 0).trans rfl
    have q1 : wr.cell? ⟨K.bh, 1, none⟩ = some (.int .i64 hn) := (HXr.out.cell 1).trans rfl
    have ql := HXr.out.lt
    have HG := Lib.hid (show gapsM fr n rs = z from HGAP.out.symm.trans HS.out)
    have w1 : IntKind.i64.wrap (fr + hn) = fr + hn := IntWalk.i64_in _ (by omega)
    have w2 : IntKind.i64.wrap (fr + hn - z) = fr + hn - z := IntWalk.i64_in _ (by omega)
    clear w1 w2
    go_wp2_with fail
    have w1 : IntKind.i64.wrap (fr + hn) = fr + hn := IntWalk.i64_in _ (by omega)
    have w2 : IntKind.i64.wrap (fr + hn - z) = fr + hn - z := IntWalk.i64_in _ (by omega)
    go_quiet (fail)
    clear w1 w2
    go_wp2_with fail
    rw [Exit.noGoto_ret]
    go_ret2
    rw [HPM.out, HG.out]
    exact ⟨rfl, (HB4.out.trans (HBr.out.mono HB4.out.size)).trans (drewNN_below _ _ _)⟩
end Go.Proofs.YtabenhpjgjjgnaaGreatDoor
/- A heap makes a block. -/
namespace Go.Proofs.YtabenhpjgjjgnaaGreatDoor
open Go.RowKit
set_option maxRecDepth 100000
attribute [local go_sem ↓] Go.wp_at_zero Go.wp_at_succ
def hmakeM (K : MK) (n : Int) (S : St) : St × Nat × Int × Int :=
 if n < 1 then (S, 0, 0, 2)
 else if (placeM K.high K.hn S.blocks n).2 = false then (S, 0, 0, 4)
 else if 65535 ≤ S.last then (S, 0, 0, 4)
 else ({ S with last := S.last + 1, blocks := S.blocks ++ [((S.last + 1).toNat, (placeM K.high K.hn S.blocks n).1, n)] }, (S.last + 1).toNat, (placeM K.high K.hn S.blocks n).1, 0)
def HMakeEnd (K : MK) (W : World) (r : St × Nat × Int × Int) (e : Ending) (w' : World) : Prop := e = .returned (.tuple #[.int .u16 (r.2.1 : Nat), .int .i64 r.2.2.1, .int .i64 r.2.2.2]) ∧ At K r.1 w' ∧ Only K.bs W w' ∧ ∀ j, j < W.heap.size → j ≠ K.bh → j ≠ K.bq → w'.heap[j]? = W.heap[j]?
set_option maxHeartbeats 2000000 in
theorem hmake_any (K : MK) (k : KOk K) (S : St) (hk : HOk K.high K.hn S.last S.blocks) (n : Int) (hn : n ≤ 1000000) (W : World) (h : At K S W) : Calls Tryz.prog 157 #[.pointer (some ⟨K.bh, 0, none⟩), .int .i64 n] W (HMakeEnd K W (hmakeM K n S)) := by
 have HN := Lib.hid (hnone_any K S W h.hp)
 have H := Lib.hid h
 have HK := Lib.hid k
 have HR0 := Lib.hid (show hmakeM K n S = if n < 1 then (S, 0, 0, 2)
  else if (placeM K.high K.hn S.blocks n).2 = false then (S, 0, 0, 4)
  else if 65535 ≤ S.last then (S, 0, 0, 4)
  else ({ S with last := S.last + 1, blocks := S.blocks ++ [((S.last + 1).toNat, (placeM K.high K.hn S.blocks n).1, n)] }, (S.last + 1).toNat, (placeM K.high K.hn S.blocks n).1, 0) from rfl)
 have hl0 := hk.last0
 have hl1 := hk.last1
 have HNW := Lib.hid (findB_new hk (x := (S.last + 1).toNat) (by omega))
 by_cases h1 : n < 1
 ·have HR := Lib.hid (show hmakeM K n S = (S, 0, 0, 2) by rw [HR0.out, if_pos h1])
  have d := decide_eq_true h1
  clear h k
  go_enter Tryz.func157, Tryz.ntmps157
  go_wp2_with fail
  refine (HN.out).mono ?_
  rintro e w1 ⟨rfl, rfl⟩
  go_wp2_with fail
  go_ret3
  rw [HR.out]
  exact ⟨rfl, H.out, Only.refl _ _, fun _ _ _ _ => rfl⟩
 have HC := Lib.hid (place_any K k S hk n (by omega) hn W h.hp)
 have HR1 := Lib.hid (show hmakeM K n S = if (placeM K.high K.hn S.blocks n).2 = false then (S, 0, 0, 4)
  else if 65535 ≤ S.last then (S, 0, 0, 4)
  else ({ S with last := S.last + 1, blocks := S.blocks ++ [((S.last + 1).toNat, (placeM K.high K.hn S.blocks n).1, n)] }, (S.last + 1).toNat, (placeM K.high K.hn S.blocks n).1, 0) by rw [HR0.out, if_neg h1])
 have hn1 : 1 ≤ n := by omega
 have d1 : decide (n < 1) = false := decide_eq_false h1
 clear HR0 h k h1 hk
 generalize placeM K.high K.hn S.blocks n = pl at *
 obtain ⟨at_, is⟩ := pl
 simp only at HR1
 go_enter Tryz.func157, Tryz.ntmps157
 go_wp2_with fail
 refine (HN.out).mono ?_
 rintro e w1 ⟨rfl, rfl⟩
 go_wp2_with fail
 refine (HC.out).mono ?_
 rintro e w1 ⟨rfl, hb⟩
 have H1 := Lib.hid (H.out.grow hb)
 have HO1 := Lib.hid (Only.of_below (bs := K.bs) hb)
 have HF1 := Lib.hid (fun j (hj : j < W.heap.size) => hb.block j hj)
 clear hb H HC HN
 dsimp only
 obtain ⟨_, _, m2, m3⟩ := H1.out.hp.c
 have hbl := H1.out.hp.box.lt
 have hbf := H1.out.hp.box.frozen
 cases is
 ·have HR := Lib.hid (show hmakeM K n S = (S, 0, 0, 4) by rw [HR1.out, if_pos rfl])
  go_wp2_with fail
  go_ret3
  rw [HR.out]
  exact ⟨rfl, H1.out, HO1.out, fun j hj _ _ => HF1.out j hj⟩
 by_cases h2 : 65535 ≤ S.last
 ·have HR := Lib.hid (show hmakeM K n S = (S, 0, 0, 4) by rw [HR1.out, if_neg (by decide), if_pos h2])
  have d := decide_eq_true h2
  go_wp2_with fail
  go_ret3
  rw [HR.out]
  exact ⟨rfl, H1.out, HO1.out, fun j hj _ _ => HF1.out j hj⟩
 have HR := Lib.hid (show hmakeM K n S = ({ S with last := S.last + 1, blocks := S.blocks ++ [((S.last + 1).toNat, at_, n)] }, (S.last + 1).toNat, at_, 0) by rw [HR1.out, if_neg (by decide), if_neg h2])
 have d : decide (65535 ≤ S.last) = false := decide_eq_false h2
 have h2' : S.last < 65535 := by omega
 have e1 : IntKind.i64.wrap (S.last + 1) = S.last + 1 := IntWalk.i64_in _ (by omega)
 have e2 : IntKind.u16.wrap (S.last + 1) = (((S.last + 1).toNat : Nat) : Int) := by rw [IntKind.wrap_u16]; omega
 have HS2 := Lib.hid (show HpAt K { S with last := S.last + 1 } (w1.setCell ⟨K.bh, 2, none⟩ (.int .i64 (S.last + 1))) from ⟨H1.out.hp.box.set 2 _, H1.out.hp.map.later (Below.heap_setCell _ _ _ _ HK.out.hqne.symm)⟩)
 have H2 := Lib.hid (H1.out.setHeap (x := S.last + 1) (l := S.blocks) HK.out ((Only.refl _ _).setCell (a := ⟨K.bh, 2, none⟩) HK.out.hh (.int .i64 (S.last + 1))) (fun j _ hj _ => Below.heap_setCell _ _ _ _ hj) HS2.out)
 have HO2 := Lib.hid (HO1.out.setCell (a := ⟨K.bh, 2, none⟩) HK.out.hh (.int .i64 (S.last + 1)))
 have HF2 := Lib.hid (fun j (hj : j < W.heap.size) (hn : j ≠ K.bh) => (Below.heap_setCell w1 ⟨K.bh, 2, none⟩ (.int .i64 (S.last + 1)) j hn).trans (HF1.out j hj))
 clear HF1
 clear HR1 h2 HS2
 generalize (S.last + 1).toNat = ln at *
 go_upto_region 9 with (fail)
 clear m2 m3 hbl hbf d d1 H1 HO1 e1
 generalize w1.setCell ⟨K.bh, 2, none⟩ (.int .i64 (S.last + 1)) = w2 at *
 refine wp_region_tail 12 (by kernel_rfl) (by kernel_rfl) ?_
 have H3 := Lib.hid (H2.out.grow (drew_below w2))
 have HO3 := Lib.hid (HO2.out.trans (Only.of_below (bs := K.bs) (drew_below w2)))
 have HF3 := Lib.hid (fun j (hj : j < W.heap.size) (hn : j ≠ K.bh) => (show w2.drew.heap[j]? = w2.heap[j]? from rfl).trans (HF2.out j hj hn))
 clear HF2
 clear H2 HO2
 generalize w2.drew = w3 at *
 obtain ⟨_, _, m2, m3⟩ := H3.out.hp.c
 simp only at m2
 have hbl := H3.out.hp.box.lt
 simp only [List.take_succ_cons, List.take_zero, List.drop_succ_cons, List.drop_zero]
 repeat still_step
 refine wpStill_nil ?_
 obtain ⟨o, hu, hB⟩ := bl_put (P := Tryz.prog) (mty := 122) Tryz.underlying122 Tryz.underlying50 H3.out.hp.map ln at_ n HNW.out
 have H4 := Lib.hid (H3.out.setHeap (x := S.last + 1) (l := S.blocks ++ [(ln, at_, n)]) HK.out ((Only.refl _ _).putObj HK.out.hq o) (fun j _ _ hj => putObj_other hj) ⟨(putObj_other HK.out.hqne).trans H3.out.hp.box, hB⟩)
 have HO4 := Lib.hid (HO3.out.putObj HK.out.hq o)
 clear hB
 have p2 : (putObj w3 K.bq o).cell? ⟨K.bh, 2, none⟩ = some (.int .i64 (S.last + 1)) := (H4.out.hp.box.cell 2).trans rfl
 go_wp2_with fail
 go_ret3
 rw [HR.out]
 exact ⟨rfl, H4.out, HO4.out, fun j hj hn hq => (putObj_other hq).trans (HF3.out j hj hn)⟩
end Go.Proofs.YtabenhpjgjjgnaaGreatDoor
/- A machine's new. -/
namespace Go.Proofs.YtabenhpjgjjgnaaGreatDoor
open Go.RowKit
set_option maxRecDepth 100000
attribute [local go_sem ↓] Go.wp_at_zero Go.wp_at_succ
theorem At.argNew {K : MK} {S : St} {W : World} (h : At K S W) {j : Nat} (hj : j < S.args.length) : ∃ b o c, W.cell? ⟨K.b, 16, none⟩ = some (.slice (some ⟨b, o, none⟩) S.args.length c) ∧ b < W.heap.size ∧ W.cell? ⟨b, o + j, none⟩ = some (.int .i64 (S.args.getD j 0)) ∧ b ∉ K.bs := by
 obtain ⟨A, c, h1, h2⟩ := h.box
 obtain ⟨b, o, rfl, hb, hc⟩ := h2.1.at_ hj
 rw [Nat.mul_one] at hc
 exact ⟨b, o, c, (h1.cell 16).trans rfl, by rw [mask_size] at hb; exact hb, mask_cell hc, mask_notin hc⟩
theorem clear_eq (bs : List Nat) (b n : Nat) (hbs : b ∈ bs) (ws : Nat → Nat) (at_ : Int) (k : Int) (h0 : 0 ≤ k) (hk : k ≤ 65535) (W : World) (hM : MemAt b n ws W) : Calls Tryz.prog 124 #[.pointer (some ⟨b, 0, none⟩), .int .i64 at_, .int .i64 k] W (StoreEnd bs b n (clearM n ws at_ k.toNat) (thereM n k [at_]) W) := by
 obtain ⟨kn, rfl⟩ := Int.eq_ofNat_of_zero_le h0
 rw [Int.toNat_natCast]
 exact clear_any bs b n hbs ws at_ kn (by omega) W hM
def mkL (K : MK) (x : Nat) (n : Int) (r : St × Nat × Int × Int) : St × Nat :=
 if r.2.2.2 = 2 then (r.1, 12) else if r.2.2.2 = 4 then (r.1, 11) else ({ r.1 with ws := storeM K.n (clearM K.n r.1.ws r.2.2.1 n.toNat) x r.2.1 }, 0)
theorem make_eq (K : MK) (x : Nat) (n : Int) (S : St) (hi : inM K.n x = true) : makeL K x n S = mkL K x n (hmakeM K n S) := by
 unfold makeL hmakeM mkL
 rw [if_neg (by rw [hi]; decide)]
 split
 ·rfl
 ·split
  ·rfl
  ·split
   ·rfl
   ·rfl
theorem hmake_num (K : MK) (n : Int) (S : St) (h0 : 0 ≤ S.last) (h1 : S.last ≤ 65535) : (hmakeM K n S).2.1 < 65536 ∧ ((hmakeM K n S).2.2.2 = 2 ∨ (hmakeM K n S).2.2.2 = 4 ∨ ((hmakeM K n S).2.2.2 = 0 ∧ 1 ≤ n)) ∧ (hmakeM K n S).1.args = S.args := by
 unfold hmakeM
 split
 ·exact ⟨by simp, .inl rfl, rfl⟩
 ·rename_i hn
  split
  ·exact ⟨by simp, .inr (.inl rfl), rfl⟩
  ·split
   ·exact ⟨by simp, .inr (.inl rfl), rfl⟩
   ·exact ⟨by simp only; omega, .inr (.inr ⟨rfl, by omega⟩), rfl⟩
set_option maxHeartbeats 4000000 in
theorem make_any (K : MK) (k : KOk K) (S : St) (s : SOk K S) (hk : HOk K.high K.hn S.last S.blocks) (ha : 0 < S.args.length) (_hq0 : 0 ≤ S.args.getD 0 0) (hq1 : S.args.getD 0 0 ≤ 65535) (W : World) (h : At K S W) : Calls Tryz.prog 93 #[.pointer (some ⟨K.b, 0, none⟩)] W (OpEnd K W (makeM K S)) := by
 have HK := Lib.hid k
 have HP := Lib.hid (show makeM K S = makeR K (popsM K 1 S) from rfl)
 have hlen := popsM_len K 1 S
 have harg := popsM_args K 1 S
 have hkk : HOk K.high K.hn (popsM K 1 S).1.last (popsM K 1 S).1.blocks := by unfold popsM; split <;> exact hk
 have HC := Lib.hid (pops_any K k S s 1 (by omega) W h)
 clear h k s hk
 go_enter Tryz.func93, Tryz.ntmps93
 go_wp2_with fail
 refine (HC.out).mono ?_
 rintro e w1 ⟨A, c, rfl, hW, hA, ho⟩
 generalize popsM K 1 S = r at *
 obtain ⟨S1, l, t⟩ := r
 simp only at hlen hW hA harg hkk
 rw [← harg] at ha hq1 _hq0
 have HQ0 := Lib.hid _hq0
 have HA := Lib.hid hA
 have HO := Lib.hid ho
 have HKK := Lib.hid hkk
 have hbn : ∀ b o, A = some ⟨b, o, none⟩ → b ∉ K.bs := fun b o e => by
  obtain ⟨b', o', e', _, hc⟩ := hW.at_ (j := 0) (by omega)
  rw [e] at e'
  cases e'
  exact mask_notin hc.1
 obtain ⟨b, o, rfl, hc⟩ := word_cells hW (by omega)
 have HBN := Lib.hid (hbn b o rfl)
 clear hA ho hW HC hbn harg hkk
 rw [hlen]
 dsimp only
 by_cases ht : t = 0
 ·subst ht
  obtain ⟨hc0, hr0⟩ := hc 0 (by omega)
  simp only [Nat.add_zero] at hc0
  have HX := Lib.hid (show makeM K S = makeL K (l.getD 0 0) (S1.args.getD 0 0) S1 by rw [HP.out, makeR, if_neg (by simp)])
  generalize l.getD 0 0 = x0 at *
  have HC0 := Lib.hid hc0
  have hlt : b < w1.heap.size := lt_of_cell hc0
  have m3 := HA.out.c3
  have hml := HA.out.lt
  have HAL := Lib.hid ha
  have HM := Lib.hid (fun n => (HA.out.grow (growN_below w1 n)).mem)
  have e1 : IntKind.i64.wrap (x0 : Int) = (x0 : Int) := IntWalk.i64_in _ (by omega)
  clear hc hlen HP ha
  go_wp2_with fail
  refine wp_region_grow (by kernel_rfl) (by kernel_rfl) ?_
  repeat (first | go_big_quiet_step (first
   | (go_at_call 40; refine quiet_grow (load_eq K.bm K.n S1.ws x0 _ (HM.out _)))))
  refine wpQuiet_nil ?_
  rintro _ ⟨gx, rfl⟩
  have H2 := Lib.hid (HA.out.grow (growN_below w1 gx))
  have HO2 := Lib.hid (HO.out.trans (Only.of_below (bs := K.bs) (growN_below w1 gx)))
  have HC2 := Lib.hid (((growN_below w1 gx).cell (p := ⟨b, o, none⟩) hlt).trans HC0.out)
  clear HA HO hc0 HC0 hlt m3 hml HM e1
  generalize growN w1 gx = w2 at *
  cases hi : inM K.n (x0 : Int)
  ·have HR := Lib.hid (show makeM K S = (S1, 15) by rw [HX.out, makeL, if_pos hi])
   go_wp2_with fail
   go_ret
   rw [HR.out]
   exact ⟨rfl, H2.out, HO2.out⟩
  have HIM := Lib.hid hi
  have HXI := Lib.hid (show makeM K S = mkL K x0 (S1.args.getD 0 0) (hmakeM K (S1.args.getD 0 0) S1) by rw [HX.out, make_eq K x0 _ S1 hi])
  have HNUM := Lib.hid (hmake_num K (S1.args.getD 0 0) S1 HKK.out.last0 HKK.out.last1)
  clear HX hi
  go_upto_region 7 with (fail)
  have h3 := H2.out.grow (drew_below w2)
  have HO3 := Lib.hid (HO2.out.trans (Only.of_below (bs := K.bs) (drew_below w2)))
  have HC3 := Lib.hid (((drew_below w2).cell (p := ⟨b, o, none⟩) (lt_of_cell HC2.out)).trans HC2.out)
  obtain ⟨ab, ao, ac, c16, hab, a0c, habn⟩ := h3.argNew (j := 0) HAL.out
  have HABN := Lib.hid habn
  clear habn
  have HMK := Lib.hid (fun n W' (h' : At K S1 W') (hq : n ≤ 1000000) => hmake_any K HK.out S1 HKK.out n hq W' h')
  have hal : 0 < S1.args.length := HAL.out
  have c4 := h3.c4
  have hblt := h3.lt
  have hq0 : 0 ≤ S1.args.getD 0 0 := HQ0.out
  clear H2 HO2 HC2
  generalize hqq : S1.args.getD 0 0 = q at *
  have HQQ := Lib.hid hqq
  clear hqq
  refine wp_region_held_drew (S := fun w => w.cell? ⟨K.b, 4, none⟩ = some (.pointer (some ⟨K.bh, 0, none⟩)) ∧ w.cell? ⟨K.b, 16, none⟩ = some (.slice (some ⟨ab, ao, none⟩) S1.args.length ac) ∧ w.cell? ⟨ab, ao + 0, none⟩ = some (.int .i64 q)) (by kernel_rfl) ⟨c4, c16, a0c⟩ (fun hHeld => ?_)
  generalize w2.drew = w3 at *
  refine wpAnyH_take (i := 0) (v := .pointer (some ⟨K.b, 0, none⟩)) rfl (by kernel_rfl) (by kernel_rfl) (by kernel_rfl) (fun _ _ _ h => h) (Or.inl ⟨by rfl, ?_⟩) ⟨c4, c16, a0c⟩ ?_
  ·intro w hSw; go_simp
  simp only [Act.put, List.setIfInBounds_toArray]
  refine wpAnyH_take (i := 1) (v := .pointer (some ⟨K.b, 0, none⟩)) rfl (by kernel_rfl) (by kernel_rfl) (by kernel_rfl) (fun _ _ _ h => h) (Or.inl ⟨by rfl, ?_⟩) ⟨c4, c16, a0c⟩ ?_
  ·intro w hSw; go_simp
  simp only [Act.put]
  refine wpAnyH_take (i := 2) (v := .pointer (some ⟨K.b, 4, none⟩)) rfl (by kernel_rfl) (by kernel_rfl) (by kernel_rfl) (fun _ _ _ h => h) (Or.inl ⟨by rfl, ?_⟩) ⟨c4, c16, a0c⟩ ?_
  ·intro w hSw; go_simp
  simp only [Act.put]
  refine wpAnyH_take (i := 3) (v := .pointer (some ⟨K.bh, 0, none⟩)) rfl (by kernel_rfl) (by kernel_rfl) (by kernel_rfl) (fun _ _ _ h => h) (Or.inl ⟨by rfl, ?_⟩) ⟨c4, c16, a0c⟩ ?_
  ·intro w hSw; have q4 := hSw.1; go_simp
  simp only [Act.put]
  refine wpAnyH_take (i := 4) (v := .pointer (some ⟨K.b, 0, none⟩)) rfl (by kernel_rfl) (by kernel_rfl) (by kernel_rfl) (fun _ _ _ h => h) (Or.inl ⟨by rfl, ?_⟩) ⟨c4, c16, a0c⟩ ?_
  ·intro w hSw; go_simp
  simp only [Act.put]
  refine wpAnyH_take (i := 5) (v := .pointer (some ⟨K.b, 0, none⟩)) rfl (by kernel_rfl) (by kernel_rfl) (by kernel_rfl) (fun _ _ _ h => h) (Or.inl ⟨by rfl, ?_⟩) ⟨c4, c16, a0c⟩ ?_
  ·intro w hSw; go_simp
  simp only [Act.put]
  refine wpAnyH_take (i := 6) (v := .pointer (some ⟨K.b, 16, none⟩)) rfl (by kernel_rfl) (by kernel_rfl) (by kernel_rfl) (fun _ _ _ h => h) (Or.inl ⟨by rfl, ?_⟩) ⟨c4, c16, a0c⟩ ?_
  ·intro w hSw; go_simp
  simp only [Act.put]
  refine wpAnyH_take (i := 7) (v := .slice (some ⟨ab, ao, none⟩) S1.args.length ac) rfl (by kernel_rfl) (by kernel_rfl) (by kernel_rfl) (fun _ _ _ h => h) (Or.inl ⟨by rfl, ?_⟩) ⟨c4, c16, a0c⟩ ?_
  ·intro w hSw; have q5 := hSw.2.1; go_simp
  simp only [Act.put]
  refine wpAnyH_take (i := 8) (v := .pointer (some ⟨ab, ao, none⟩)) rfl (by kernel_rfl) (by kernel_rfl) (by kernel_rfl) (fun _ _ _ h => h) (Or.inl ⟨by rfl, ?_⟩) ⟨c4, c16, a0c⟩ ?_
  ·intro w hSw; go_simp
  simp only [Act.put]
  refine wpAnyH_take (i := 9) (v := .int .i64 q) rfl (by kernel_rfl) (by kernel_rfl) (by kernel_rfl) (fun _ _ _ h => h) (Or.inl ⟨by rfl, ?_⟩) ⟨c4, c16, a0c⟩ ?_
  ·intro w hSw; have q6 := hSw.2.2; simp only [Nat.add_zero] at q6; go_simp
  simp only [Act.put]
  refine wpAnyH_ready (rs := [10]) (by kernel_rfl) (by simp) ?_
  refine AllReadyH.cons rfl (fun K' hK => ?_) AllReadyH.nil
  go_simp
  refine (HMK.out q _ h3 (by omega)).mono ?_
  generalize hmakeM K q S1 = r at *
  obtain ⟨S2, num, at_, er⟩ := r
  simp only at HNUM
  rintro e w4 ⟨rfl, h4, ho4, hf4⟩
  simp only at h4
  have c44 : w4.cell? ⟨K.b, 4, none⟩ = some (.pointer (some ⟨K.bh, 0, none⟩)) := (World.cell?_of_block (w := w3) (hf4 _ hblt HK.out.bh HK.out.bq)).trans c4
  have c416 : w4.cell? ⟨K.b, 16, none⟩ = some (.slice (some ⟨ab, ao, none⟩) S1.args.length ac) := (World.cell?_of_block (w := w3) (hf4 _ hblt HK.out.bh HK.out.bq)).trans c16
  have hab1 : ab ∉ K.bs := HABN.out
  have a40 : w4.cell? ⟨ab, ao + 0, none⟩ = some (.int .i64 q) := (World.cell?_of_block (w := w3) (hf4 ab hab (show ab ≠ K.bh from fun e => hab1 (by rw [e]; exact HK.out.hh)) (show ab ≠ K.bq from fun e => hab1 (by rw [e]; exact HK.out.hq)))).trans a0c
  have HC4 := Lib.hid (ho4.cell' HC3.out HBN.out)
  have H4 := Lib.hid h4
  have HO4 := Lib.hid (HO3.out.trans ho4)
  clear h4 ho4 hf4 h3 HO3 HC3 c4 c16 a0c HMK
  refine hK.out _ _ ⟨c44, c416, a40⟩ (fun hHeld4 => ?_)
  clear hK K'
  refine wpAnyH_take (i := 11) (v := .tuple #[.int .u16 (num : Nat), .int .i64 at_, .int .i64 er]) rfl (by kernel_rfl) (by kernel_rfl) (by kernel_rfl) (fun _ _ _ h => h) (Or.inl ⟨by rfl, ?_⟩) ⟨c44, c416, a40⟩ ?_
  ·intro w hSw; go_simp
  simp only [Act.put, List.setIfInBounds_toArray]
  refine wpAnyH_take (i := 12) (v := .int .u16 (num : Nat)) rfl (by kernel_rfl) (by kernel_rfl) (by kernel_rfl) (fun _ _ _ h => h) (Or.inl ⟨by rfl, ?_⟩) ⟨c44, c416, a40⟩ ?_
  ·intro w hSw; go_simp
  simp only [Act.put]
  refine wpAnyH_take (i := 13) (v := .int .i64 at_) rfl (by kernel_rfl) (by kernel_rfl) (by kernel_rfl) (fun _ _ _ h => h) (Or.inl ⟨by rfl, ?_⟩) ⟨c44, c416, a40⟩ ?_
  ·intro w hSw; go_simp
  simp only [Act.put]
  refine wpAnyH_take (i := 14) (v := .int .i64 er) rfl (by kernel_rfl) (by kernel_rfl) (by kernel_rfl) (fun _ _ _ h => h) (Or.inl ⟨by rfl, ?_⟩) ⟨c44, c416, a40⟩ ?_
  ·intro w hSw; go_simp
  simp only [Act.put]
  refine wpAnyH_take (i := 15) (v := .int .u16 (num : Nat)) rfl (by kernel_rfl) (by kernel_rfl) (by kernel_rfl) (fun _ _ _ h => h) (Or.inl ⟨by rfl, ?_⟩) ⟨c44, c416, a40⟩ ?_
  ·intro w hSw; go_simp
  simp only [Act.put]
  refine wpAnyH_take (i := 16) (v := .int .i64 at_) rfl (by kernel_rfl) (by kernel_rfl) (by kernel_rfl) (fun _ _ _ h => h) (Or.inl ⟨by rfl, ?_⟩) ⟨c44, c416, a40⟩ ?_
  ·intro w hSw; go_simp
  simp only [Act.put]
  refine wpAnyH_take (i := 17) (v := .int .i64 er) rfl (by kernel_rfl) (by kernel_rfl) (by kernel_rfl) (fun _ _ _ h => h) (Or.inl ⟨by rfl, ?_⟩) ⟨c44, c416, a40⟩ ?_
  ·intro w hSw; go_simp
  simp only [Act.put]
  refine wpAnyH_done (by kernel_rfl) ?_ _
  simp only [List.getElem_toArray, List.getElem_cons_succ, List.getElem_cons_zero, List.setIfInBounds_toArray, List.set_cons_zero, List.set_cons_succ]
  clear c44 c416 a40 hHeld hHeld4
  obtain ⟨hnum, her, harg2⟩ := HNUM.out
  rcases her with rfl | rfl | ⟨rfl, hq1'⟩
  ·have HR := Lib.hid (show makeM K S = (S2, 12) by rw [HXI.out]; rfl)
   go_wp2_with fail
   go_ret
   rw [HR.out]
   exact ⟨rfl, H4.out, HO4.out⟩
  ·have HR := Lib.hid (show makeM K S = (S2, 11) by rw [HXI.out]; rfl)
   go_wp2_with fail
   go_ret
   rw [HR.out]
   exact ⟨rfl, H4.out, HO4.out⟩
  ·have HR := Lib.hid (show makeM K S = ({ S2 with ws := storeM K.n (clearM K.n S2.ws at_ q.toNat) x0 num }, 0) by rw [HXI.out]; rfl)
   have HAL2 := Lib.hid (show 0 < S2.args.length by rw [harg2]; exact hal)
   have HQ2 := Lib.hid (show S2.args.getD 0 0 = q by rw [harg2]; exact HQQ.out)
   clear HXI HNUM
   go_upto_region 13 with (fail)
   refine wp_region_tail 11 (by kernel_rfl) (by kernel_rfl) ?_
   have hlt4 := lt_of_cell HC4.out
   simp only at hlt4
   have HC5 := Lib.hid (((drew_below w4).cell (p := ⟨b, o, none⟩) hlt4).trans HC4.out)
   have H5 := Lib.hid (H4.out.grow (drew_below w4))
   have HO5 := Lib.hid (HO4.out.trans (Only.of_below (bs := K.bs) (drew_below w4)))
   clear H4 HO4 HC4 hlt4
   generalize w4.drew = w5 at *
   have m3 := H5.out.c3
   have hml := H5.out.lt
   obtain ⟨ab2, ao2, ac2, c16, hab2, a0c⟩ := H5.out.arg (j := 0) HAL2.out
   rw [HQ2.out] at a0c
   simp only [Nat.add_zero] at a0c
   have hal2 : 0 < S2.args.length := HAL2.out
   simp only [List.take_succ_cons, List.take_zero, List.drop_succ_cons, List.drop_zero]
   repeat still_step
   refine wpStill_nil ?_
   go_wp2_with fail
   refine (clear_eq K.bs K.bm K.n HK.out.hm S2.ws at_ q hq0 hq1 w5 H5.out.mem).mono ?_
   rintro e w6 ⟨rfl, hm6, ho6, hf6⟩
   have H6 := Lib.hid (H5.out.setMem HK.out hm6 ho6 hf6)
   have HO6 := Lib.hid (HO5.out.trans ho6)
   have HC6 := Lib.hid (ho6.cell' HC5.out HBN.out)
   clear hm6 ho6 hf6 H5 HO5 HC5 m3 hml c16 hab2 a0c
   go_upto_region 14 with (fail)
   refine wp_region_tail 9 (by kernel_rfl) (by kernel_rfl) ?_
   have hlt6 := lt_of_cell HC6.out
   simp only at hlt6
   have hc7 := ((drew_below w6).cell (p := ⟨b, o, none⟩) hlt6).trans HC6.out
   have H7 := Lib.hid (H6.out.grow (drew_below w6))
   have HO7 := Lib.hid (HO6.out.trans (Only.of_below (bs := K.bs) (drew_below w6)))
   clear H6 HO6 HC6 hlt6
   generalize w6.drew = w7 at *
   have m3 := H7.out.c3
   have hml := H7.out.lt
   have e1 : IntKind.i64.wrap (x0 : Int) = (x0 : Int) := IntWalk.i64_in _ (by omega)
   simp only [List.take_succ_cons, List.take_zero, List.drop_succ_cons, List.drop_zero]
   repeat still_step
   refine wpStill_nil ?_
   go_wp2_with fail
   refine (store_any K.bs K.bm K.n HK.out.hm _ x0 num hnum w7 H7.out.mem).mono ?_
   rintro e w8 ⟨rfl, hm8, ho8, hf8⟩
   have H8 := Lib.hid (H7.out.setMem HK.out hm8 ho8 hf8)
   have HO8 := Lib.hid (HO7.out.trans ho8)
   clear hm8 ho8 hf8 H7 HO7 m3 hml e1 hc7
   go_wp2_with fail
   go_ret
   rw [HR.out]
   exact ⟨rfl, H8.out, HO8.out⟩
 ·have d := bne_iff_ne.2 (show (t : Int) ≠ 0 by omega)
  have HR := Lib.hid (show makeM K S = (S1, t) by rw [HP.out, makeR, if_pos (by simpa using ht)])
  go_wp2_with fail
  go_ret
  rw [HR.out]
  exact ⟨rfl, HA.out, HO.out⟩
end Go.Proofs.YtabenhpjgjjgnaaGreatDoor
