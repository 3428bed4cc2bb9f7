/- How a small program ends, and what it wrote. separatumlaw20. What every row of this seat wants. A machine's mark, loads, stores, procs. Condition: what lies in memory can lie there; what each theorem says. -/
import Derived.Test.YtabenhpjgjjgnaaGreatDoorBat
import Derived.Test.YtabenhpjgjjgnaaGreatDoorCards
import Derived.Test.YtabenhpjgjjgnaaGreatDoorTie
import Derived.Test.YtabenhpjgjjgnaaGreatDoorBah
import Derived.Deep.RegionHeld3
import Derived.Outline
import Derived.ProofKit
import Derived.OpenShut
import Derived.Deep.DeepHandedRow
import Derived.Deep.DeepWitnessRowRef
import Derived.Lib.LaidTab
import Derived.Carry
import Derived.Deep.DeepLaidRun
import Derived.LaidSub
/- How a small program ends, and what it wrote. -/
namespace Go.Proofs.YtabenhpjgjjgnaaGreatDoor
open Go.RowKit
set_option maxRecDepth 100000
attribute [local go_sem ↓] Go.wp_at_zero Go.wp_at_succ
theorem upd_zero (i : Nat) : upd (fun _ => 0) i 0 = fun _ => 0 := by funext j; unfold upd; split <;> rfl
theorem storeM_zero (n : Nat) (a : Int) : storeM n (fun _ => 0) a (w16 0) = fun _ => 0 := by unfold storeM; split; exact upd_zero _; rfl
theorem clearM_zero (n : Nat) (a : Int) (k : Nat) : clearM n (fun _ => 0) a k = fun _ => 0 := by
 unfold clearM
 split
 ·funext j; unfold zeroM; split <;> rfl
 ·rfl
theorem rn_start {K : MK} {code : List UInt8} (k : One K code) (inp : List UInt8) : Rn (startS K inp) 0 [] 0 [] := by
 have hm : nextMod K (zeroS inp) = 0 := by unfold nextMod; rw [k.order]; rfl
 have hp : nextP K (zeroS inp) = ⟨0, 0, 0, 8, 1, false⟩ := by unfold nextP; rw [hm, k.mods]; rfl
 have hb : beginsM K (zeroS inp) = (frameM K K.low 0 0 0 0 0 0 { zeroS inp with ord := 1, mod := 0, proc := 0, depth := 0 }, 0) := by
  unfold beginsM
  rw [if_neg (by rw [k.order]; show ¬ (0 : Int) = 1; decide), hp, if_neg (by rw [k.low, k.high]; decide), hm]
  rfl
 have hh : hereP K { zeroS inp with ord := 1, mod := 0, proc := 0, depth := 0 } = ⟨0, 0, 0, 8, 1, false⟩ := by unfold hereP modOf; rw [k.mods]; rfl
 have hf : frameM K K.low 0 0 0 0 0 0 { zeroS inp with ord := 1, mod := 0, proc := 0, depth := 0 } = { zeroS inp with ord := 1, mod := 0, proc := 0, depth := 1, fp := 5, sp := 10, next := 0 } := by
  unfold frameM
  rw [hh]
  unfold markM
  have h0 : (zeroS inp).ws = fun _ => 0 := rfl
  simp only [h0, storeM_zero, clearM_zero, k.low]
  rfl
 have hs : startS K inp = { zeroS inp with ord := 1, mod := 0, proc := 0, depth := 1, fp := 5, sp := 10, next := 0, at_ := 0 } := by
  unfold startS trapS
  rw [hb, hf]
  rfl
 rw [hs]
 exact ⟨rfl, rfl, rfl, rfl, rfl, rfl, by decide, rfl, rfl, rfl, rfl, rfl, rfl, fun j hj => by simp at hj⟩
theorem one_of_new {K : MK} {code : List UInt8} (h : NewK K (oneM code) [0] 100 50 50) : One K code :=
 ⟨h.mods, h.order, by rw [h.low]; rfl, by rw [h.high]; rfl, by have := h.n; simp [oneM] at this; omega, by rw [h.most]; rfl⟩
theorem check_one (code : List UInt8) (h : code.length ≤ 65535) : checkB [oneM code] [0] = true := by
 unfold checkB modB headB mayB withinB oneM
 simp
 exact ⟨h, rfl⟩
theorem outT_any (b : Nat) (o : List UInt8) (K : MK) (S : St) (hb : K.bt = b) (ho : S.out = o) (re im : Nat) (W : World) (hx : Bx b (tcells K S re im) 118 W) : Calls Tryz.prog 50 #[.pointer (some ⟨b, 0, none⟩)] W fun e w' => e = .returned (.string ⟨o.toArray⟩) ∧ W = w' := by
 subst ho hb
 have c1 : W.cell? ⟨K.bt, 1, none⟩ = some (.string ⟨S.out.toArray⟩) := (hx.cell 1).trans rfl
 clear hx
 go_enter Tryz.func50, Tryz.ntmps50
 go_wp2_with fail
 go_ret
 exact ⟨rfl, rfl⟩
theorem out_any (K : MK) (S : St) (W : World) (h : AtW K S W) : Calls Tryz.prog 17 #[.pointer (some ⟨K.b, 0, none⟩)] W fun e w' => e = .returned (.string ⟨S.out.toArray⟩) ∧ W = w' := by
 obtain ⟨cs, hx, A, c, a, rfl⟩ := h.box
 obtain ⟨re, im, _, ht⟩ := h.term
 have c0 : W.cell? ⟨K.b, 0, none⟩ = some (.pointer (some ⟨K.bt, 0, none⟩)) := (hx.cell 0).trans rfl
 have HT := Lib.hid ht
 clear hx ht h
 go_enter Tryz.func17, Tryz.ntmps17
 go_wp2_with (first | (go_at_call 50; refine (outT_any K.bt S.out K S rfl rfl re im _ HT.out).mono ?_; rintro e w' ⟨rfl, rfl⟩))
 go_ret
 exact ⟨rfl, rfl⟩
theorem AtW.grow {K : MK} {S : St} {W W' : World} (h : AtW K S W) (hb : Below W.heap.size W W') : AtW K S W' := by
 obtain ⟨cs, hx, hm⟩ := h.box
 obtain ⟨re, im, hre, ht⟩ := h.term
 exact ⟨⟨cs, hx.grow hb, hm⟩, ⟨re, im, hre, ht.grow hb⟩, h.mem.grow hb, h.hp.later rfl rfl (hb.block _ h.hp.box.lt) (hb.block _ h.hp.map.lt)⟩
theorem AtW.only3 {K : MK} {S : St} {W : World} {b : Nat} (h : AtW K S W) (hb : ∀ k ∈ K.bs, k ≠ b) (u v x : Value) (k : KOk K) : AtW K S (((W.setCell ⟨b, 0, none⟩ u).setCell ⟨b, 1, none⟩ v).setCell ⟨b, 2, none⟩ x) := by
 obtain ⟨cs, hx, hm⟩ := h.box
 obtain ⟨re, im, hre, ht⟩ := h.term
 exact ⟨⟨cs, (set3_at W b u v x _ (hb _ k.hb)).trans hx, hm⟩, ⟨re, im, hre, (set3_at W b u v x _ (hb _ k.ht)).trans ht⟩, h.mem.later (set3_at W b u v x _ (hb _ k.hm)), h.hp.later rfl rfl (set3_at W b u v x _ (hb _ k.hh)) (set3_at W b u v x _ (hb _ k.hq))⟩
def EndsEnd (kind trap : Nat) (steps : Int) (o : List UInt8) (W : World) (e : Ending) (w' : World) : Prop := e = .returned (.tuple #[.agg #[.int .u8 kind, .int .u8 trap, .int .i64 steps], .string ⟨o.toArray⟩]) ∧ Below W.heap.size W w'
theorem Env.below {W W' : World} (h : Env W) (hb : Below W.heap.size W W') : Env W' := ⟨h.sp.later hb, h.p10.grow hb⟩
theorem envK_of {W W' : World} {K : MK} (h : Env W) (hb : Below W.heap.size W W') (hk : ∀ b ∈ K.bs, W.heap.size ≤ b) : EnvK K W' := fun _W2 ho => h.below (hb.trans (ho.below hb.size hk))
set_option maxHeartbeats 2000000 in
theorem ends_any (code : List UInt8) (hlen : code.length ≤ 65535) (fuel : Int) (hf : fuel ≤ 9223372036854775807) (kind trap : Nat) (steps : Int) (o : List UInt8) (hc : Comes code fuel kind trap steps o) (A2 A3 : Option Addr) (c2 c3 : Nat) (W : World) (hE : Env W) (hM : Mods W A2 [oneM code]) (hO : Ints W A3 [0]) :
 Calls Tryz.prog 21 #[.agg #[.slice A2 1 c2, .slice A3 1 c3], .int .i64 fuel] W (EndsEnd kind trap steps o W) := by
 have HB0 := Lib.hid (show Below W.heap.size W ((W.alloc (.cells #[.slice A2 1 c2, .slice A3 1 c3] 25)).alloc (.cells #[.int .u8 0, .int .u8 0, .int .i64 0] 38)) from ((Below.refl _ _).alloc (Nat.le_refl _) _).alloc (by simp) _)
 have HX0 := Lib.hid (show Bx (W.heap.size + 1) #[.int .u8 0, .int .u8 0, .int .i64 0] 38 ((W.alloc (.cells #[.slice A2 1 c2, .slice A3 1 c3] 25)).alloc (.cells #[.int .u8 0, .int .u8 0, .int .i64 0] 38)) by simpa using Bx.new (W.alloc (.cells #[.slice A2 1 c2, .slice A3 1 c3] 25)) #[.int .u8 0, .int .u8 0, .int .i64 0] 38)
 have HE := Lib.hid hE
 have HC := Lib.hid hc
 have HM := Lib.hid hM
 have HO := Lib.hid hO
 clear hE hc hM hO
 go_enter Tryz.func21, Tryz.ntmps21
 go_wp2_with fail
 generalize (W.alloc (.cells #[.slice A2 1 c2, .slice A3 1 c3] 25)).alloc (.cells #[.int .u8 0, .int .u8 0, .int .i64 0] 38) = w0 at *
 refine (new_one A2 A3 c2 c3 (oneM code) [0] (check_one code hlen) rfl (by decide) (by simp [oneM]) 100 50 50 (by decide) (by simp [oneM]) (by simp [oneM]) (by simp [oneM]) [105, 110] (by decide) _ (HM.out.later HB0.out (Nat.le_refl _)) (HO.out.later HB0.out (Nat.le_refl _))).mono ?_
 rintro e w1 ⟨K, rfl, hK, hN, hA, hb, hB⟩
 obtain ⟨n, S2, hR, hE2, hO2⟩ := HC.out K hK (one_of_new hN) _ (rn_start (one_of_new hN) [105, 110])
 have HR := Lib.hid hR
 have HE2 := Lib.hid hE2
 have HO2 := Lib.hid hO2
 have HS := Lib.hid (show (0 : Int) ≤ (startS K [105, 110]).steps by rw [(rn_start (one_of_new hN) [105, 110]).steps]; decide)
 have HK := Lib.hid hK
 have HA := Lib.hid hA
 have HX1 := Lib.hid (HX0.out.grow hB)
 have HB1 := Lib.hid (HB0.out.trans (hB.mono HB0.out.size))
 have HKb := Lib.hid hb
 have hx1 : W.heap.size + 1 < w0.heap.size := HX0.out.lt
 have HN := Lib.hid (show W.heap.size + 1 ∉ K.bs from fun hm => by have := hb _ hm; omega)
 have HKW := Lib.hid (show ∀ b ∈ K.bs, W.heap.size ≤ b from fun b hm => Nat.le_trans (by omega) (hb b hm))
 clear hR hE2 hO2 hK hN hA hB hb HC HB0 HX0 HM HO
 go_wp2_with fail
 refine (run_any K HK.out fuel hf n _ S2 HR.out HS.out _ HA.out (envK_of HE.out HB1.out HKW.out)).mono ?_
 rintro e w2 ⟨rfl, hA2, ho2⟩
 rw [HE2.out]
 have HX2 := Lib.hid (HX1.out.only ho2 HN.out)
 have HB2 := Lib.hid (HB1.out.trans (ho2.below HB1.out.size HKW.out))
 have HA2 := Lib.hid hA2
 clear hA2 ho2 HX1 HB1 HA
 dsimp only
 go_wp2_with fail
 have HX3 := Lib.hid ((HX2.out.grow (alloc_below w2 (.cells #[.int .u8 kind, .int .u8 trap, .int .i64 steps] 38))).grow (drew_below _))
 have HY3 := Lib.hid ((Bx.new w2 #[.int .u8 kind, .int .u8 trap, .int .i64 steps] 38).grow (drew_below _))
 have HB3 := Lib.hid ((HB2.out.trans ((alloc_below w2 (.cells #[.int .u8 kind, .int .u8 trap, .int .i64 steps] 38)).mono HB2.out.size)).trans ((drew_below (w2.alloc (.cells #[.int .u8 kind, .int .u8 trap, .int .i64 steps] 38))).mono (by have := HB2.out.size; simp; omega)))
 have HA3 := Lib.hid (HA2.out.grow (((alloc_below w2 (.cells #[.int .u8 kind, .int .u8 trap, .int .i64 steps] 38))).trans ((drew_below _).mono (by simp))))
 have hx2 : W.heap.size + 1 < w2.heap.size := HX2.out.lt
 have hne : w2.heap.size ≠ W.heap.size + 1 := by omega
 refine wp_region_held_drew (S := fun W' => Bx w2.heap.size #[.int .u8 kind, .int .u8 trap, .int .i64 steps] 38 W' ∧ AtW K S2 W') (by kernel_rfl) ⟨HY3.out, HA3.out⟩ (fun hHeld => ?_)
 clear HX2 HB2 HA2
 generalize (w2.alloc (.cells #[.int .u8 kind, .int .u8 trap, .int .i64 steps] 38)).drew = w3 at *
 generalize w2.heap.size = g at *
 refine wpAnyH_take (i := 0) (v := .agg #[.int .u8 kind, .int .u8 trap, .int .i64 steps]) rfl (by kernel_rfl) (by kernel_rfl) (by kernel_rfl) (fun _ _ _ h => h) (Or.inl ⟨by rfl, ?_⟩) hHeld ?_
 ·intro w9 hS9
  have l0 : w9.cell? ⟨g, 0, none⟩ = some (.int .u8 kind) := (hS9.1.cell 0).trans rfl
  have l1 : w9.cell? ⟨g, 1, none⟩ = some (.int .u8 trap) := (hS9.1.cell 1).trans rfl
  have l2 : w9.cell? ⟨g, 2, none⟩ = some (.int .i64 steps) := (hS9.1.cell 2).trans rfl
  go_simp
 try simp only [Act.put]
 try simp only [List.setIfInBounds_toArray]
 refine wpAnyH_take (i := 1) (v := .pointer (some ⟨K.b, 0, none⟩)) rfl (by kernel_rfl) (by kernel_rfl) (by kernel_rfl) (fun _ _ _ h => h) (Or.inl ⟨by rfl, ?_⟩) hHeld ?_
 ·intro w9 hS9
  go_simp
 try simp only [Act.put]
 try simp only [List.setIfInBounds_toArray]
 refine wpAnyH_ready (rs := [2]) (by kernel_rfl) (by simp) ?_
 refine AllReadyH.cons rfl (fun K' hK => ?_) AllReadyH.nil
 go_simp
 refine (out_any K S2 _ HA3.out).mono ?_
 rintro e w4 ⟨rfl, rfl⟩
 refine hK.out _ _ hHeld (fun _ => ?_)
 clear hK K'
 try simp only [Act.put]
 try simp only [List.setIfInBounds_toArray]
 have y0 : w3.cell? ⟨W.heap.size + 1, 0, none⟩ = some (.int .u8 0) := (HX3.out.cell 0).trans rfl
 have y1 : w3.cell? ⟨W.heap.size + 1, 1, none⟩ = some (.int .u8 0) := (HX3.out.cell 1).trans rfl
 have y2 : w3.cell? ⟨W.heap.size + 1, 2, none⟩ = some (.int .i64 0) := (HX3.out.cell 2).trans rfl
 have yf := HX3.out.frozen
 have yl := HX3.out.lt
 have HX4 := Lib.hid (((HX3.out.set 0 (.int .u8 kind)).set 1 (.int .u8 trap)).set 2 (.int .i64 steps))
 have HY4 := Lib.hid (((HY3.out.far (a := ⟨W.heap.size + 1, 0, none⟩) hne (.int .u8 kind)).far (a := ⟨W.heap.size + 1, 1, none⟩) hne (.int .u8 trap)).far (a := ⟨W.heap.size + 1, 2, none⟩) hne (.int .i64 steps))
 have HA4 := Lib.hid (HA3.out.only3 (b := W.heap.size + 1) (fun k hk e => HN.out (e ▸ hk)) (.int .u8 kind) (.int .u8 trap) (.int .i64 steps) HK.out)
 have HB4 := Lib.hid (((HB3.out.setCell (p := ⟨W.heap.size + 1, 0, none⟩) (Nat.le_succ _) (.int .u8 kind)).setCell (p := ⟨W.heap.size + 1, 1, none⟩) (Nat.le_succ _) (.int .u8 trap)).setCell (p := ⟨W.heap.size + 1, 2, none⟩) (Nat.le_succ _) (.int .i64 steps))
 refine wpAnyH_ready (rs := [3]) (by kernel_rfl) (by simp) ?_
 refine AllReadyH.cons rfl (fun K' hK => ?_) AllReadyH.nil
 go_simp
 refine hK.out _ _ ⟨HY4.out, HA4.out⟩ (fun hHeld4 => ?_)
 clear hK K' hHeld y0 y1 y2 yf yl
 try simp only [Act.put]
 try simp only [List.setIfInBounds_toArray]
 generalize World.setCell _ _ _ = w4 at *
 have z0 : w4.cell? ⟨W.heap.size + 1, 0, none⟩ = some (.int .u8 kind) := (HX4.out.cell 0).trans rfl
 have z1 : w4.cell? ⟨W.heap.size + 1, 1, none⟩ = some (.int .u8 trap) := (HX4.out.cell 1).trans rfl
 have z2 : w4.cell? ⟨W.heap.size + 1, 2, none⟩ = some (.int .i64 steps) := (HX4.out.cell 2).trans rfl
 refine wpAnyH_take (i := 4) (v := .string ⟨S2.out.toArray⟩) rfl (by kernel_rfl) (by kernel_rfl) (by kernel_rfl) (fun _ _ _ h => h) (Or.inl ⟨by rfl, ?_⟩) hHeld4 ?_
 ·intro w9 hS9
  go_simp
 try simp only [Act.put]
 try simp only [List.setIfInBounds_toArray]
 refine wpAnyH_done (by kernel_rfl) ?_ _
 simp only [List.getElem_toArray, List.getElem_cons_succ, List.getElem_cons_zero, List.set_cons_zero, List.set_cons_succ]
 go_wp2_with fail
 refine bodyPost_ret (v := .tuple #[.agg #[.int .u8 kind, .int .u8 trap, .int .i64 steps], .string ⟨S2.out.toArray⟩]) ?_ rfl ⟨by rw [HO2.out], HB4.out⟩
 simp [results, Tryz.results21, go_sem, z0, z1, z2]
end Go.Proofs.YtabenhpjgjjgnaaGreatDoor
/- separatumlaw20. -/
namespace Go.Proofs.YtabenhpjgjjgnaaGreatDoor
open Go.RowKit
set_option maxRecDepth 100000
attribute [local go_sem ↓] Go.wp_at_zero Go.wp_at_succ
structure IA where
 op : Nat
 A : Option Addr
 c : Nat
 args : List Int
def iaCells (x : IA) : List Value := [.int .u8 x.op, .slice x.A x.args.length x.c]
theorem inss_of {w : World} {g : Nat} (l : List IA) (h : Bx g (l.flatMap iaCells).toArray 47 w) (hA : ∀ x ∈ l, K16.Ints w x.A x.args ∧ x.op < 256 ∧ x.args.length ≤ 17592186044416) : K16.Inss w (some ⟨g, 0, none⟩) (l.map fun x => (x.op, x.args)) := by
 refine .inr ⟨g, 0, rfl, h.lt, fun j hj => ?_⟩
 rw [List.length_map] at hj
 have hx : l.getD j ⟨0, none, 0, []⟩ ∈ l := getD_mem' _ _ _ hj
 obtain ⟨h1, h2, h3⟩ := hA _ hx
 have e : (l.map fun x => (x.op, x.args)).getD j (0, []) = ((l.getD j ⟨0, none, 0, []⟩).op, (l.getD j ⟨0, none, 0, []⟩).args) := by simp [List.getD_eq_getElem?_getD, hj]
 have hc : ∀ t, t < 2 → w.cell? ⟨g, 0 + j * 2 + t, none⟩ = (iaCells (l.getD j ⟨0, none, 0, []⟩))[t]? := fun t ht => by
  rw [h.cell, Nat.zero_add, List.getElem?_toArray, flat8 iaCells 2 (fun _ => rfl) l ⟨0, none, 0, []⟩ j t hj ht]
 rw [e]
 exact ⟨_, _, (hc 0 (by omega)).trans rfl, (hc 1 (by omega)).trans rfl, h1, h2, h3⟩
theorem ints_new (w : World) (x : Int) : K16.Ints (w.alloc (.cells #[.int .i64 x] 3)) (some ⟨w.heap.size, 0, none⟩) [x] :=
 .inr ⟨w.heap.size, 0, rfl, by simp, fun j hj => by
  obtain rfl : j = 0 := by simpa using hj
  exact ((Bx.new w #[.int .i64 x] 3).cell 0).trans rfl⟩
theorem enc_lit : K16.encodeL litP = (K16.bytesOf litP, 0) := by decide +kernel
theorem enc_jmp : K16.encodeL jmpP = (K16.bytesOf jmpP, 0) := by decide +kernel
theorem enc_add : K16.encodeL addP = (K16.bytesOf addP, 0) := by decide +kernel
def divP : List K16.InsL := [(40, [1]), (40, [0]), (11, [])]
theorem enc_div : K16.encodeL divP = (K16.bytesOf divP, 0) := by decide +kernel
theorem len_lit : (K16.bytesOf litP).length ≤ 65535 := by decide +kernel
theorem len_jmp : (K16.bytesOf jmpP).length ≤ 65535 := by decide +kernel
theorem len_add : (K16.bytesOf addP).length ≤ 65535 := by decide +kernel
theorem len_div : (K16.bytesOf divP).length ≤ 65535 := by decide +kernel
theorem div_comes : Comes (K16.bytesOf divP) 9 2 4 3 [] := fun K ko k S h => by
 obtain ⟨e1, e2⟩ := one_lit 1 (by omega)
 obtain ⟨e3, e4⟩ := one_lit 0 (by omega)
 have l1 : (K16.bytesOf [(40, [1])]).length = 3 := by decide
 have l2 : (K16.bytesOf [(40, [1]), (40, [0])]).length = 6 := by decide
 obtain ⟨S1, s1, h1⟩ := rn_lit k ko (x := 1) h (dec_at [] (40, [1]) [(40, [0]), (11, [])] (by decide) e1 rfl e2) (by omega) (by decide) (by decide) (by omega)
 refine run_on h (by decide) s1 ?_
 obtain ⟨S2, s2, h2⟩ := rn_lit k ko (x := 0) h1 (dec_at [(40, [1])] (40, [0]) [(11, [])] (by decide) e3 l1 e4) (by omega) (by decide) (by decide) (by omega)
 refine run_on h1 (by decide) s2 ?_
 have h3 := rn_op2 k ko (l := []) (x := 1) (y := 0) (n := 11) h2 (dec_at [(40, [1]), (40, [0])] (11, []) [] (m := 1) (by decide) (by decide) l2 (by decide)) (by decide) (by decide) (by decide)
 have hz : (opI 11 1 0).2 = 4 := by decide
 rw [if_neg (by rw [hz]; decide), hz] at h3
 obtain ⟨S3, s3, h3⟩ := h3
 exact run_trap h2 (by decide) (by decide) s3 h3
set_option maxHeartbeats 4000000 in
theorem alive20_any (w0 : World) (hE : Env w0) : Calls Tryz.prog 7 #[] w0 (BoolEnd w0 true) := by
 have HE0 := Lib.hid hE
 have HB0 := Lib.hid (Below.refl w0.heap.size w0)
 have hw0 := Nat.le_refl w0.heap.size
 clear hE
 go_enter Tryz.func7, Tryz.ntmps7
 go_wp2_with fail
 refine (ins_any 40 _ 1 1 _).mono ?_
 rintro e w1 ⟨rfl, hb⟩
 have HI0x1 := Lib.hid ((ints_new w0 7).later hb (Nat.le_refl _))
 replace hb := (alloc_below w0 (.cells #[.int .i64 7] 3)).trans (hb.mono (by simp))
 have HE1 := Lib.hid (HE0.out.below hb)
 have HB1 := Lib.hid (HB0.out.trans (hb.mono HB0.out.size))
 clear HE0 HB0
 clear hb
 go_wp2_with fail
 refine (ins_any 78 none 0 0 _).mono ?_
 rintro e w2 ⟨rfl, hb⟩
 have HI0x2 := Lib.hid (HI0x1.out.later hb (Nat.le_refl _))
 clear HI0x1
 have HE2 := Lib.hid (HE1.out.below hb)
 have HB2 := Lib.hid (HB1.out.trans (hb.mono HB1.out.size))
 clear HE1 HB1
 clear hb
 go_wp2_with fail
 refine (ins_any 65 none 0 0 _).mono ?_
 rintro e w3 ⟨rfl, hb⟩
 have HI0x3 := Lib.hid (HI0x2.out.later hb (Nat.le_refl _))
 clear HI0x2
 have HE3 := Lib.hid (HE2.out.below hb)
 have HB3 := Lib.hid (HB2.out.trans (hb.mono HB2.out.size))
 clear HE2 HB2
 clear hb
 go_wp2_with fail
 have hi := inss_of ([⟨40, some ⟨w0.heap.size, 0, none⟩, 1, [7]⟩, ⟨78, none, 0, []⟩, ⟨65, none, 0, []⟩] : List IA) ((Bx.new w3 #[.int .u8 40, .slice (some ⟨w0.heap.size, 0, none⟩) 1 1, .int .u8 78, .slice none 0 0, .int .u8 65, .slice none 0 0] 47).to rfl) (by
  intro x hx
  simp only [List.mem_cons, List.not_mem_nil, or_false] at hx
  rcases hx with rfl | rfl | rfl
  ·exact ⟨HI0x3.out.later (alloc_below _ _) (Nat.le_refl _), by simp only; omega, by simp⟩
  ·exact ⟨.inl rfl, by simp only; omega, by simp⟩
  ·exact ⟨.inl rfl, by simp only; omega, by simp⟩
  )
 have HIn := Lib.hid (show K16.Inss (w3.alloc (.cells #[.int .u8 40, .slice (some ⟨w0.heap.size, 0, none⟩) 1 1, .int .u8 78, .slice none 0 0, .int .u8 65, .slice none 0 0] 47)) (some ⟨w3.heap.size, 0, none⟩) litP from hi)
 clear hi HI0x3
 have HA := Lib.hid (alloc_below w3 (.cells #[.int .u8 40, .slice (some ⟨w0.heap.size, 0, none⟩) 1 1, .int .u8 78, .slice none 0 0, .int .u8 65, .slice none 0 0] 47))
 have HEc := Lib.hid (show K16.encodeL litP = (K16.bytesOf litP, 0) from enc_lit)
 refine (one20_any _ litP 3 (by show 3 ≤ 1000; omega) (by rw [HEc.out]) (by rw [HEc.out]; exact len_lit) _ HIn.out).mono ?_
 rw [HEc.out]
 rintro e w4 ⟨A2, A3, c2, c3, rfl, hM, hO, hb⟩
 replace hb := HA.out.trans (hb.mono HA.out.size)
 clear HA HIn HEc
 have HE4 := Lib.hid (HE3.out.below hb)
 have HB4 := Lib.hid (HB3.out.trans (hb.mono HB3.out.size))
 clear HE3 HB3
 clear hb
 have HM := Lib.hid hM
 have HO := Lib.hid hO
 clear hM hO
 go_wp2_with fail
 refine (ends_any _ (len_lit) 9 (by decide) _ _ _ _ (lit_comes) A2 A3 c2 c3 _ (HE4.out) HM.out HO.out).mono ?_
 rintro e w5 ⟨rfl, hb⟩
 clear HM HO
 have HE5 := Lib.hid (HE4.out.below hb)
 have HB5 := Lib.hid (HB4.out.trans (hb.mono HB4.out.size))
 clear HE4 HB4
 clear hb
 have hX0 := Bx.new w5 #[.int .u8 (1 : Nat), .int .u8 (0 : Nat), .int .i64 3] 38
 have ha := alloc_below w5 (.cells #[.int .u8 (1 : Nat), .int .u8 (0 : Nat), .int .i64 3] 38)
 have HE6 := Lib.hid (HE5.out.below ha)
 have HB6 := Lib.hid (HB5.out.trans (ha.mono HB5.out.size))
 have HX0_6 := Lib.hid hX0
 clear ha hX0 HE5 HB5
 go_upto_region 2 with (fail)
 generalize hg0 : w5.heap.size = g0 at *
 generalize World.alloc _ _ = w6 at *
 clear hg0
 go_wp2_with fail
 refine (ins_any 55 _ 1 1 _).mono ?_
 rintro e w7 ⟨rfl, hb⟩
 have HI0x7 := Lib.hid ((ints_new w6 (-3)).later hb (Nat.le_refl _))
 replace hb := (alloc_below w6 (.cells #[.int .i64 (-3)] 3)).trans (hb.mono (by simp))
 have HE7 := Lib.hid (HE6.out.below hb)
 have HB7 := Lib.hid (HB6.out.trans (hb.mono HB6.out.size))
 have HX0_7 := Lib.hid (HX0_6.out.grow hb)
 clear HE6 HB6 HX0_6
 clear hb
 go_wp2_with fail
 have hi := inss_of ([⟨55, some ⟨w6.heap.size, 0, none⟩, 1, [(-3)]⟩] : List IA) ((Bx.new w7 #[.int .u8 55, .slice (some ⟨w6.heap.size, 0, none⟩) 1 1] 47).to rfl) (by
  intro x hx
  simp only [List.mem_cons, List.not_mem_nil, or_false] at hx
  rcases hx with rfl
  ·exact ⟨HI0x7.out.later (alloc_below _ _) (Nat.le_refl _), by simp only; omega, by simp⟩
  )
 have HIn := Lib.hid (show K16.Inss (w7.alloc (.cells #[.int .u8 55, .slice (some ⟨w6.heap.size, 0, none⟩) 1 1] 47)) (some ⟨w7.heap.size, 0, none⟩) jmpP from hi)
 clear hi HI0x7
 have HA := Lib.hid (alloc_below w7 (.cells #[.int .u8 55, .slice (some ⟨w6.heap.size, 0, none⟩) 1 1] 47))
 have HEc := Lib.hid (show K16.encodeL jmpP = (K16.bytesOf jmpP, 0) from enc_jmp)
 refine (one20_any _ jmpP 1 (by show 1 ≤ 1000; omega) (by rw [HEc.out]) (by rw [HEc.out]; exact len_jmp) _ HIn.out).mono ?_
 rw [HEc.out]
 rintro e w8 ⟨A2, A3, c2, c3, rfl, hM, hO, hb⟩
 replace hb := HA.out.trans (hb.mono HA.out.size)
 clear HA HIn HEc
 have HE8 := Lib.hid (HE7.out.below hb)
 have HB8 := Lib.hid (HB7.out.trans (hb.mono HB7.out.size))
 have HX0_8 := Lib.hid (HX0_7.out.grow hb)
 clear HE7 HB7 HX0_7
 clear hb
 have HM := Lib.hid hM
 have HO := Lib.hid hO
 clear hM hO
 go_wp2_with fail
 refine (ends_any _ (len_jmp) 9 (by decide) _ _ _ _ (jmp_comes) A2 A3 c2 c3 _ (HE8.out) HM.out HO.out).mono ?_
 rintro e w9 ⟨rfl, hb⟩
 clear HM HO
 have HE9 := Lib.hid (HE8.out.below hb)
 have HB9 := Lib.hid (HB8.out.trans (hb.mono HB8.out.size))
 have HX0_9 := Lib.hid (HX0_8.out.grow hb)
 clear HE8 HB8 HX0_8
 clear hb
 have hX1 := Bx.new w9 #[.int .u8 (3 : Nat), .int .u8 (0 : Nat), .int .i64 9] 38
 have ha := alloc_below w9 (.cells #[.int .u8 (3 : Nat), .int .u8 (0 : Nat), .int .i64 9] 38)
 have HE10 := Lib.hid (HE9.out.below ha)
 have HB10 := Lib.hid (HB9.out.trans (ha.mono HB9.out.size))
 have HX0_10 := Lib.hid (HX0_9.out.grow ha)
 have HX1_10 := Lib.hid hX1
 clear ha hX1 HE9 HB9 HX0_9
 go_upto_region 3 with (fail)
 generalize hg1 : w9.heap.size = g1 at *
 generalize World.alloc _ _ = w10 at *
 clear hg1
 go_wp2_with fail
 refine (ins_any 1 none 0 0 _).mono ?_
 rintro e w11 ⟨rfl, hb⟩
 have HE11 := Lib.hid (HE10.out.below hb)
 have HB11 := Lib.hid (HB10.out.trans (hb.mono HB10.out.size))
 have HX0_11 := Lib.hid (HX0_10.out.grow hb)
 have HX1_11 := Lib.hid (HX1_10.out.grow hb)
 clear HE10 HB10 HX0_10 HX1_10
 clear hb
 go_wp2_with fail
 have hi := inss_of ([⟨1, none, 0, []⟩] : List IA) ((Bx.new w11 #[.int .u8 1, .slice none 0 0] 47).to rfl) (by
  intro x hx
  simp only [List.mem_cons, List.not_mem_nil, or_false] at hx
  rcases hx with rfl
  ·exact ⟨.inl rfl, by simp only; omega, by simp⟩
  )
 have HIn := Lib.hid (show K16.Inss (w11.alloc (.cells #[.int .u8 1, .slice none 0 0] 47)) (some ⟨w11.heap.size, 0, none⟩) addP from hi)
 clear hi
 have HA := Lib.hid (alloc_below w11 (.cells #[.int .u8 1, .slice none 0 0] 47))
 have HEc := Lib.hid (show K16.encodeL addP = (K16.bytesOf addP, 0) from enc_add)
 refine (one20_any _ addP 1 (by show 1 ≤ 1000; omega) (by rw [HEc.out]) (by rw [HEc.out]; exact len_add) _ HIn.out).mono ?_
 rw [HEc.out]
 rintro e w12 ⟨A2, A3, c2, c3, rfl, hM, hO, hb⟩
 replace hb := HA.out.trans (hb.mono HA.out.size)
 clear HA HIn HEc
 have HE12 := Lib.hid (HE11.out.below hb)
 have HB12 := Lib.hid (HB11.out.trans (hb.mono HB11.out.size))
 have HX0_12 := Lib.hid (HX0_11.out.grow hb)
 have HX1_12 := Lib.hid (HX1_11.out.grow hb)
 clear HE11 HB11 HX0_11 HX1_11
 clear hb
 have HM := Lib.hid hM
 have HO := Lib.hid hO
 clear hM hO
 go_wp2_with fail
 refine (ends_any _ (len_add) 9 (by decide) _ _ _ _ (add_comes) A2 A3 c2 c3 _ (HE12.out) HM.out HO.out).mono ?_
 rintro e w13 ⟨rfl, hb⟩
 clear HM HO
 have HE13 := Lib.hid (HE12.out.below hb)
 have HB13 := Lib.hid (HB12.out.trans (hb.mono HB12.out.size))
 have HX0_13 := Lib.hid (HX0_12.out.grow hb)
 have HX1_13 := Lib.hid (HX1_12.out.grow hb)
 clear HE12 HB12 HX0_12 HX1_12
 clear hb
 have hX2 := Bx.new w13 #[.int .u8 (2 : Nat), .int .u8 (14 : Nat), .int .i64 1] 38
 have ha := alloc_below w13 (.cells #[.int .u8 (2 : Nat), .int .u8 (14 : Nat), .int .i64 1] 38)
 have HE14 := Lib.hid (HE13.out.below ha)
 have HB14 := Lib.hid (HB13.out.trans (ha.mono HB13.out.size))
 have HX0_14 := Lib.hid (HX0_13.out.grow ha)
 have HX1_14 := Lib.hid (HX1_13.out.grow ha)
 have HX2_14 := Lib.hid hX2
 clear ha hX2 HE13 HB13 HX0_13 HX1_13
 go_upto_region 4 with (fail)
 generalize hg2 : w13.heap.size = g2 at *
 generalize World.alloc _ _ = w14 at *
 clear hg2
 go_wp2_with fail
 refine (ins_any 40 _ 1 1 _).mono ?_
 rintro e w15 ⟨rfl, hb⟩
 have HI0x15 := Lib.hid ((ints_new w14 1).later hb (Nat.le_refl _))
 replace hb := (alloc_below w14 (.cells #[.int .i64 1] 3)).trans (hb.mono (by simp))
 have HE15 := Lib.hid (HE14.out.below hb)
 have HB15 := Lib.hid (HB14.out.trans (hb.mono HB14.out.size))
 have HX0_15 := Lib.hid (HX0_14.out.grow hb)
 have HX1_15 := Lib.hid (HX1_14.out.grow hb)
 have HX2_15 := Lib.hid (HX2_14.out.grow hb)
 clear HE14 HB14 HX0_14 HX1_14 HX2_14
 clear hb
 go_wp2_with fail
 refine (ins_any 40 _ 1 1 _).mono ?_
 rintro e w16 ⟨rfl, hb⟩
 have HI1x16 := Lib.hid ((ints_new w15 0).later hb (Nat.le_refl _))
 replace hb := (alloc_below w15 (.cells #[.int .i64 0] 3)).trans (hb.mono (by simp))
 have HI0x16 := Lib.hid (HI0x15.out.later hb (Nat.le_refl _))
 clear HI0x15
 have HE16 := Lib.hid (HE15.out.below hb)
 have HB16 := Lib.hid (HB15.out.trans (hb.mono HB15.out.size))
 have HX0_16 := Lib.hid (HX0_15.out.grow hb)
 have HX1_16 := Lib.hid (HX1_15.out.grow hb)
 have HX2_16 := Lib.hid (HX2_15.out.grow hb)
 clear HE15 HB15 HX0_15 HX1_15 HX2_15
 clear hb
 go_wp2_with fail
 refine (ins_any 11 none 0 0 _).mono ?_
 rintro e w17 ⟨rfl, hb⟩
 have HI0x17 := Lib.hid (HI0x16.out.later hb (Nat.le_refl _))
 clear HI0x16
 have HI1x17 := Lib.hid (HI1x16.out.later hb (Nat.le_refl _))
 clear HI1x16
 have HE17 := Lib.hid (HE16.out.below hb)
 have HB17 := Lib.hid (HB16.out.trans (hb.mono HB16.out.size))
 have HX0_17 := Lib.hid (HX0_16.out.grow hb)
 have HX1_17 := Lib.hid (HX1_16.out.grow hb)
 have HX2_17 := Lib.hid (HX2_16.out.grow hb)
 clear HE16 HB16 HX0_16 HX1_16 HX2_16
 clear hb
 go_wp2_with fail
 have hi := inss_of ([⟨40, some ⟨w14.heap.size, 0, none⟩, 1, [1]⟩, ⟨40, some ⟨w15.heap.size, 0, none⟩, 1, [0]⟩, ⟨11, none, 0, []⟩] : List IA) ((Bx.new w17 #[.int .u8 40, .slice (some ⟨w14.heap.size, 0, none⟩) 1 1, .int .u8 40, .slice (some ⟨w15.heap.size, 0, none⟩) 1 1, .int .u8 11, .slice none 0 0] 47).to rfl) (by
  intro x hx
  simp only [List.mem_cons, List.not_mem_nil, or_false] at hx
  rcases hx with rfl | rfl | rfl
  ·exact ⟨HI0x17.out.later (alloc_below _ _) (Nat.le_refl _), by simp only; omega, by simp⟩
  ·exact ⟨HI1x17.out.later (alloc_below _ _) (Nat.le_refl _), by simp only; omega, by simp⟩
  ·exact ⟨.inl rfl, by simp only; omega, by simp⟩
  )
 have HIn := Lib.hid (show K16.Inss (w17.alloc (.cells #[.int .u8 40, .slice (some ⟨w14.heap.size, 0, none⟩) 1 1, .int .u8 40, .slice (some ⟨w15.heap.size, 0, none⟩) 1 1, .int .u8 11, .slice none 0 0] 47)) (some ⟨w17.heap.size, 0, none⟩) divP from hi)
 clear hi HI0x17 HI1x17
 have HA := Lib.hid (alloc_below w17 (.cells #[.int .u8 40, .slice (some ⟨w14.heap.size, 0, none⟩) 1 1, .int .u8 40, .slice (some ⟨w15.heap.size, 0, none⟩) 1 1, .int .u8 11, .slice none 0 0] 47))
 have HEc := Lib.hid (show K16.encodeL divP = (K16.bytesOf divP, 0) from enc_div)
 refine (one20_any _ divP 3 (by show 3 ≤ 1000; omega) (by rw [HEc.out]) (by rw [HEc.out]; exact len_div) _ HIn.out).mono ?_
 rw [HEc.out]
 rintro e w18 ⟨A2, A3, c2, c3, rfl, hM, hO, hb⟩
 replace hb := HA.out.trans (hb.mono HA.out.size)
 clear HA HIn HEc
 have HE18 := Lib.hid (HE17.out.below hb)
 have HB18 := Lib.hid (HB17.out.trans (hb.mono HB17.out.size))
 have HX0_18 := Lib.hid (HX0_17.out.grow hb)
 have HX1_18 := Lib.hid (HX1_17.out.grow hb)
 have HX2_18 := Lib.hid (HX2_17.out.grow hb)
 clear HE17 HB17 HX0_17 HX1_17 HX2_17
 clear hb
 have HM := Lib.hid hM
 have HO := Lib.hid hO
 clear hM hO
 go_wp2_with fail
 refine (ends_any _ (len_div) 9 (by decide) _ _ _ _ (div_comes) A2 A3 c2 c3 _ (HE18.out) HM.out HO.out).mono ?_
 rintro e w19 ⟨rfl, hb⟩
 clear HM HO
 have HE19 := Lib.hid (HE18.out.below hb)
 have HB19 := Lib.hid (HB18.out.trans (hb.mono HB18.out.size))
 have HX0_19 := Lib.hid (HX0_18.out.grow hb)
 have HX1_19 := Lib.hid (HX1_18.out.grow hb)
 have HX2_19 := Lib.hid (HX2_18.out.grow hb)
 clear HE18 HB18 HX0_18 HX1_18 HX2_18
 clear hb
 have hX3 := Bx.new w19 #[.int .u8 (2 : Nat), .int .u8 (4 : Nat), .int .i64 3] 38
 have ha := alloc_below w19 (.cells #[.int .u8 (2 : Nat), .int .u8 (4 : Nat), .int .i64 3] 38)
 have HE20 := Lib.hid (HE19.out.below ha)
 have HB20 := Lib.hid (HB19.out.trans (ha.mono HB19.out.size))
 have HX0_20 := Lib.hid (HX0_19.out.grow ha)
 have HX1_20 := Lib.hid (HX1_19.out.grow ha)
 have HX2_20 := Lib.hid (HX2_19.out.grow ha)
 have HX3_20 := Lib.hid hX3
 clear ha hX3 HE19 HB19 HX0_19 HX1_19 HX2_19
 go_upto_region 5 with (fail)
 generalize hg3 : w19.heap.size = g3 at *
 generalize World.alloc _ _ = w20 at *
 clear hg3
 go_wp2_with fail
 refine (check_any none none 0 0 [] [] (by simp) (by simp) _ (.inl rfl) (.inl rfl)).mono ?_
 rintro e wz ⟨k0, rfl, hb⟩
 rw [show errMod (checkB [] []) = 200 by decide]
 have HBz := Lib.hid (HB20.out.trans (hb.mono HB20.out.size))
 have HZ0 := Lib.hid (HX0_20.out.grow hb)
 have HZ1 := Lib.hid (HX1_20.out.grow hb)
 have HZ2 := Lib.hid (HX2_20.out.grow hb)
 have HZ3 := Lib.hid (HX3_20.out.grow hb)
 clear hb
 have a0 : wz.cell? ⟨g0, 0, none⟩ = some (.int .u8 1) := (HZ0.out.cell 0).trans rfl
 have a1 : wz.cell? ⟨g0, 1, none⟩ = some (.int .u8 0) := (HZ0.out.cell 1).trans rfl
 have a2 : wz.cell? ⟨g0, 2, none⟩ = some (.int .i64 3) := (HZ0.out.cell 2).trans rfl
 have b0 : wz.cell? ⟨g1, 0, none⟩ = some (.int .u8 3) := (HZ1.out.cell 0).trans rfl
 have b1 : wz.cell? ⟨g1, 1, none⟩ = some (.int .u8 0) := (HZ1.out.cell 1).trans rfl
 have b2 : wz.cell? ⟨g1, 2, none⟩ = some (.int .i64 9) := (HZ1.out.cell 2).trans rfl
 have d0 : wz.cell? ⟨g2, 0, none⟩ = some (.int .u8 2) := (HZ2.out.cell 0).trans rfl
 have d1 : wz.cell? ⟨g2, 1, none⟩ = some (.int .u8 14) := (HZ2.out.cell 1).trans rfl
 have d2 : wz.cell? ⟨g2, 2, none⟩ = some (.int .i64 1) := (HZ2.out.cell 2).trans rfl
 have f0 : wz.cell? ⟨g3, 0, none⟩ = some (.int .u8 2) := (HZ3.out.cell 0).trans rfl
 have f1 : wz.cell? ⟨g3, 1, none⟩ = some (.int .u8 4) := (HZ3.out.cell 1).trans rfl
 have f2 : wz.cell? ⟨g3, 2, none⟩ = some (.int .i64 3) := (HZ3.out.cell 2).trans rfl
 go_wp2_with fail
 go_ret
 exact ⟨rfl, HBz.out⟩
end Go.Proofs.YtabenhpjgjjgnaaGreatDoor
/- What every row of this seat wants. -/
namespace Go.Proofs.YtabenhpjgjjgnaaGreatDoor
open Go.ChangeShapes Go.WideShapes Go.ChangeAt Go.RowKit
set_option maxRecDepth 100000
theorem own : ownKnob Tryz.prog.godebug = none := by kernel_rfl
theorem laidOut : laidOutB Tryz.prog = true := by kernel_rfl
theorem gSpace : Tryz.prog.globalNamed "strings.asciiSpace" = some 0 := by kernel_rfl
theorem gSpaceType : (Tryz.prog.globals[0]?).map (·.type) = some 294 := by kernel_rfl
theorem cells256 : Tryz.prog.cellsOf 294 = 256 := by kernel_rfl
theorem cells8 : Tryz.prog.cellsOf 5 = 1 := by kernel_rfl
theorem laidSpace : (Rows.laid_strings_asciiSpace : DataW Unit) = Lib.tabData .u8 Lib.asciiSpaceTab := by kernel_rfl
theorem gPow : Tryz.prog.globalNamed "internal/strconv.uint64pow10" = some 3 := by kernel_rfl
theorem gPowType : (Tryz.prog.globals[3]?).map (·.type) = some 341 := by kernel_rfl
theorem cells20 : Tryz.prog.cellsOf 341 = 20 := by kernel_rfl
theorem cells64 : Tryz.prog.cellsOf 104 = 1 := by kernel_rfl
theorem laidPow : (Rows.laid_internal_strconv_uint64pow10 : DataW Unit) = Lib.tabData .u64 Lib.pow10Tab := by kernel_rfl
def listed : List (String × DataW Unit) := [("math/bits.deBruijn32tab", Rows.laid_math_bits_deBruijn32tab), ("math/bits.deBruijn64tab", Rows.laid_math_bits_deBruijn64tab), ("internal/strconv.uint64pow10", Rows.laid_internal_strconv_uint64pow10), ("unicode.White_Space", Rows.laid_unicode_White_Space), ("strings.asciiSpace", Rows.laid_strings_asciiSpace)]
theorem env_of_laid {W : World} (h : laidMetH Tryz.prog listed W) : Env W := by
 constructor
 ·have h1 : laidMetH Tryz.prog [("strings.asciiSpace", Rows.laid_strings_asciiSpace)] W := laidMetH.filter (fun x => x.1 == "strings.asciiSpace") h
  rw [laidSpace] at h1
  have h2 : Lib.TabIs Tryz.prog W "strings.asciiSpace" .u8 Lib.asciiSpaceTab := Lib.tabIs_of_head (rest := []) gSpace gSpaceType Tryz.underlying294 Tryz.underlying5 cells8 cells256 h1
  intro c hc
  rw [h2.cell gSpace c (by rw [Lib.asciiSpaceTab_length]; exact hc), Lib.asciiSpaceTab_at c hc]
 ·have h1 : laidMetH Tryz.prog [("internal/strconv.uint64pow10", Rows.laid_internal_strconv_uint64pow10)] W := laidMetH.filter (fun x => x.1 == "internal/strconv.uint64pow10") h
  rw [laidPow] at h1
  exact Lib.tabIs_of_head (rest := []) gPow gPowType Tryz.underlying341 Tryz.underlying104 cells64 cells20 h1
def rowCells : DataW Unit → Array Value
 | .agg l => (l.map fun
   | .lit (.int k z) => Value.int k z
   | _ => undef).toArray
 | _ => #[]
noncomputable def laidWorld (os : Os) : World :=
 let N := (World.settled Tryz.prog os).heap.size
 let w0 := World.holding Tryz.prog os ⟨#[.cells (Lib.whiteT.map fun (z : Nat) => Value.int .u16 (z : Int)).toArray 330, .cells #[.slice (some ⟨N, 0, none⟩) 7 7, .slice none 0 0, .int .i64 2] 328], #[], []⟩
 let put (h : Array Obj) (g : Nat) (cs : Array Value) : Array Obj := h.modify g fun
  | .cells _ t frozen => .cells cs t frozen
  | o => o
 { w0 with heap := put (put (put (put (put w0.heap 0 (Lib.asciiSpaceTab.map fun z => Value.int .u8 z).toArray) 1 #[.pointer (some ⟨N + 1, 0, none⟩)]) 3 (Lib.pow10Tab.map fun z => Value.int .u64 z).toArray) 4 (rowCells Rows.laid_math_bits_deBruijn32tab)) 5 (rowCells Rows.laid_math_bits_deBruijn64tab) }
theorem laid_met (os : Os) (args : Array Value) : laidMet Tryz.prog listed ((laidWorld os).forCall (fun _ _ => 0) ⟨#[], args, []⟩).memory :=
 laidMet_of_run3 10 (by kernel_rfl) (by kernel_rfl) (by kernel_rfl)
theorem trodAll_below {H : Type} {enc : TypeId × Value → H} {P : Program} (hl : laidOutB P = true) {W W' : World} (hb : Below W.heap.size W W') (ts : List TypeId) : ∀ {vs : List Value} {ds : List (DataW H)} {ps : List MemPlace},
 (∀ t ∈ ts, P.readableRec t = true ∧ t < P.types.size) → DataW.TrodAll enc P W 0 (fun _ => true) true ts vs ds ps → (∀ x ∈ ps, x.block < W.heap.size) →
  DataW.TrodAll enc P W' 0 (fun b => decide (b < W.heap.size)) true ts vs ds ps := by
 induction ts with
 | nil =>
   intro vs ds ps _ h _
   obtain ⟨rfl, rfl, rfl⟩ := trodAll_nil h
   exact trodAll_mk0
 | cons t ts ih =>
   intro vs ds ps ht h hlt
   obtain ⟨v, vs', d, ds', p, q, rfl, rfl, rfl, h0, hr⟩ := trodAll_cons h
   have h1 := ht t (List.mem_cons_self ..)
   exact trodAll_cons_mk (Below.trod hl h1.1 h1.2 h0 hb (fun x hx => hlt x (List.mem_append.2 (.inl hx)))) (ih (fun u hu => ht u (List.mem_cons_of_mem _ hu)) hr (fun x hx => hlt x (List.mem_append.2 (.inr hx))))
theorem law_post {H : Type} {enc : TypeId × Value → H} {f : Func} {s : ChangeSpec} {W W' : World} {args : Array Value} {ds gs : List (DataW H)} {before : List MemPlace}
 (hW : DataW.Whole enc Tryz.prog f.params.toList s.vars false W args.toList ds gs before) (hb : Below W.heap.size W W') (hv : s.vars = []) (hrt : f.resultTypes = #[4])
 (hts : ∀ t ∈ f.params.toList, Tryz.prog.readableRec t = true ∧ t < Tryz.prog.types.size) (hfn : s.fn H (ds ++ gs) = { results := [.lit (.bool true)], args := ds }) :
 s.post enc Tryz.prog f false true false false W args (.bool true) W' := by
 have hlt : ∀ p ∈ before, p.block < W.heap.size := fun p hp => hW.lt p hp
 obtain ⟨p, q, hA, hV, hpq, hz, hn⟩ := hW
 have hV2 := hV
 rw [hv] at hV2
 obtain ⟨rfl, rfl⟩ := trodVars_none hV2
 refine ⟨ds, [], before, [], p, [], ⟨p, [], hA, hV, hpq, hz, hn⟩, ?_, ?_, ?_, ?_, fun h => by cases h⟩
 ·rw [hfn, hrt]
  exact trodAll_cons_mk (shut_bool Tryz.underlying4 true) trodAll_mk0
 ·rw [hfn]
  exact trodAll_below laidOut hb _ hts hA (fun x hx => hlt x (by rw [hpq]; simpa using hx))
 ·rw [hfn, hv]
  rfl
 ·exact hb.frame _
end Go.Proofs.YtabenhpjgjjgnaaGreatDoor
/- A machine's mark, loads, stores, procs. -/
namespace Go.Proofs.YtabenhpjgjjgnaaGreatDoor
open Go.RowKit
set_option maxRecDepth 100000
attribute [local go_sem ↓] Go.wp_at_zero Go.wp_at_succ
def loadsM (K : MK) (at_ : Int) (S : St) : St × Nat := if inM K.n at_ then pushM K (loadM K.n S.ws at_) S else (S, 15)
theorem loadM_lt {n : Nat} {ws : Nat → Nat} (h : ∀ i, ws i < 65536) (at_ : Int) : loadM n ws at_ < 65536 := by unfold loadM; split; exact h _; omega
theorem loads_any (K : MK) (k : KOk K) (S : St) (s : SOk K S) (at_ : Int) (W : World) (h : At K S W) : Calls Tryz.prog 68 #[.pointer (some ⟨K.b, 0, none⟩), .int .i64 at_] W (OpEnd K W (loadsM K at_ S)) := by
 have HK := Lib.hid k
 have H := Lib.hid h
 have HS := Lib.hid s
 have c3 := h.c3
 have hlt := h.lt
 clear h k s
 go_enter Tryz.func68, Tryz.ntmps68
 go_wp2_with fail
 refine (load_any K.bm K.n S.ws at_ _ H.out.mem).mono ?_
 rintro e w1 ⟨rfl, hb1⟩
 have H1 := Lib.hid (H.out.grow hb1)
 have HO1 := Lib.hid (Only.of_below (bs := K.bs) hb1)
 have HL := Lib.hid (loadM_lt (n := K.n) H.out.mem.small at_)
 clear hb1 H
 cases hi : inM K.n at_
 ·have HR := Lib.hid (show loadsM K at_ S = (S, 15) by unfold loadsM; rw [hi]; rfl)
  go_wp2_with fail
  go_ret
  rw [HR.out]
  exact ⟨rfl, H1.out, HO1.out⟩
 ·have HR := Lib.hid (show loadsM K at_ S = pushM K (loadM K.n S.ws at_) S by unfold loadsM; rw [hi]; rfl)
  generalize loadM K.n S.ws at_ = x at *
  go_wp2_with fail
  refine (push_any K HK.out S HS.out x HL.out _ H1.out).mono ?_
  rintro e w2 ⟨rfl, h2, ho2⟩
  go_wp2_with fail
  go_ret
  rw [HR.out]
  exact ⟨rfl, h2, HO1.out.trans ho2⟩
theorem procs_any (K : MK) (S : St) (m p : Int) (h0 : 0 ≤ m) (h1 : m < K.mods.length) (W : World) (h : At K S W) : Calls Tryz.prog 149 #[.pointer (some ⟨K.b, 0, none⟩), .int .i64 m, .int .i64 p] W (fun e w' => e = .returned (.bool (decide (p < (K.mods.getD m.toNat default).procs.length))) ∧ W = w') := by
 have c1 := h.c1
 have hlt := h.lt
 obtain ⟨mb, mo, hmA, hmb, mt, hMI, _, kc, _⟩ := (h.mods.reads (mask_reads _ _)).at_ (j := m.toNat) (by omega)
 rw [hmA] at c1
 clear h hmA hMI
 generalize (K.mods.getD m.toNat default).procs.length = npl at *
 go_enter Tryz.func149, Tryz.ntmps149
 go_wp2_with fail
 go_ret
 exact ⟨rfl, rfl⟩
def marksM (K : MK) (S : St) : St × Nat := pushAll K (List.replicate 5 0) S
set_option maxHeartbeats 1000000 in
theorem mark_any (K : MK) (k : KOk K) (S : St) (s : SOk K S) (W : World) (h : At K S W) : Calls Tryz.prog 84 #[.pointer (some ⟨K.b, 0, none⟩)] W (OpEnd K W (marksM K S)) := by
 have HA := Lib.hid h
 have HS := Lib.hid s
 have HX := Lib.hid (show marksM K S = pushAll K (List.replicate 5 0) S from rfl)
 clear h s
 go_enter Tryz.func84, Tryz.ntmps84
 go_wp2_with fail
 go_loopg [4] (5) (fun g i wr => ∃ (j : Nat) (S2 : St), j + g = 5 ∧ i = .int .i64 j ∧ At K S2 wr ∧ SOk K S2 ∧ Only K.bs W wr ∧ marksM K S = pushAll K (List.replicate (5 - j) 0) S2)
 case atStart => exact ⟨0, S, by omega, rfl, HA.out, HS.out, Only.refl _ _, HX.out⟩
 case round =>
  clear HA HS HX
  obtain ⟨j, S2, hj, rfl, hA2, hS2, ho2, hX2⟩ := hrel
  have H2 := Lib.hid hA2
  have HO2 := Lib.hid ho2
  have HS2 := Lib.hid hS2
  have HX2 := Lib.hid hX2
  clear hA2 hS2 ho2 hX2
  by_cases hlt : j < 5
  ·have hjI : (j : Int) < 5 := by omega
   have HX3 := Lib.hid (show marksM K S = if (pushM K 0 S2).2 ≠ 0 then pushM K 0 S2 else pushAll K (List.replicate (5 - (j + 1)) 0) (pushM K 0 S2).1 by
    rw [HX2.out, show 5 - j = (5 - (j + 1)) + 1 by omega, List.replicate_succ]
    rfl)
   clear HX2
   go_wp2_with fail
   refine (push_any K k S2 HS2.out 0 (by omega) _ H2.out).mono ?_
   rintro e w5 ⟨rfl, h5, ho5⟩
   have HSP := Lib.hid (pushM_ok k HS2.out 0)
   have HO5 := Lib.hid (HO2.out.trans ho5)
   have H5 := Lib.hid h5
   clear h5 ho5 H2
   generalize pushM K 0 S2 = r2 at *
   obtain ⟨S3, t3⟩ := r2
   simp only at HSP H5 HX3
   by_cases ht3 : t3 = 0
   ·subst ht3
    have HX4 := Lib.hid (show marksM K S = pushAll K (List.replicate (5 - (j + 1)) 0) S3 by rw [HX3.out, if_neg (by simp)])
    clear HX3
    go_wp2_with fail
    go_roundg (gk - 1)
    case measure => omega
    case rel => exact ⟨j + 1, S3, by omega, by go_num, H5.out, HSP.out, HO5.out, HX4.out⟩
   ·have d := bne_iff_ne.2 (show (t3 : Int) ≠ 0 by omega)
    have HX4 := Lib.hid (show marksM K S = (S3, t3) by rw [HX3.out, if_pos (by simpa using ht3)])
    clear HX3
    go_wp2_with fail
    go_ret
    rw [HX4.out]
    exact ⟨rfl, H5.out, HO5.out⟩
  ·obtain rfl : j = 5 := by omega
   have HX4 := Lib.hid (show marksM K S = (S2, 0) by rw [HX2.out]; rfl)
   clear HX2
   go_wp2_with fail
   go_ret
   rw [HX4.out]
   exact ⟨rfl, H2.out, HO2.out⟩
end Go.Proofs.YtabenhpjgjjgnaaGreatDoor
