/- separatumlaw20. Arguments of types api. The row's closed facts, one by one. Condition: what lies in memory can lie there; what each theorem says. -/
import Derived.Test.YtabenhpjgjjgnaaGreatDoorBbi
import Derived.Test.YtabenhpjgjjgnaaGreatDoorBau
import Derived.Test.YtabenhpjgjjgnaaGreatDoorBaa
import Derived.Test.YtabenhpjgjjgnaaGreatDoorCards
import Derived.Test.YtabenhpjgjjgnaaGreatDoorTie
import Derived.ChangeMaps5
import Derived.Deep.Slices
import Derived.SizedLaws
import Derived.Lib.SmallJoins
import Derived.ProofKit
import Derived.OpenShut
import Derived.Deep.DeepHandedRow
/- separatumlaw20. -/
namespace Go.Proofs.YtabenhpjgjjgnaaGreatDoor
open Go.RowKit
set_option maxRecDepth 100000
attribute [local go_sem ↓] Go.wp_at_zero Go.wp_at_succ
theorem str_take20 (s : List UInt8) (k : Nat) : (⟨s.toArray⟩ : ByteArray).extract 0 k = ⟨(s.take k).toArray⟩ := by
 apply ByteArray.ext
 simp [ByteArray.extract, ByteArray.copySlice]
def Bts (w : World) (A : Option Addr) (xs : List Nat) : Prop := Each w A 1 xs.length fun j b o => w.cell? ⟨b, o, none⟩ = some (.int .u8 (xs.getD j 0 : Nat)) ∧ xs.getD j 0 < 256
theorem Bts.later {w w' : World} {A : Option Addr} {xs : List Nat} (h : Bts w A xs) (hb : Below w.heap.size w w') : Bts w' A xs := by
 rcases h with h | ⟨b, off, e, hlt, hc⟩
 ·exact .inl h
 ·exact .inr ⟨b, off, e, Nat.lt_of_lt_of_le hlt hb.size, fun j hj => ⟨(hb.cell (p := ⟨b, off + j * 1, none⟩) hlt).trans (hc j hj).1, (hc j hj).2⟩⟩
def fuelOf (xs : List Nat) (k : Nat) : Nat := (xs.take k).sum
theorem fuel_succ (xs : List Nat) (k : Nat) (h : k < xs.length) : fuelOf xs (k + 1) = fuelOf xs k + xs.getD k 0 := by
 unfold fuelOf
 rw [List.take_add_one, List.sum_append, List.getElem?_eq_getElem h, List.getD_eq_getElem?_getD, List.getElem?_eq_getElem h]
 simp
theorem fuel_le (xs : List Nat) (hx : ∀ j, j < xs.length → xs.getD j 0 < 256) : ∀ k, k ≤ xs.length → fuelOf xs k ≤ 256 * k
 | 0, _ => by simp [fuelOf]
 | k + 1, h => by
   have := fuel_le xs hx k (by omega)
   have := hx k (by omega)
   rw [fuel_succ xs k (by omega)]; omega
theorem alive_end {w w1 w2 : World} (h : Below w.heap.size w w1) (hb : Below w1.heap.size w1 w2) : BoolEnd w true (.returned (.bool true)) w2 := ⟨rfl, h.trans (hb.mono h.size)⟩
set_option maxHeartbeats 16000000 in
theorem pieces_any (A2 A3 A4 : Option Addr) (c2 c3 c4 : Nat) (ms : List ModL) (o : List Int) (xs : List Nat) (hms : ms.length ≤ 140737488355328) (hol : o.length ≤ 140737488355328) (st hp ou : Int) (hst0 : -9223372036854775808 ≤ st) (hst1 : st ≤ 9223372036854775807) (hhp0 : -9223372036854775808 ≤ hp) (hhp1 : hp ≤ 9223372036854775807) (hou0 : -9223372036854775808 ≤ ou) (hou1 : ou ≤ 9223372036854775807) (inp : List UInt8) (hin : inp.length ≤ 9223372036854775807) (w : World) (hE : Env w) (hM : Mods w A2 ms) (hO : Ints w A3 o) (hX : Bts w A4 xs) :
 Calls Tryz.prog 5 #[.agg #[.slice A2 ms.length c2, .slice A3 o.length c3], .agg #[.int .i64 st, .int .i64 hp, .int .i64 ou], .string ⟨inp.toArray⟩, .slice A4 xs.length c4] w (BoolEnd w true) := by
 have HB1 := Lib.hid (alloc_below w (.cells #[.slice A2 ms.length c2, .slice A3 o.length c3] 25))
 have HX1 := Lib.hid (Bx.new w #[.slice A2 ms.length c2, .slice A3 o.length c3] 25)
 have HR := Lib.hid (And.intro hst0 (And.intro hst1 (And.intro hhp0 (And.intro hhp1 (And.intro hou0 hou1)))))
 have HE := Lib.hid hE
 have HM := Lib.hid hM
 have HO := Lib.hid hO
 have HXS := Lib.hid hX
 have HMS := Lib.hid hms
 clear hE hM hO hX hst0 hst1 hhp0 hhp1 hou0 hou1
 go_enter Tryz.func5, Tryz.ntmps5
 go_upto_region 1 with fail
 have HB2 := Lib.hid (HB1.out.trans ((alloc_below (w.alloc (.cells #[.slice A2 ms.length c2, .slice A3 o.length c3] 25)) (.cells #[.int .i64 st, .int .i64 hp, .int .i64 ou] 27)).mono HB1.out.size))
 have HX2 := Lib.hid (HX1.out.grow (alloc_below (w.alloc (.cells #[.slice A2 ms.length c2, .slice A3 o.length c3] 25)) (.cells #[.int .i64 st, .int .i64 hp, .int .i64 ou] 27)))
 have HY2 := Lib.hid (show Bx (w.heap.size + 1) #[.int .i64 st, .int .i64 hp, .int .i64 ou] 27 ((w.alloc (.cells #[.slice A2 ms.length c2, .slice A3 o.length c3] 25)).alloc (.cells #[.int .i64 st, .int .i64 hp, .int .i64 ou] 27)) by simpa using Bx.new (w.alloc (.cells #[.slice A2 ms.length c2, .slice A3 o.length c3] 25)) #[.int .i64 st, .int .i64 hp, .int .i64 ou] 27)
 clear HB1 HX1
 generalize (w.alloc (.cells #[.slice A2 ms.length c2, .slice A3 o.length c3] 25)).alloc (.cells #[.int .i64 st, .int .i64 hp, .int .i64 ou] 27) = w2 at *
 have c0 : w2.cell? ⟨w.heap.size, 0, none⟩ = some (.slice A2 ms.length c2) := (HX2.out.cell 0).trans rfl
 have c1 : w2.cell? ⟨w.heap.size, 1, none⟩ = some (.slice A3 o.length c3) := (HX2.out.cell 1).trans rfl
 have e0 : w2.cell? ⟨w.heap.size + 1, 0, none⟩ = some (.int .i64 st) := (HY2.out.cell 0).trans rfl
 have e1 : w2.cell? ⟨w.heap.size + 1, 1, none⟩ = some (.int .i64 hp) := (HY2.out.cell 1).trans rfl
 have e2 : w2.cell? ⟨w.heap.size + 1, 2, none⟩ = some (.int .i64 ou) := (HY2.out.cell 2).trans rfl
 go_wp2_with fail
 refine (heavy_any A2 A3 c2 c3 ms o st hp ou inp 0 w2 (HM.out.later HB2.out (Nat.le_refl _))).mono ?_
 rintro e w3 ⟨hv, rfl, hh, hb3⟩
 have HB3 := Lib.hid (HB2.out.trans (hb3.mono HB2.out.size))
 have HX3 := Lib.hid (HX2.out.grow hb3)
 have HY3 := Lib.hid (HY2.out.grow hb3)
 clear hb3 c0 c1 e0 e1 e2 HX2 HY2
 cases hv with
 | true =>
   have HA := Lib.hid (alive20_any w3 (HE.out.below24 HB3.out))
   go_wp2_with fail
   refine HA.out.mono ?_
   rintro e w4 ⟨rfl, hb4⟩
   have HB4 := Lib.hid hb4
   clear hb4
   go_wp2_with fail
   go_ret
   exact alive_end HB3.out HB4.out
 | false =>
   by_cases h30 : 30 < xs.length
   ·have hI : (30 : Int) < (xs.length : Int) := by omega
    have HA := Lib.hid (alive20_any w3 (HE.out.below24 HB3.out))
    go_wp2_with fail
    refine HA.out.mono ?_
    rintro e w4 ⟨rfl, hb4⟩
    have HB4 := Lib.hid hb4
    clear hb4
    go_wp2_with fail
    go_ret
    exact alive_end HB3.out HB4.out
   ·have hI : ¬ (30 : Int) < (xs.length : Int) := by omega
    obtain ⟨hm70, ho100, hi32⟩ := hh rfl
    clear hh
    have hil : inp.length ≤ 1000000 := by omega
    have c0 : w3.cell? ⟨w.heap.size, 0, none⟩ = some (.slice A2 ms.length c2) := (HX3.out.cell 0).trans rfl
    have c1 : w3.cell? ⟨w.heap.size, 1, none⟩ = some (.slice A3 o.length c3) := (HX3.out.cell 1).trans rfl
    have e0 : w3.cell? ⟨w.heap.size + 1, 0, none⟩ = some (.int .i64 st) := (HY3.out.cell 0).trans rfl
    have e1 : w3.cell? ⟨w.heap.size + 1, 1, none⟩ = some (.int .i64 hp) := (HY3.out.cell 1).trans rfl
    have e2 : w3.cell? ⟨w.heap.size + 1, 2, none⟩ = some (.int .i64 ou) := (HY3.out.cell 2).trans rfl
    go_wp2_with fail
    have HM3 := Lib.hid (HM.out.later HB3.out (Nat.le_refl _))
    have HO3 := Lib.hid (HO.out.later HB3.out (Nat.le_refl _))
    have HE3 := Lib.hid (HE.out.below24 HB3.out)
    have HXS3 := Lib.hid (HXS.out.later HB3.out)
    refine new_all [] A2 A3 c2 c3 ms o HMS.out (by omega) st hp ou HR.out.1 HR.out.2.1 HR.out.2.2.1 HR.out.2.2.2.1 HR.out.2.2.2.2.1 HR.out.2.2.2.2.2 inp hil _ (fun _ hm => by cases hm) (HM3.out.later (B := w3.heap.size) (by
     exact ⟨rfl, rfl, rfl, by rw [mask_size]; exact Nat.le_refl _, fun k hk => mask_at _ _ (by simp)⟩) (Nat.le_refl _)) HO3.out _ (fun e w4 hN => ?_)
    rcases hN with ⟨x, hx, hne, rfl, hb4⟩ | ⟨hne, A, rfl, kA, gA, hA, lA, hb4⟩
    ·
     have HB4 := Lib.hid (HB3.out.trans (hb4.mono HB3.out.size))
     have HX4 := Lib.hid (HX3.out.grow hb4)
     have HY4 := Lib.hid (HY3.out.grow hb4)
     have HM4 := Lib.hid (HM3.out.later hb4 (Nat.le_refl _))
     have HO4 := Lib.hid (HO3.out.later hb4 (Nat.le_refl _))
     have HNE := Lib.hid hne
     clear hb4 hne HX3 HY3 HM3 HO3 c0 c1 e0 e1 e2 HXS3 HE3
     have c0 : w4.cell? ⟨w.heap.size, 0, none⟩ = some (.slice A2 ms.length c2) := (HX4.out.cell 0).trans rfl
     have c1 : w4.cell? ⟨w.heap.size, 1, none⟩ = some (.slice A3 o.length c3) := (HX4.out.cell 1).trans rfl
     have e0 : w4.cell? ⟨w.heap.size + 1, 0, none⟩ = some (.int .i64 st) := (HY4.out.cell 0).trans rfl
     have e1 : w4.cell? ⟨w.heap.size + 1, 1, none⟩ = some (.int .i64 hp) := (HY4.out.cell 1).trans rfl
     have e2 : w4.cell? ⟨w.heap.size + 1, 2, none⟩ = some (.int .i64 ou) := (HY4.out.cell 2).trans rfl
     go_wp2_with fail
     refine new_all [] A2 A3 c2 c3 ms o HMS.out (by omega) st hp ou HR.out.1 HR.out.2.1 HR.out.2.2.1 HR.out.2.2.2.1 HR.out.2.2.2.2.1 HR.out.2.2.2.2.2 inp hil _ (fun _ hm => by cases hm) (HM4.out.later (B := w4.heap.size) (by
      exact ⟨rfl, rfl, rfl, by rw [mask_size]; exact Nat.le_refl _, fun k hk => mask_at _ _ (by simp)⟩) (Nat.le_refl _)) HO4.out _ (fun e w5 hN => ?_)
     rcases hN with ⟨y, hy, hne2, rfl, hb5⟩ | ⟨hne2, _⟩
     ·obtain rfl : x = y := HNE.out.symm.trans hne2
      have HB5 := Lib.hid (HB4.out.trans (hb5.mono HB4.out.size))
      clear hb5 hne2 hy c0 c1 e0 e1 e2
      have HA := Lib.hid (alive20_any w5 (HE.out.below24 HB5.out))
      rcases hx with rfl | rfl | rfl
      all_goals
       go_wp2_with fail
       refine HA.out.mono ?_
       rintro e w6 ⟨rfl, hb6⟩
       have HB6 := Lib.hid hb6
       clear hb6
       go_wp2_with fail
       go_ret
       exact alive_end HB5.out HB6.out
     ·exact absurd (HNE.out.symm.trans hne2) (by rcases hx with h | h | h <;> rw [h] <;> decide)
    ·have HCK : checkB ms o = true := by
      unfold newErr at hne
      cases h : checkB ms o with
      | true => rfl
      | false => rw [if_pos h] at hne; omega
     have HCK := Lib.hid HCK
     have HB4 := Lib.hid (HB3.out.trans (hb4.mono HB3.out.size))
     have HX4 := Lib.hid (HX3.out.grow hb4)
     have HY4 := Lib.hid (HY3.out.grow hb4)
     have HM4 := Lib.hid (mods_masked HM3.out hb4 lA)
     have HO4 := Lib.hid (HO3.out.later hb4 (Nat.le_refl _))
     have HXS4 := Lib.hid (HXS3.out.later hb4)
     have HNE := Lib.hid hne
     have HKA := Lib.hid kA
     have HGA := Lib.hid gA
     have HAA := Lib.hid (show At A (startG A inp) w4 from hA)
     have HLA := Lib.hid lA
     have HBA := Lib.hid hb4
     clear hb4 hne HX3 HY3 HM3 HO3 c0 c1 e0 e1 e2 HXS3 kA gA hA lA
     have c0 : w4.cell? ⟨w.heap.size, 0, none⟩ = some (.slice A2 ms.length c2) := (HX4.out.cell 0).trans rfl
     have c1 : w4.cell? ⟨w.heap.size, 1, none⟩ = some (.slice A3 o.length c3) := (HX4.out.cell 1).trans rfl
     have e0 : w4.cell? ⟨w.heap.size + 1, 0, none⟩ = some (.int .i64 st) := (HY4.out.cell 0).trans rfl
     have e1 : w4.cell? ⟨w.heap.size + 1, 1, none⟩ = some (.int .i64 hp) := (HY4.out.cell 1).trans rfl
     have e2 : w4.cell? ⟨w.heap.size + 1, 2, none⟩ = some (.int .i64 ou) := (HY4.out.cell 2).trans rfl
     go_wp2_with fail
     refine new_all A.bs A2 A3 c2 c3 ms o HMS.out (by omega) st hp ou HR.out.1 HR.out.2.1 HR.out.2.2.1 HR.out.2.2.2.1 HR.out.2.2.2.2.1 HR.out.2.2.2.2.2 inp hil _ HAA.out.old HM4.out HO4.out _ (fun e w5 hN => ?_)
     rcases hN with ⟨y, hy, hne2, _, _⟩ | ⟨_, B, rfl, kB, gB, hB, lB, hb5⟩
     ·exact absurd (HNE.out.symm.trans hne2) (by rcases hy with h | h | h <;> rw [h] <;> decide)
     clear c0 c1 e0 e1 e2
     have hal : Alike A B := HGA.out.alike gB
     have HXS5 := Lib.hid (HXS4.out.later hb5)
     have hmost : 0 ≤ A.most := by have := HGA.out.most; have := HNE.out; unfold newErr termErr at this; rw [HCK.out] at this; simp only [Bool.true_eq_false, if_false] at this; split at this <;> first | omega | (split at this <;> first | omega | (split at this <;> omega))
     have hrest := rest_start HKA.out hmost inp
     have hrestB : Rest B (startG A inp) := by
      rw [start_alike hal]
      exact (rest_start kB (by rw [← hal.most]; exact hmost) inp).1
     have hlen : ∀ j, j < xs.length → xs.getD j 0 < 256 := fun j hj => by
      obtain ⟨_, _, _, _, hP⟩ := Each.at_ HXS.out hj
      exact hP.2
     have hfl := fuel_le xs hlen
     have hok := start_hok A inp
     have HB5 := Lib.hid (HBA.out.trans (hb5.mono HBA.out.size))
     have HBW5 := Lib.hid (HB4.out.trans (hb5.mono HB4.out.size))
     have HA5 := Lib.hid (HAA.out.grow hb5)
     have HBB := Lib.hid (show At { B with bs := A.bs ++ B.bs } (startG A inp) w5 by rw [start_alike hal]; exact hB)
     have HKB := Lib.hid kB
     have HFA := Lib.hid (facts_new HKA.out HGA.out HNE.out (by omega))
     have HFB := Lib.hid (facts_new kB gB HNE.out (by omega))
     have HAL := Lib.hid hal
     have HLB := Lib.hid (fun b (hb : b ∈ B.bs) => Nat.le_trans HBA.out.size (lB b hb))
     have HAB := Lib.hid (show ∀ b ∈ B.bs, b ∉ A.bs from fun b hb hm => by have := HAA.out.old b hm; have := lB b hb; omega)
     have HRA := Lib.hid hrest
     have HRB := Lib.hid hrestB
     have HOK := Lib.hid hok
     have HL5 := Lib.hid (hB.old)
     have HLEN := Lib.hid hlen
     have HFL := Lib.hid hfl
     clear hb5 hB kB gB hal lB hrest hrestB hok hlen hfl HAA HBA HGA HXS4 HM4 HO4 HX4 HY4 HB4 HNE HCK hmost hol HR
     generalize startG A inp = S at *
     have HS0 := Lib.hid (show S.steps = 0 from HRA.out.2.1)
     have HZ := Lib.hid (run_zero (K := A) HS0.out)
     obtain ⟨q0, q1, q2, hq⟩ : ∃ (k t : Nat) (x : Int), endOf S = (k, t, x) := ⟨_, _, _, rfl⟩
     have HV := Lib.hid (show eE S = #[.int .u8 q0, .int .u8 q1, .int .i64 q2] by unfold eE; rw [hq])
     have hrun := run_all A HKA.out HFA.out 0 (by omega) S HRA.out.1 (by have := HS0.out; omega) S.args w5 HA5.out (envK24 HE3.out HB5.out HLA.out)
     rw [HZ.out] at hrun
     have HRUN := Lib.hid hrun
     clear hrun hq
     go_wp2_with fail
     refine HRUN.out.mono ?_
     rintro e w6 ⟨he, ho6, a6, hA6⟩
     rw [show (#[.int .u8 ((endOf S).1 : Nat), .int .u8 ((endOf S).2.1 : Nat), .int .i64 (endOf S).2.2] : Array Value) = eE S from rfl, HV.out] at he
     subst he
     have HA6 := Lib.hid hA6
     have HB6 := Lib.hid (HB5.out.trans (ho6.below HB5.out.size HLA.out))
     have HBB6 := Lib.hid (HBB.out.apart HKB.out ho6 HAB.out)
     have HD6 := Lib.hid (alloc_below w6 (.cells #[.int .u8 q0, .int .u8 q1, .int .i64 q2] 38))
     have HX7 := Lib.hid (Bx.new w6 #[.int .u8 q0, .int .u8 q1, .int .i64 q2] 38)
     have H6 := Lib.hid (show ∀ b ∈ A.bs ++ B.bs, b < w6.heap.size from fun b hb => Nat.lt_of_lt_of_le (HL5.out b hb) ho6.size)
     have HRN := Lib.hid (show Rn2 A B S w3 w6 from ⟨HKA.out, HKB.out, HFA.out, HFB.out, HRA.out.1, HRB.out, HOK.out, HS0.out, HE3.out, HLA.out, HLB.out, HAB.out, ⟨_, HA6.out⟩, HB6.out.size, H6.out⟩)
     have HP7 := Lib.hid (show Pc A B S S w3 w6 (w6.alloc (.cells #[.int .u8 q0, .int .u8 q1, .int .i64 q2] 38)) from
      ⟨HB6.out.trans (HD6.out.mono HB6.out.size), ⟨_, HA6.out.grow HD6.out⟩, Only.of_below HD6.out, (HBB6.out.widen HD6.out (Nat.le_refl _) HX7.out.lt).same (fun b => by simp only [List.mem_append, List.mem_singleton]; constructor <;> (intro h; rcases h with (h | h) | h <;> simp [h]))⟩)
     clear HA6 HBB6 HD6 hA6 ho6 HRUN HA5 HBB HB5 HBW5 HRB HOK HL5 HFA HFB HLB HE
     go_wp2_with fail
     have HY7 := Lib.hid (show Bx w6.heap.size (eE S) 38 (w6.alloc (.cells #[.int .u8 q0, .int .u8 q1, .int .i64 q2] 38)) by rw [HV.out]; exact HX7.out)
     clear HX7 HV
     generalize w6.alloc (.cells #[.int .u8 q0, .int .u8 q1, .int .i64 q2] 38) = w7 at *
     go_loopg [13, 14, 16] xs.length (fun g vf vo vi wr => ∃ k : Nat, k + g = xs.length ∧ vi = .int .i64 k ∧ vf = .int .i64 (fuelOf xs k) ∧ vo = .string ⟨(runF A (fuelOf xs k) S).out.toArray⟩ ∧ Pc A B (runF A (fuelOf xs k) S) S w3 w6 wr ∧ Bx w6.heap.size (eE (runF A (fuelOf xs k) S)) 38 wr)
     case atStart =>
      refine ⟨0, by omega, rfl, rfl, ?_, ?_, ?_⟩
      ·rw [show ((fuelOf xs 0 : Nat) : Int) = 0 from rfl, HZ.out, HRA.out.2.2]
      ·rw [show ((fuelOf xs 0 : Nat) : Int) = 0 from rfl, HZ.out]; exact HP7.out
      ·rw [show ((fuelOf xs 0 : Nat) : Int) = 0 from rfl, HZ.out]; exact HY7.out
     case round =>
      clear HP7 HY7
      obtain ⟨k, hk, rfl, rfl, rfl, hP, hY⟩ := hrel
      have HP := Lib.hid hP
      have HY := Lib.hid hY
      clear hP hY
      have hfk := HFL.out k (by omega)
      obtain ⟨r1, r2, r3, r4, r5, r6, r7⟩ := run_facts HKA.out HRA.out.1 HS0.out (f := (fuelOf xs k : Nat)) (by omega)
      by_cases hlt : k < xs.length
      ·have hkI : (k : Int) < (xs.length : Int) := by omega
       have hbw := HB3.out.trans (HP.out.hb.mono HB3.out.size)
       obtain ⟨b, off, hA4, hbl, hPP⟩ := Each.at_ (HXS.out.later hbw) hlt
       have HSU := Lib.hid (fuel_succ xs k hlt)
       have hfk1 := HFL.out (k + 1) (by omega)
       rw [HSU.out] at hfk1
       have HF1 := Lib.hid (run_facts HKA.out HRA.out.1 HS0.out (f := (fuelOf xs k + xs.getD k 0 : Nat)) (by omega))
       have HPI := Lib.hid (run_piece HKA.out HRA.out.1 HS0.out (f := (fuelOf xs k : Nat)) (g := (fuelOf xs k + xs.getD k 0 : Nat)) (by omega) (by omega))
       have HPO := Lib.hid (run_out HKA.out HRA.out.1 HS0.out (f := (fuelOf xs k : Nat)) (g := (fuelOf xs k + xs.getD k 0 : Nat)) (by omega) (by omega))
       have hrun := run_pc (n := (fuelOf xs k + xs.getD k 0 : Nat)) HRN.out (by omega) r1 (by omega) HP.out
       rw [HPI.out] at hrun
       generalize hS1 : runF A ((fuelOf xs k + xs.getD k 0 : Nat) : Int) S = S1 at *
       generalize hSk : runF A ((fuelOf xs k : Nat) : Int) S = Sk at *
       have HS1 := Lib.hid (show runF A ((fuelOf xs (k + 1) : Nat) : Int) S = S1 by rw [HSU.out]; exact hS1)
       clear hS1 hSk
       rw [Int.natCast_add] at hrun
       have hp1 := hPP.1
       have hp2 := hPP.2
       generalize xs.getD k 0 = y at *
       have HRUN := Lib.hid hrun
       subst hA4
       have hc : wr.cell? ⟨b, off + k, none⟩ = some (.int .u8 (y : Nat)) := by simpa using hp1
       clear hrun hPP hp1 r1 r2 r3 r4 r5 r6 r7 hbw
       generalize fuelOf xs k = f at *
       have hw8 : IntKind.i64.wrap (y : Int) = (y : Int) := IntWalk.i64_in _ (by omega)
       go_wp2_with fail
       refine HRUN.out.mono ?_
       rintro e w8 ⟨he, hP8, ho8⟩
       have HP8 := Lib.hid hP8
       have HY8 := Lib.hid (HY.out.only ho8 (fun hm => by have := HRN.out.b6 _ (List.mem_append_left _ hm); omega))
       obtain ⟨q0, q1, q2, hq⟩ : ∃ (k t : Nat) (x : Int), endOf S1 = (k, t, x) := ⟨_, _, _, rfl⟩
       have HV := Lib.hid (show eE S1 = #[.int .u8 q0, .int .u8 q1, .int .i64 q2] by unfold eE; rw [hq])
       rw [HV.out] at he
       subst he
       obtain ⟨_, _, _, v1, v2, v3, v4⟩ := HF1.out
       rw [hq] at v1 v2 v3 v4
       simp only at v1 v2 v3 v4
       rw [Int.natCast_add] at v1 v2
       obtain ⟨p0, p1, p2, hp⟩ : ∃ (k t : Nat) (x : Int), endOf Sk = (k, t, x) := ⟨_, _, _, rfl⟩
       have HYk := Lib.hid (show Bx w6.heap.size #[.int .u8 p0, .int .u8 p1, .int .i64 p2] 38 w8 by
        have := HY8.out
        unfold eE at this
        rw [hp] at this
        exact this)
       have x0 : w8.cell? ⟨w6.heap.size, 0, none⟩ = some (.int .u8 (p0 : Nat)) := (HYk.out.cell 0).trans rfl
       have x1 : w8.cell? ⟨w6.heap.size, 1, none⟩ = some (.int .u8 (p1 : Nat)) := (HYk.out.cell 1).trans rfl
       have x2 : w8.cell? ⟨w6.heap.size, 2, none⟩ = some (.int .i64 p2) := (HYk.out.cell 2).trans rfl
       have xf := HYk.out.frozen
       have HP9 := Lib.hid (Pc.set3 HRN.out HP8.out HYk.out (.int .u8 (q0 : Nat)) (.int .u8 (q1 : Nat)) q2)
       have HX9 := Lib.hid (show Bx w6.heap.size #[.int .u8 (q0 : Nat), .int .u8 (q1 : Nat), .int .i64 q2] 38 (((w8.setCell ⟨w6.heap.size, 0, none⟩ (.int .u8 (q0 : Nat))).setCell ⟨w6.heap.size, 1, none⟩ (.int .u8 (q1 : Nat))).setCell ⟨w6.heap.size, 2, none⟩ (.int .i64 q2)) from ((HYk.out.set 0 _).set 1 _).set 2 _)
       clear hP8 ho8 hc HP HRUN HY8 HYk hq hp HP8 HF1 HPI
       go_upto_region 17 with fail
       generalize ((w8.setCell ⟨w6.heap.size, 0, none⟩ (.int .u8 (q0 : Nat))).setCell ⟨w6.heap.size, 1, none⟩ (.int .u8 (q1 : Nat))).setCell ⟨w6.heap.size, 2, none⟩ (.int .i64 q2) = w9 at *
       clear x0 x1 x2 xf
       have HOUT := Lib.hid (out24 A S1 w9 HP9.out.aw)
       go_wp2_with fail
       refine HOUT.out.mono ?_
       rintro e w10 ⟨rfl, rfl⟩
       clear HOUT
       have x0 : w9.cell? ⟨w6.heap.size, 0, none⟩ = some (.int .u8 (q0 : Nat)) := (HX9.out.cell 0).trans rfl
       have x2 : w9.cell? ⟨w6.heap.size, 2, none⟩ = some (.int .i64 q2) := (HX9.out.cell 2).trans rfl
       obtain ⟨z, hz⟩ := HPO.out
       have HZZ := Lib.hid hz.symm
       have hzl : Sk.out.length ≤ S1.out.length := by rw [HZZ.out]; simp
       have hzI : ¬ (S1.out.length : Int) < (Sk.out.length : Int) := by omega
       have hex : ByteArray.extract ⟨S1.out.toArray⟩ 0 Sk.out.length = ⟨Sk.out.toArray⟩ := by rw [str_take20, HZZ.out, List.take_left]
       have v3b : ((q0 : Int) == 0) = false := beq_eq_false_iff_ne.2 (by omega)
       have v1b : ¬ (f : Int) + (y : Int) < q2 := by omega
       clear hz HPO
       go_wp2_with fail
       all_goals
        go_roundg (gk - 1)
        case measure => omega
        case rel =>
         refine ⟨k + 1, by omega, by go_num, ?_, ?_, ?_, ?_⟩
         ·rw [HSU.out]; congr 1
         ·rw [HS1.out]
         ·rw [HS1.out]; exact HP9.out
         ·rw [HS1.out, HV.out]; exact HX9.out
      ·obtain rfl : k = xs.length := by omega
       have hkI : ¬ ((xs.length : Nat) : Int) < (xs.length : Int) := by omega
       have HKD := Lib.hid (run_facts HKA.out HRA.out.1 HS0.out (f := (fuelOf xs xs.length : Nat)) (by omega))
       have HHK := Lib.hid (show HOk A.high A.hn (runF A (fuelOf xs xs.length : Nat) S).last (runF A (fuelOf xs xs.length : Nat) S).blocks from run_hok HKA.out _ HRA.out.1 HRN.out.hok)
       have hrun := run_pd (n := (fuelOf xs xs.length : Nat)) HRN.out (by omega) HP.out
       rw [← runF_alike HAL.out] at hrun
       generalize fuelOf xs xs.length = f at *
       generalize hS1 : runF A (f : Nat) S = S1 at *
       have HRUN := Lib.hid hrun
       obtain ⟨q0, q1, q2, hq⟩ : ∃ (k t : Nat) (x : Int), endOf S1 = (k, t, x) := ⟨_, _, _, rfl⟩
       have HV := Lib.hid (show eE S1 = #[.int .u8 q0, .int .u8 q1, .int .i64 q2] by unfold eE; rw [hq])
       have HW := Lib.hid (out24 A S1)
       have hYx : Bx w6.heap.size #[.int .u8 q0, .int .u8 q1, .int .i64 q2] 38 wr := by have := HY.out; rw [HV.out] at this; exact this
       have HYX := Lib.hid hYx
       clear hrun hYx HY r1 r2 r3 r4 r5 r6 r7 hS1 hq HW
       go_wp2_with fail
       refine HRUN.out.mono ?_
       rintro e w8 ⟨he, hD8, ho8⟩
       rw [HV.out] at he
       subst he
       have HY8 := Lib.hid (HYX.out.only ho8 (fun hm => by have := HRN.out.b6 _ (List.mem_append_right _ hm); omega))
       have HG8 := Lib.hid (alloc_below w8 (.cells #[.int .u8 q0, .int .u8 q1, .int .i64 q2] 38))
       have HZ8 := Lib.hid (Bx.new w8 #[.int .u8 q0, .int .u8 q1, .int .i64 q2] 38)
       have HD9 := Lib.hid (hD8.grow HKA.out HKB.out HG8.out)
       have HY9 := Lib.hid (HY8.out.grow HG8.out)
       clear hD8 ho8 HYX HY8 HG8 HP HRUN HXS5
       go_upto_region 22 with fail
       generalize w8.alloc (.cells #[.int .u8 q0, .int .u8 q1, .int .i64 q2] 38) = w9 at *
       generalize w8.heap.size = b18 at *
       generalize w6.heap.size = b15 at *
       have HC := Lib.hid (where_any A S1 w9 HD9.out.a)
       go_wp2_with fail
       refine HC.out.mono ?_
       rintro e w10 ⟨rfl, hb⟩
       have HD10 := Lib.hid (HD9.out.grow HKA.out HKB.out hb)
       have HY10 := Lib.hid (HY9.out.grow hb)
       have HZ10 := Lib.hid (HZ8.out.grow hb)
       clear HC hb HD9 HY9 HZ8
       have HC := Lib.hid (where_any B S1 w10 HD10.out.b)
       go_wp2_with fail
       refine HC.out.mono ?_
       rintro e w11 ⟨rfl, hb⟩
       have HD11 := Lib.hid (HD10.out.grow HKA.out HKB.out hb)
       have HY11 := Lib.hid (HY10.out.grow hb)
       have HZ11 := Lib.hid (HZ10.out.grow hb)
       clear HC hb HD10 HY10 HZ10
       have x0 : w11.cell? ⟨b15, 0, none⟩ = some (.int .u8 (q0 : Nat)) := (HY11.out.cell 0).trans rfl
       have x1 : w11.cell? ⟨b15, 1, none⟩ = some (.int .u8 (q1 : Nat)) := (HY11.out.cell 1).trans rfl
       have x2 : w11.cell? ⟨b15, 2, none⟩ = some (.int .i64 q2) := (HY11.out.cell 2).trans rfl
       have y0 : w11.cell? ⟨b18, 0, none⟩ = some (.int .u8 (q0 : Nat)) := (HZ11.out.cell 0).trans rfl
       have y1 : w11.cell? ⟨b18, 1, none⟩ = some (.int .u8 (q1 : Nat)) := (HZ11.out.cell 1).trans rfl
       have y2 : w11.cell? ⟨b18, 2, none⟩ = some (.int .i64 q2) := (HZ11.out.cell 2).trans rfl
       have HC := Lib.hid (out24 A S1 w11 HD11.out.a)
       have HC2 := Lib.hid (out24 B S1 w11 HD11.out.b)
       have HC3 := Lib.hid (depth_any A S1 w11 HD11.out.a)
       have HC4 := Lib.hid (depth_any B S1 w11 HD11.out.b)
       have HC5 := Lib.hid (blocks_any A S1 (hok_len HHK.out) w11 HD11.out.a.hp HD11.out.a.cell.2.1)
       go_wp2_with fail
       refine HC.out.mono ?_
       rintro e w12 ⟨rfl, rfl⟩
       go_wp2_with fail
       refine HC2.out.mono ?_
       rintro e w12 ⟨rfl, rfl⟩
       go_wp2_with fail
       refine HC3.out.mono ?_
       rintro e w12 ⟨rfl, rfl⟩
       go_wp2_with fail
       refine HC4.out.mono ?_
       rintro e w12 ⟨rfl, rfl⟩
       go_wp2_with fail
       refine HC5.out.mono ?_
       rintro e w12 ⟨rfl, hb⟩
       have HD12 := Lib.hid (HD11.out.grow HKA.out HKB.out hb)
       clear HC HC2 HC3 HC4 HC5 hb HD11 HY11 HZ11 x0 x1 x2 y0 y1 y2
       have HC := Lib.hid (blocks_any B S1 (hok_len HHK.out) w12 HD12.out.b.hp HD12.out.b.cell.2.1)
       go_wp2_with fail
       refine HC.out.mono ?_
       rintro e w13 ⟨rfl, hb⟩
       have HD13 := Lib.hid (HD12.out.grow HKA.out HKB.out hb)
       clear HC hb HD12
       go_wp2_with fail
       go_loopg [23] 299 (fun g vi wr => ∃ i : Nat, i + g = 300 ∧ vi = .int .i64 i ∧ Pd A B S1 S1 w3 wr)
       case atStart => exact ⟨1, rfl, rfl, HD13.out⟩
       case round =>
        clear HD13
        obtain ⟨i, hi, rfl, hD⟩ := hrel
        have HD := Lib.hid hD
        clear hD
        by_cases hi3 : i < 300
        ·have hiI : (i : Int) < 300 := by omega
         have HC := Lib.hid (wordAt_any A S1 i wr HD.out.a)
         go_wp2_with fail
         refine HC.out.mono ?_
         rintro e w14 ⟨rfl, hb⟩
         have HD14 := Lib.hid (HD.out.grow HKA.out HKB.out hb)
         clear HC hb HD
         have hc := wordAt_any B S1 i w14 HD14.out.b
         rw [← HAL.out.n] at hc
         have HC := Lib.hid hc
         clear hc
         go_wp2_with fail
         refine HC.out.mono ?_
         rintro e w15 ⟨rfl, hb⟩
         have HD15 := Lib.hid (HD14.out.grow HKA.out HKB.out hb)
         clear HC hb HD14
         generalize loadM A.n S1.ws i = lv at *
         generalize inM A.n i = iv at *
         go_wp2_with fail
         go_roundg (gk - 1)
         case measure => omega
         case rel => exact ⟨i + 1, by omega, by go_num, HD15.out⟩
        ·have hiI : ¬ (i : Int) < 300 := by omega
         have HC := Lib.hid (stop_any A S1 0 wr HD.out.a (fun _ => HKD.out.1.ste))
         go_wp2_with fail
         refine HC.out.mono ?_
         rintro e w14 ⟨he, hb⟩
         rw [HV.out] at he
         subst he
         have HD14 := Lib.hid (HD.out.grow HKA.out HKB.out hb)
         clear HC hb HD
         have HC := Lib.hid (stop_any A S1 f w14 HD14.out.a (fun h => by have := HKD.out.2.2.1 h; omega))
         go_wp2_with fail
         refine HC.out.mono ?_
         rintro e w15 ⟨he, hb⟩
         rw [HV.out] at he
         subst he
         have HD15 := Lib.hid (HD14.out.grow HKA.out HKB.out hb)
         clear HC hb HD14
         have HC := Lib.hid (alive20_any w15 (HE3.out.below24 HD15.out.hb))
         go_wp2_with fail
         refine HC.out.mono ?_
         rintro e w16 ⟨rfl, hb⟩
         have HB16 := Lib.hid hb
         clear hb HC
         go_wp2_with fail
         go_ret
         exact alive_end (HB3.out.trans (HD15.out.hb.mono HB3.out.size)) HB16.out
end Go.Proofs.YtabenhpjgjjgnaaGreatDoor
/- Arguments of types api. -/
namespace Go.Proofs.YtabenhpjgjjgnaaGreatDoor
open Go.ChangeShapes Go.WideShapes Go.ChangeAt Go.RowKit Go.Deep
set_option maxRecDepth 100000
theorem below_of_cell {w : World} {a : Addr} {v : Value} (h : w.cell? a = some v) : a.block < w.heap.size := by
 unfold World.cell? at h
 split at h
 ·rename_i he
  rcases Nat.lt_or_ge a.block w.heap.size with h' | h'
  ·exact h'
  ·rw [Array.getElem?_eq_none h'] at he; cases he
 ·cases h
theorem weights_all {H : Type} {P : Program} {e : TypeId} : ∀ {ds : List (DataW H)} {d : DataW H}, d ∈ ds → ∀ n ∈ d.weights P e, n ∈ DataW.weightsAll P e ds
 | d0 :: ds, d, hd, n, hn => by
   simp only [DataW.weightsAll, List.mem_append]
   rcases List.mem_cons.1 hd with rfl | h
   ·exact .inl hn
   ·exact .inr (weights_all h n hn)
theorem open_each {H : Type} {enc : TypeId × Value → H} {P : Program} {W : World} {fuel : Nat} {t e : TypeId} {v : Value} {d : DataW H} {p : List MemPlace} (ht : P.underlying t = some (.slice e)) (hpos : 0 < P.cellsOf e)
 (h : DataW.trod enc P W 0 (fun _ => true) true fuel t [v] = some (d, p)) (hz : ∀ k ∈ d.weights P t, k ≤ reachBytes) :
 ∃ A n cap, v = .slice A n cap ∧ n * P.bytesOf e ≤ reachBytes ∧ n ≤ maxLen ∧ Each W A (P.cellsOf e) n fun _ b o => ∃ cs k D Pl, cs.length = P.cellsOf e ∧ (∀ i, i < P.cellsOf e → W.cell? ⟨b, o + i, none⟩ = cs[i]?) ∧
   DataW.trod enc P W 0 (fun _ => true) true k e cs = some (D, Pl) ∧ ∀ m ∈ D.weights P e, m ≤ reachBytes := by
 rcases open_slice ht h with ⟨hcs, _⟩ | ⟨a, len, cap, m, k, D, Pl, hcs, _, hl, hm, hmm, hx, hi⟩
 ·obtain rfl : v = .slice none 0 0 := by simpa using hcs
  exact ⟨none, 0, 0, rfl, by simp, by simp, .inl rfl⟩
 ·obtain rfl : v = .slice (some a) len cap := by simpa using hcs
  simp only [if_true] at hmm
  subst hmm
  obtain ⟨rfl, _⟩ := Prod.mk.inj hx
  have hb := hz _ (by unfold DataW.weights; rw [ht]; exact List.mem_cons_self ..)
  refine ⟨some a, len, m, rfl, Nat.le_trans (Nat.mul_le_mul_right _ (by simp)) hb, by omega, ?_⟩
  rcases Nat.eq_zero_or_pos len with h0 | h0
  ·exact .inl h0
  ·have hsp : a.spot = none ∧ a.block < W.heap.size := by
    obtain ⟨cs, h1, _⟩ := hi 0 (by omega)
    obtain ⟨_, hlen, hc⟩ := World.cells?_some h1
    have hc0 := hc 0 hpos
    rw [List.getElem?_eq_getElem (by omega)] at hc0
    simp only [Nat.zero_mul] at hc0
    refine ⟨?_, ?_⟩
    ·have := World.cell?_spot hc0
     simpa [Addr.add] using this
    ·have := below_of_cell hc0
     simpa [Addr.add] using this
   obtain ⟨b, off, sp⟩ := a
   obtain ⟨hs1, hs2⟩ := hsp
   simp only at hs1 hs2
   subst hs1
   refine .inr ⟨b, off, rfl, hs2, fun j hj => ?_⟩
   obtain ⟨cs, h1, h2⟩ := hi j (by omega)
   obtain ⟨_, hlen, hc⟩ := World.cells?_some h1
   refine ⟨cs, k, D j, Pl j, hlen, fun i hi2 => ?_, h2, fun w hw => hz w ?_⟩
   ·rw [← hc i hi2, add_plain, add_plain]
   ·unfold DataW.weights; rw [ht]
    exact List.mem_cons_of_mem _ (List.mem_append_left _ (weights_all (List.mem_map.2 ⟨j, List.mem_range.2 hj, rfl⟩) w hw))
theorem Each.list {α : Type} [Inhabited α] {w : World} {A : Option Addr} {size n : Nat} {P : α → Nat → Nat → Prop} (h : Each w A size n fun _ b o => ∃ x, P x b o) : ∃ l : List α, l.length = n ∧ Each w A size l.length fun j b o => P (l.getD j default) b o := by
 rcases h with h | ⟨b, off, e, hlt, hc⟩
 ·exact ⟨[], by simp [h], .inl rfl⟩
 ·obtain ⟨f, hf⟩ := choose_lt (p := fun j x => P x b (off + j * size)) hc
  refine ⟨(List.range n).map f, by simp, .inr ⟨b, off, e, hlt, fun j hj => ?_⟩⟩
  simp only [List.length_map, List.length_range] at hj
  have : ((List.range n).map f).getD j default = f j := by simp [List.getD_eq_getElem?_getD, hj]
  rw [this]; exact hf j hj
theorem Each.imp {w : World} {A : Option Addr} {size n : Nat} {P Q : Nat → Nat → Nat → Prop} (h : Each w A size n P) (hPQ : ∀ j b o, P j b o → Q j b o) : Each w A size n Q := by
 rcases h with h | ⟨b, off, e, hlt, hc⟩
 ·exact .inl h
 ·exact .inr ⟨b, off, e, hlt, fun j hj => hPQ j b _ (hc j hj)⟩
theorem cells_int : Tryz.prog.cellsOf 3 = 1 := by kernel_rfl
theorem cells_u8 : Tryz.prog.cellsOf 5 = 1 := by kernel_rfl
theorem bytes_u8 : Tryz.prog.bytesOf 5 = 1 := by kernel_rfl
theorem cells_u16 : Tryz.prog.cellsOf 50 = 1 := by kernel_rfl
theorem cells_str : Tryz.prog.cellsOf 9 = 1 := by kernel_rfl
theorem cells_proc : Tryz.prog.cellsOf 113 = 6 := by kernel_rfl
theorem cells_mod : Tryz.prog.cellsOf 68 = 5 := by kernel_rfl
theorem cells_prg : Tryz.prog.cellsOf 25 = 2 := by kernel_rfl
theorem cells_ints : Tryz.prog.cellsOf 23 = 1 := by kernel_rfl
theorem cells_words : Tryz.prog.cellsOf 40 = 1 := by kernel_rfl
theorem cells_procs : Tryz.prog.cellsOf 66 = 1 := by kernel_rfl
theorem cells_mods : Tryz.prog.cellsOf 22 = 1 := by kernel_rfl
theorem cells_bool : Tryz.prog.cellsOf 4 = 1 := by kernel_rfl
theorem bytes_int : Tryz.prog.bytesOf 3 = 8 := by kernel_rfl
theorem bytes_u16 : Tryz.prog.bytesOf 50 = 2 := by kernel_rfl
theorem bytes_proc : 0 < Tryz.prog.bytesOf 113 := by decide +kernel
theorem bytes_mod : 0 < Tryz.prog.bytesOf 68 := by decide +kernel
theorem le_of_mul {n k : Nat} (hk : 0 < k) (h : n * k ≤ reachBytes) : n ≤ 140737488355328 := by
 have hr := reachBytes_lt
 have := Nat.le_mul_of_pos_right n hk
 omega
section
variable {H : Type} {enc : TypeId × Value → H} {W : World} {fuel : Nat} {v : Value} {d : DataW H} {p : List MemPlace}
theorem open_arg_ints (h : DataW.trod enc Tryz.prog W 0 (fun _ => true) true fuel 23 [v] = some (d, p)) (hz : ∀ n ∈ d.weights Tryz.prog 23, n ≤ reachBytes) :
 ∃ A cap xs, v = .slice A xs.length cap ∧ Ints W A xs ∧ xs.length ≤ 140737488355328 := by
 obtain ⟨A, n, cap, rfl, hn, _, he⟩ := open_each Tryz.underlying23 (by rw [cells_int]; omega) h hz
 rw [cells_int] at he
 obtain ⟨l, rfl, hl⟩ := (he.imp (Q := fun _ b o => ∃ x : Int, W.cell? ⟨b, o, none⟩ = some (.int .i64 x)) fun _ b o hx => by
  obtain ⟨cs, k, D, Pl, hlen, hc, ht, _⟩ := hx
  obtain ⟨x, rfl, _⟩ := DataW.trod_int Tryz.underlying3 ht
  exact ⟨x, hc 0 (by omega)⟩).list (P := fun x b o => W.cell? ⟨b, o, none⟩ = some (.int .i64 x))
 exact ⟨A, cap, l, rfl, hl, le_of_mul (by rw [bytes_int]; omega) hn⟩
theorem open_arg_words (h : DataW.trod enc Tryz.prog W 0 (fun _ => true) true fuel 40 [v] = some (d, p)) (hz : ∀ n ∈ d.weights Tryz.prog 40, n ≤ reachBytes) :
 ∃ A cap xs, v = .slice A xs.length cap ∧ Words W A xs ∧ xs.length ≤ 140737488355328 := by
 obtain ⟨A, n, cap, rfl, hn, _, he⟩ := open_each Tryz.underlying40 (by rw [cells_u16]; omega) h hz
 rw [cells_u16] at he
 obtain ⟨l, rfl, hl⟩ := (he.imp (Q := fun _ b o => ∃ x : Nat, W.cell? ⟨b, o, none⟩ = some (.int .u16 x) ∧ x < 65536) fun _ b o hx => by
  obtain ⟨cs, k, D, Pl, hlen, hc, ht, _⟩ := hx
  obtain ⟨x, rfl, _, hwf⟩ := DataW.trod_int Tryz.underlying50 ht
  have hb := bounds_u16 hwf
  obtain ⟨x, rfl⟩ := Int.eq_ofNat_of_zero_le hb.1
  exact ⟨x, hc 0 (by omega), by omega⟩).list (P := fun x b o => W.cell? ⟨b, o, none⟩ = some (.int .u16 (x : Nat)) ∧ x < 65536)
 exact ⟨A, cap, l, rfl, hl, le_of_mul (by rw [bytes_u16]; omega) hn⟩
theorem open_arg_bytes (h : DataW.trod enc Tryz.prog W 0 (fun _ => true) true fuel 61 [v] = some (d, p)) (hz : ∀ n ∈ d.weights Tryz.prog 61, n ≤ reachBytes) :
 ∃ A cap xs, v = .slice A xs.length cap ∧ Bts W A xs ∧ xs.length ≤ 140737488355328 := by
 obtain ⟨A, n, cap, rfl, hn, _, he⟩ := open_each Tryz.underlying61 (by rw [cells_u8]; omega) h hz
 rw [cells_u8] at he
 obtain ⟨l, rfl, hl⟩ := (he.imp (Q := fun _ b o => ∃ x : Nat, W.cell? ⟨b, o, none⟩ = some (.int .u8 x) ∧ x < 256) fun _ b o hx => by
  obtain ⟨cs, k, D, Pl, hlen, hc, ht, _⟩ := hx
  obtain ⟨x, rfl, _, hwf⟩ := DataW.trod_int Tryz.underlying5 ht
  have hb := bounds_u8 hwf
  obtain ⟨x, rfl⟩ := Int.eq_ofNat_of_zero_le hb.1
  exact ⟨x, hc 0 (by omega), by omega⟩).list (P := fun x b o => W.cell? ⟨b, o, none⟩ = some (.int .u8 (x : Nat)) ∧ x < 256)
 exact ⟨A, cap, l, rfl, hl, le_of_mul (by rw [bytes_u8]; omega) hn⟩
theorem open_fields {P : Program} {t : TypeId} {fs : Array Field} {cs : List Value} {spare : Nat → Bool} {held : Bool} {base : Nat} (ht : P.underlying t = some (.struct fs)) (h : DataW.trod enc P W base spare held fuel t cs = some (d, p)) (hz : ∀ k ∈ d.weights P t, k ≤ reachBytes) :
 cs.length = P.cellsOf t ∧ ∀ (i : Nat) (u : TypeId) (o : Nat), (fs[i]?).map (fun f => (f.type, f.offset)) = some (u, o) → ∃ n D Pl, DataW.trod enc P W base spare held n u ((cs.drop o).take (P.cellsOf u)) = some (D, Pl) ∧ ∀ k ∈ D.weights P u, k ≤ reachBytes := by
 obtain ⟨xs, n, _, hx, hl, hlen, hf⟩ := DataW.trod_struct ht h
 obtain ⟨rfl, _⟩ := Prod.mk.inj hx
 refine ⟨hl, fun i u o hio => ?_⟩
 obtain ⟨f, hi, huo⟩ := Option.map_eq_some_iff.1 hio
 obtain ⟨rfl, rfl⟩ := Prod.mk.inj huo
 have h1 := hf i f hi
 have hi2 : i < xs.length := by
  rw [hlen]
  rcases Nat.lt_or_ge i fs.size with h' | h'
  ·exact h'
  ·rw [Array.getElem?_eq_none h'] at hi; cases hi
 rw [List.getElem?_eq_getElem hi2] at h1
 refine ⟨n, (xs[i]).1, (xs[i]).2, h1, fun k hk => hz k ?_⟩
 unfold DataW.weights
 rw [ht]
 refine DataW.weights_mem_each (j := i) (t := f.type) (d := (xs[i]).1) ?_ ?_ k hk
 ·simp [hi]
 ·simp [hi2]
theorem open_arg_procs (h : DataW.trod enc Tryz.prog W 0 (fun _ => true) true fuel 66 [v] = some (d, p)) (hz : ∀ n ∈ d.weights Tryz.prog 66, n ≤ reachBytes) :
 ∃ A cap xs, v = .slice A xs.length cap ∧ Procs W A xs ∧ xs.length ≤ 140737488355328 := by
 obtain ⟨A, n, cap, rfl, hn, _, he⟩ := open_each Tryz.underlying66 (by rw [cells_proc]; omega) h hz
 rw [cells_proc] at he
 obtain ⟨l, rfl, hl⟩ := (he.imp (Q := fun _ b o => ∃ x : ProcL, ProcAt W b o x) fun _ b o hx => by
  obtain ⟨cs, k, D, Pl, hlen, hc, ht, hw⟩ := hx
  obtain ⟨_, hf⟩ := open_fields Tryz.underlying113 ht hw
  obtain ⟨n0, D0, P0, t0, _⟩ := hf 0 3 0 rfl
  obtain ⟨n1, D1, P1, t1, _⟩ := hf 1 3 1 rfl
  obtain ⟨n2, D2, P2, t2, _⟩ := hf 2 3 2 rfl
  obtain ⟨n3, D3, P3, t3, _⟩ := hf 3 3 3 rfl
  obtain ⟨n4, D4, P4, t4, _⟩ := hf 4 3 4 rfl
  obtain ⟨n5, D5, P5, t5, _⟩ := hf 5 4 5 rfl
  obtain ⟨x0, e0, _⟩ := DataW.trod_int Tryz.underlying3 t0
  obtain ⟨x1, e1, _⟩ := DataW.trod_int Tryz.underlying3 t1
  obtain ⟨x2, e2, _⟩ := DataW.trod_int Tryz.underlying3 t2
  obtain ⟨x3, e3, _⟩ := DataW.trod_int Tryz.underlying3 t3
  obtain ⟨x4, e4, _⟩ := DataW.trod_int Tryz.underlying3 t4
  obtain ⟨x5, e5, _⟩ := DataW.trod_bool Tryz.underlying4 t5
  match cs, hlen with
  | [y0, y1, y2, y3, y4, y5], _ =>
    simp only [cells_int, cells_bool, List.drop, List.take, List.cons.injEq, and_true] at e0 e1 e2 e3 e4 e5
    subst e0 e1 e2 e3 e4 e5
    exact ⟨⟨x0, x1, x2, x3, x4, x5⟩, hc 0 (by omega), hc 1 (by omega), hc 2 (by omega), hc 3 (by omega), hc 4 (by omega), hc 5 (by omega)⟩).list (P := fun (x : ProcL) b o => ProcAt W b o x)
 exact ⟨A, cap, l, rfl, hl, le_of_mul bytes_proc hn⟩
theorem open_arg_mods (h : DataW.trod enc Tryz.prog W 0 (fun _ => true) true fuel 22 [v] = some (d, p)) (hz : ∀ n ∈ d.weights Tryz.prog 22, n ≤ reachBytes) :
 ∃ A cap xs, v = .slice A xs.length cap ∧ Mods W A xs ∧ xs.length ≤ 140737488355328 := by
 obtain ⟨A, n, cap, rfl, hn, _, he⟩ := open_each Tryz.underlying22 (by rw [cells_mod]; omega) h hz
 rw [cells_mod] at he
 obtain ⟨l, rfl, hl⟩ := (he.imp (Q := fun _ b o => ∃ x : ModL, ModAt W b o x) fun _ b o hx => by
  obtain ⟨cs, k, D, Pl, hlen, hc, ht, hw⟩ := hx
  obtain ⟨_, hf⟩ := open_fields Tryz.underlying68 ht hw
  obtain ⟨n0, D0, P0, t0, z0⟩ := hf 0 9 0 rfl
  obtain ⟨n1, D1, P1, t1, z1⟩ := hf 1 66 1 rfl
  obtain ⟨n2, D2, P2, t2, z2⟩ := hf 2 23 2 rfl
  obtain ⟨n3, D3, P3, t3, _⟩ := hf 3 3 3 rfl
  obtain ⟨n4, D4, P4, t4, z4⟩ := hf 4 40 4 rfl
  match cs, hlen with
  | [y0, y1, y2, y3, y4], _ =>
    simp only [cells_str, cells_int, cells_procs, cells_ints, cells_words, List.drop, List.take] at t0 t1 t2 t3 t4
    obtain ⟨s, e0, hx, _⟩ := DataW.trod_string Tryz.underlying9 t0
    obtain ⟨⟨s⟩⟩ := s
    obtain ⟨rfl, _⟩ := Prod.mk.inj hx
    have h0 := z0 s.length (by unfold DataW.weights; simp)
    have hr := reachBytes_lt
    obtain ⟨A1, c1, ps, rfl, hp, hpl⟩ := open_arg_procs t1 z1
    obtain ⟨A2, c2, is, rfl, hi, hil⟩ := open_arg_ints t2 z2
    obtain ⟨x3, e3, _⟩ := DataW.trod_int Tryz.underlying3 t3
    obtain ⟨A3, c3, ws, rfl, hws, hwl⟩ := open_arg_words t4 z4
    simp only [List.cons.injEq, and_true] at e0 e3
    subst e0 e3
    exact ⟨⟨s, ps, is, x3, ws⟩, ⟨A1, c1, A2, c2, A3, c3⟩, ⟨hp, hi, hws, by simp only; omega, hpl, hil, hwl⟩, hc 0 (by omega), hc 1 (by omega), hc 2 (by omega), hc 3 (by omega), hc 4 (by omega)⟩).list (P := fun (x : ModL) b o => ModAt W b o x)
 exact ⟨A, cap, l, rfl, hl, le_of_mul bytes_mod hn⟩
end
theorem open_prog {H : Type} {enc : TypeId × Value → H} {W : World} {r : Reach} {b0 : Nat} {v : Value} {d : DataW H} {p : List MemPlace} (hv : Value.okWide Tryz.prog W r b0 25 v) (h : DataW.Trod enc Tryz.prog W 0 (fun _ => true) true 25 v d p) (hz : ∀ n ∈ d.weights Tryz.prog 25, n ≤ reachBytes) :
 ∃ A2 c2 ms A3 c3 os, v = .agg #[.slice A2 (ms : List ModL).length c2, .slice A3 (os : List Int).length c3] ∧ Mods W A2 ms ∧ Ints W A3 os ∧ ms.length ≤ 140737488355328 ∧ os.length ≤ 140737488355328 := by
 obtain ⟨cs, rfl, hsz⟩ := okWide_struct Tryz.underlying25 hv
 rw [cells_prg] at hsz
 obtain ⟨c0, c1, rfl⟩ := Joins.array2 hsz
 obtain ⟨fuel, hf⟩ := h
 obtain ⟨_, hg⟩ := open_fields Tryz.underlying25 hf hz
 obtain ⟨n2, D2, P2, t2, z2⟩ := hg 0 22 0 rfl
 obtain ⟨n3, D3, P3, t3, z3⟩ := hg 1 23 1 rfl
 simp only [Value.cells, cells_mods, cells_ints, List.drop, List.take] at t2 t3
 obtain ⟨A2, c2, ms, rfl, hm, hml⟩ := open_arg_mods t2 z2
 obtain ⟨A3, c3, os, rfl, ho, hol⟩ := open_arg_ints t3 z3
 exact ⟨A2, c2, ms, A3, c3, os, rfl, hm, ho, hml, hol⟩
end Go.Proofs.YtabenhpjgjjgnaaGreatDoor
/- The row's closed facts, one by one. -/
namespace Go.Proofs.YtabenhpjgjjgnaaGreatDoor
open Go.ChangeShapes
set_option maxRecDepth 100000
theorem and_mk {a b : Bool} (h1 : a = true) (h2 : b = true) : (a && b) = true := by rw [h1, h2]; rfl
set_option maxHeartbeats 8000000 in
theorem pieces_closed : joinedFacts Tryz.prog 5 Tryz.f5 (OpenSpec.ofChange Rows.machPiecesSpec).bare Rows.machPiecesRow = true := by
 unfold joinedFacts
 repeat' (with_reducible apply and_mk)
 all_goals as_aux_lemma => kernel_rfl
end Go.Proofs.YtabenhpjgjjgnaaGreatDoor
