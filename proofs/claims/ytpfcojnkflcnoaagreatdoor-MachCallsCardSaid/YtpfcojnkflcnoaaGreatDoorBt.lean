/- The program whose function calls itself, by places; what it comes to in a machine. separatumlaw20.sum: a program whose function calls itself. separatumlaw20.MachCalls: true. Condition: what lies in memory can lie there; what each theorem says. -/
import Derived.Test.YtpfcojnkflcnoaaGreatDoorBs
import Derived.Test.YtpfcojnkflcnoaaGreatDoorBq
/- The program whose function calls itself, by places; what it comes to in a machine. No condition beyond what each theorem says. -/
namespace Go.Proofs.YtpfcojnkflcnoaaGreatDoor
open Go.RowKit
set_option maxRecDepth 100000

def sumP (n : Nat) : List K16.InsL := [(61, []), (40, [(n : Int)]), (62, [1, 1]), (78, []), (65, []), (44, [0, 0]), (57, [4]), (40, [0]), (66, []), (44, [0, 0]), (61, []), (44, [0, 0]), (40, [1]), (9, []), (62, [1, 1]), (8, []), (66, [])]
def sumC (n : Nat) : List UInt8 := K16.bytesOf (sumP n)
def sumOk (n : Nat) : Bool := let c := sumC n
  decide (K16.encodeL (sumP n) = (c, 0)) && decide (c.length = 40) && decide (K16.decodeL c 0 = ((61, []), 1, 0)) && decide (K16.decodeL c 1 = ((40, [(n : Int)]), 4, 0)) && decide (K16.decodeL c 4 = ((62, [1, 1]), 8, 0)) && decide (K16.decodeL c 8 = ((78, []), 9, 0)) && decide (K16.decodeL c 9 = ((65, []), 10, 0)) &&
    decide (K16.decodeL c 10 = ((44, [0, 0]), 14, 0)) && decide (K16.decodeL c 14 = ((57, [4]), 17, 0)) && decide (K16.decodeL c 17 = ((40, [0]), 20, 0)) && decide (K16.decodeL c 20 = ((66, []), 21, 0)) && decide (K16.decodeL c 21 = ((44, [0, 0]), 25, 0)) && decide (K16.decodeL c 25 = ((61, []), 26, 0)) &&
    decide (K16.decodeL c 26 = ((44, [0, 0]), 30, 0)) && decide (K16.decodeL c 30 = ((40, [1]), 33, 0)) && decide (K16.decodeL c 33 = ((9, []), 34, 0)) && decide (K16.decodeL c 34 = ((62, [1, 1]), 38, 0)) && decide (K16.decodeL c 38 = ((8, []), 39, 0)) && decide (K16.decodeL c 39 = ((66, []), 40, 0))
set_option maxHeartbeats 4000000 in
theorem sumOk_all : ∀ n, n < 100 → sumOk n = true := by decide +kernel
theorem sum_code (n : Nat) (hn : n < 100) : SumCode (sumC n) ∧ K16.decodeL (sumC n) ((1 : Nat) : Int) = ((40, [(n : Int)]), ((4 : Nat) : Int), 0) ∧ K16.encodeL (sumP n) = (sumC n, 0) := by
  have h := sumOk_all n hn
  unfold sumOk at h
  simp only [Bool.and_eq_true, decide_eq_true_eq] at h
  obtain ⟨⟨⟨⟨⟨⟨⟨⟨⟨⟨⟨⟨⟨⟨⟨⟨⟨⟨h0, h1⟩, h2⟩, h3⟩, h4⟩, h5⟩, h6⟩, h7⟩, h8⟩, h9⟩, h10⟩, h11⟩, h12⟩, h13⟩, h14⟩, h15⟩, h16⟩, h17⟩, h18⟩ := h
  exact ⟨⟨h1, h2, h4, h5, h6, h7, h8, h9, h10, h11, h12, h13, h14, h15, h16, h17, h18⟩, h3, h0⟩
theorem digits_le : ∀ (k u : Nat), u < 10 ^ (k + 1) → (Lib.decDigits u).length ≤ k + 1
  | 0, u, h => by
    rw [Lib.decDigits, dif_pos (by omega)]; simp
  | k + 1, u, h => by
    rw [Lib.decDigits]
    split
    · simp
    · have h2 : u / 10 < 10 ^ (k + 1) := by rw [Nat.pow_succ] at h; omega
      have := digits_le k (u / 10) h2
      rw [List.length_append, List.length_cons, List.length_nil]; omega
theorem textTri_le (n : Nat) (hn : n < 100) : (textL false (tri n)).length ≤ 9 := by
  have h := tri_le n
  unfold textL Lib.itoa
  simp only [Bool.false_eq_true, if_false]
  rw [if_neg (by omega)]
  have := digits_le 3 (tri n) (by omega)
  simpa using (by omega : (Lib.decDigits (tri n)).length ≤ 9)
theorem sum_start {K : MK} {code : List UInt8} (k : Sum K code) : (K.n < 13 ∧ (startS K []).kind = 2 ∧ (startS K []).trap = 11 ∧ (startS K []).out = []) ∨
    (Fr K (startS K []) (startS K []).ws 0 1 0 [] 1 0 [] ∧ (startS K []).ws 1 = 0) := by
  have hm : nextMod K (zeroS []) = 0 := by unfold nextMod; rw [k.order]; rfl
  have hp : nextP K (zeroS []) = ⟨0, 0, 0, 8, 1, false⟩ := by unfold nextP; rw [hm, k.mods]; rfl
  by_cases hr : K.n < 13
  · have hb : beginsM K (zeroS []) = (zeroS [], 11) := by
      unfold beginsM
      rw [if_neg (by rw [k.order]; show ¬ (0 : Int) = 1; decide), hp, if_pos (by rw [k.low, k.high]; show (K.n : Int) + 1 < 1 + (5 + 0 + 0) + 8; omega)]
    have hs : startS K [] = { zeroS [] with kind := 2, trap := 11, at_ := 0 } := by unfold startS trapS; rw [hb]; rfl
    rw [hs]
    exact .inl ⟨hr, rfl, rfl, rfl⟩
  · have hb : beginsM K (zeroS []) = (frameM K K.low 0 0 0 0 0 0 { zeroS [] with ord := 1, mod := 0, proc := 0, depth := 0 }, 0) := by
      unfold beginsM
      rw [if_neg (by rw [k.order]; show ¬ (0 : Int) = 1; decide), hp, if_neg (by rw [k.low, k.high]; show ¬ ((K.n : Int) + 1 < 1 + (5 + 0 + 0) + 8); omega), hm]
      rfl
    have hh : hereP K { zeroS [] with ord := 1, mod := 0, proc := 0, depth := 0 } = ⟨0, 0, 0, 8, 1, false⟩ := by unfold hereP modOf; rw [k.mods]; rfl
    have hf : frameM K K.low 0 0 0 0 0 0 { zeroS [] with ord := 1, mod := 0, proc := 0, depth := 0 } = { zeroS [] with ord := 1, mod := 0, proc := 0, depth := 1, fp := 1, sp := 6, next := 0 } := by
      unfold frameM
      rw [hh]
      unfold markM
      have h0 : (zeroS []).ws = fun _ => 0 := rfl
      simp only [h0, storeM_zero, clearM_zero, k.low]
      rfl
    have hs : startS K [] = { zeroS [] with ord := 1, mod := 0, proc := 0, depth := 1, fp := 1, sp := 6, next := 0, at_ := 0 } := by
      unfold startS trapS
      rw [hb, hf]
      rfl
    rw [hs]
    refine .inr ⟨⟨rfl, rfl, rfl, rfl, rfl, rfl, by decide, by decide, by decide, ?_, rfl, by decide, rfl, rfl, rfl, rfl, fun _ _ => rfl, fun j hj => by simp at hj⟩, rfl⟩
    show 1 + 5 + 8 ≤ K.n + 1
    omega
theorem sum_runs (n : Nat) (hn : n < 100) (K : MK) (ko : KOk K) (k : Sum K (sumC n)) : ∃ N S2, RunTo K 100000 N (startS K []) S2 ∧
    ((S2.kind = 1 ∧ S2.trap = 0 ∧ S2.out = textL false (tri n) ∧ S2.depth = 0) ∨ (S2.kind = 2 ∧ S2.trap = 11 ∧ S2.out = [] ∧ K.n < 30 * (n + 2))) := by
  obtain ⟨hc, d1, _⟩ := sum_code n hn
  rcases sum_start k with ⟨hr, h1, h2, h3⟩ | ⟨h, h0⟩
  · exact ⟨0, _, .stop (fun hk => by rw [h1] at hk; cases hk), .inr ⟨h1, h2, h3, by omega⟩⟩
  · generalize startS K [] = S at *
    have hb0 : bs 0 = 5 := rfl
    have hp0 : dp 0 = 8 := rfl
    obtain ⟨S1, s1, g1⟩ := fr_mark k ko h hc.d0 (by rw [hp0]; decide)
    obtain ⟨S2, s2, g2⟩ := fr_lit k ko (x := n) g1 d1 (by decide) (by decide) (by rw [hp0]; decide) (by omega)
    have g2' : Fr K { S2 with at_ := S2.next } S.ws 4 1 0 ([] ++ [0, 0, 0, 0, 0, n]) 1 (0 + 1 + 1) [] := g2
    have go2 : ∀ {m : Nat} {S8 : St}, Goes K 100000 m { S2 with at_ := S2.next } S8 → Goes K 100000 (m + 2) S S8 := fun g => fr_one h (by decide) s1 (fr_one g1 (by decide) s2 g)
    rcases fr_call k ko g2' hc.d4 (by decide) (by decide) (by decide) (by omega) with ⟨hr, S3, s3, e3, o3⟩ | ⟨hr, S3, s3, h3, q0, q1, q2, q3, q4, q5⟩
    · rw [hb0] at hr
      simp only [List.length_nil] at hr
      exact ⟨_, _, (go2 (.nil _)).run (.trap g2.kind (by rw [g2.steps]; omega) (by rw [g2.steps]; omega) s3 (by decide)), .inr ⟨rfl, rfl, o3, by omega⟩⟩
    · rw [hb0] at hr h3 q0 q1 q2 q3 q4 q5
      simp only [List.length_nil] at hr h3 q0 q1 q2 q3 q4 q5
      have hmk : Mark K (sumC n) S3.ws (1 + 5 + 0) 1 0 [] 8 := by
        refine ⟨q1, q2, q3, q4, by decide, by decide, rfl, by rw [hp0]; decide, by rw [hb0, hp0]; omega, by rw [hc.len]; decide, fun j hj => by simp at hj⟩
      rcases sum_fn k ko hc 100000 [] (by decide) n hn _ _ _ _ _ _ _ _ _ h3 hmk q5 (by omega) (by omega) (by omega) with ⟨hn', S4, r4, h4⟩ | ⟨hn', m, S4, r4, z1, z2, z3⟩
      · have hB1 : S3.ws 1 = 0 := by
          rw [q0 1 (by decide)]
          have := g2.low 1 (by rw [hb0]; decide)
          rw [this]; exact h0
        obtain ⟨S5, s5, h5⟩ := fr_wrc k ko (l := []) h4 hc.d8 (by decide) (by have := textTri_le n hn; simpa using this)
        obtain ⟨S6, s6, k1, k2, k3, k4, k5⟩ := fr_ret k ko h5 hB1 hc.d9 (by decide) (by have := textTri_le n hn; simp; omega)
        have hlast : RunTo K 100000 1 { S5 with at_ := S5.next } { S6 with at_ := S6.next } := .step h5.kind (by rw [h5.steps]; omega) (by rw [h5.steps]; omega) s6 (.stop (fun hk => by simp only [k1] at hk; omega))
        exact ⟨_, _, (go2 (fr_one g2 (by decide) s3 (r4.trans (fr_one h4 (by omega) s5 (.nil _))))).run hlast, .inl ⟨k1, k2, by simp only [k4, List.nil_append], k5⟩⟩
      · exact ⟨_, _, (go2 (fr_one g2 (by decide) s3 (.nil _))).run r4, .inr ⟨z1, z2, z3, by omega⟩⟩
end Go.Proofs.YtpfcojnkflcnoaaGreatDoor
/- separatumlaw20.sum: a program whose function calls itself. Condition: what lies in memory can lie there. (Printed by gen_ln.py.) -/
namespace Go.Proofs.YtpfcojnkflcnoaaGreatDoor
open Go.RowKit
set_option maxRecDepth 100000
attribute [local go_sem ↓] Go.wp_at_zero Go.wp_at_succ

theorem ints_new2 (w : World) (x y : Int) : K16.Ints (w.alloc (.cells #[.int .i64 x, .int .i64 y] 3)) (some ⟨w.heap.size, 0, none⟩) [x, y] :=
  .inr ⟨w.heap.size, 0, rfl, by simp, fun j hj => by
    rcases (show j = 0 ∨ j = 1 by simp at hj; omega) with rfl | rfl
    · exact ((Bx.new w #[.int .i64 x, .int .i64 y] 3).cell 0).trans rfl
    · exact ((Bx.new w #[.int .i64 x, .int .i64 y] 3).cell 1).trans rfl⟩
theorem sum_mods {w : World} {g k : Nat} {code : List UInt8} (h1 : Bx g #[.int .i64 0, .int .i64 0, .int .i64 0, .int .i64 8, .int .i64 1, .bool false, .int .i64 10, .int .i64 1, .int .i64 0, .int .i64 10, .int .i64 1, .bool true] 69 w) (h2 : Bx k #[.string ⟨code.toArray⟩, .slice (some ⟨g, 0, none⟩) 2 2, .slice none 0 0, .int .i64 0, .slice none 0 0] 73 w) (hc : code.length ≤ 65535) :
    Mods w (some ⟨k, 0, none⟩) [sumM code] :=
  .inr ⟨k, 0, rfl, h2.lt, fun j hj => by
    obtain rfl : j = 0 := by simpa using hj
    refine ⟨⟨some ⟨g, 0, none⟩, 2, none, 0, none, 0⟩, ⟨.inr ⟨g, 0, rfl, h1.lt, fun j hj => ?_⟩, .inl rfl, .inl rfl, by simp [sumM]; omega, by simp [sumM], by simp [sumM], by simp [sumM]⟩, (h2.cell 0).trans rfl, (h2.cell 1).trans rfl, (h2.cell 2).trans rfl, (h2.cell 3).trans rfl, (h2.cell 4).trans rfl⟩
    rcases (show j = 0 ∨ j = 1 by simp [sumM] at hj; omega) with rfl | rfl
    · exact ⟨(h1.cell 0).trans rfl, (h1.cell 1).trans rfl, (h1.cell 2).trans rfl, (h1.cell 3).trans rfl, (h1.cell 4).trans rfl, (h1.cell 5).trans rfl⟩
    · exact ⟨(h1.cell 6).trans rfl, (h1.cell 7).trans rfl, (h1.cell 8).trans rfl, (h1.cell 9).trans rfl, (h1.cell 10).trans rfl, (h1.cell 11).trans rfl⟩⟩
def SumProgEnd (code : List UInt8) (w : World) (e : Ending) (w' : World) : Prop := ∃ A2 A3 c2 c3, e = .returned (.agg #[.slice A2 1 c2, .slice A3 1 c3]) ∧ Mods w' A2 [sumM code] ∧ Ints w' A3 [0] ∧ Below w.heap.size w w'
set_option maxHeartbeats 4000000 in
theorem sum_any (n : Nat) (hn : n < 100) (W : World) : Calls Tryz.prog 13 #[.int .u16 n] W (SumProgEnd (sumC n) W) := by
  obtain ⟨hc, _, henc⟩ := sum_code n hn
  have HEc := Lib.hid henc
  have HL := Lib.hid hc.len
  have hnI : (n : Int) ≤ 65535 := by omega
  have HX0 := Lib.hid (Bx.new W #[.slice none 0 0, .slice none 0 0] 31)
  have HB0 := Lib.hid (alloc_below W (.cells #[.slice none 0 0, .slice none 0 0] 31))
  clear hc henc
  go_enter Tryz.func13, Tryz.ntmps13
  go_wp2_with fail
  generalize W.alloc (.cells #[.slice none 0 0, .slice none 0 0] 31) = w0 at *
  refine (ins_any 61 none 0 0 _).mono ?_
  rintro e w1 ⟨rfl, hb⟩
  have HX1 := Lib.hid (HX0.out.grow hb)
  have HB1 := Lib.hid (HB0.out.trans (hb.mono HB0.out.size))
  clear HX0 HB0
  clear hb
  go_wp2_with fail
  refine (ins_any 40 _ 1 1 _).mono ?_
  rintro e w2 ⟨rfl, hb⟩
  have HI1x2 := Lib.hid ((ints_new w1 (n : Int)).later hb (Nat.le_refl _))
  replace hb := (alloc_below w1 (.cells #[.int .i64 (n : Int)] 3)).trans (hb.mono (by simp))
  have HX2 := Lib.hid (HX1.out.grow hb)
  have HB2 := Lib.hid (HB1.out.trans (hb.mono HB1.out.size))
  clear HX1 HB1
  clear hb
  go_wp2_with fail
  refine (ins_any 62 _ 2 2 _).mono ?_
  rintro e w3 ⟨rfl, hb⟩
  have HI2x3 := Lib.hid ((ints_new2 w2 1 1).later hb (Nat.le_refl _))
  replace hb := (alloc_below w2 (.cells #[.int .i64 1, .int .i64 1] 3)).trans (hb.mono (by simp))
  have HI1x3 := Lib.hid (HI1x2.out.later hb (Nat.le_refl _))
  clear HI1x2
  have HX3 := Lib.hid (HX2.out.grow hb)
  have HB3 := Lib.hid (HB2.out.trans (hb.mono HB2.out.size))
  clear HX2 HB2
  clear hb
  go_wp2_with fail
  refine (ins_any 78 none 0 0 _).mono ?_
  rintro e w4 ⟨rfl, hb⟩
  have HI1x4 := Lib.hid (HI1x3.out.later hb (Nat.le_refl _))
  clear HI1x3
  have HI2x4 := Lib.hid (HI2x3.out.later hb (Nat.le_refl _))
  clear HI2x3
  have HX4 := Lib.hid (HX3.out.grow hb)
  have HB4 := Lib.hid (HB3.out.trans (hb.mono HB3.out.size))
  clear HX3 HB3
  clear hb
  go_wp2_with fail
  refine (ins_any 65 none 0 0 _).mono ?_
  rintro e w5 ⟨rfl, hb⟩
  have HI1x5 := Lib.hid (HI1x4.out.later hb (Nat.le_refl _))
  clear HI1x4
  have HI2x5 := Lib.hid (HI2x4.out.later hb (Nat.le_refl _))
  clear HI2x4
  have HX5 := Lib.hid (HX4.out.grow hb)
  have HB5 := Lib.hid (HB4.out.trans (hb.mono HB4.out.size))
  clear HX4 HB4
  clear hb
  go_wp2_with fail
  refine (ins_any 44 _ 2 2 _).mono ?_
  rintro e w6 ⟨rfl, hb⟩
  have HI5x6 := Lib.hid ((ints_new2 w5 0 0).later hb (Nat.le_refl _))
  replace hb := (alloc_below w5 (.cells #[.int .i64 0, .int .i64 0] 3)).trans (hb.mono (by simp))
  have HI1x6 := Lib.hid (HI1x5.out.later hb (Nat.le_refl _))
  clear HI1x5
  have HI2x6 := Lib.hid (HI2x5.out.later hb (Nat.le_refl _))
  clear HI2x5
  have HX6 := Lib.hid (HX5.out.grow hb)
  have HB6 := Lib.hid (HB5.out.trans (hb.mono HB5.out.size))
  clear HX5 HB5
  clear hb
  go_wp2_with fail
  refine (ins_any 57 _ 1 1 _).mono ?_
  rintro e w7 ⟨rfl, hb⟩
  have HI6x7 := Lib.hid ((ints_new w6 4).later hb (Nat.le_refl _))
  replace hb := (alloc_below w6 (.cells #[.int .i64 4] 3)).trans (hb.mono (by simp))
  have HI1x7 := Lib.hid (HI1x6.out.later hb (Nat.le_refl _))
  clear HI1x6
  have HI2x7 := Lib.hid (HI2x6.out.later hb (Nat.le_refl _))
  clear HI2x6
  have HI5x7 := Lib.hid (HI5x6.out.later hb (Nat.le_refl _))
  clear HI5x6
  have HX7 := Lib.hid (HX6.out.grow hb)
  have HB7 := Lib.hid (HB6.out.trans (hb.mono HB6.out.size))
  clear HX6 HB6
  clear hb
  go_wp2_with fail
  refine (ins_any 40 _ 1 1 _).mono ?_
  rintro e w8 ⟨rfl, hb⟩
  have HI7x8 := Lib.hid ((ints_new w7 0).later hb (Nat.le_refl _))
  replace hb := (alloc_below w7 (.cells #[.int .i64 0] 3)).trans (hb.mono (by simp))
  have HI1x8 := Lib.hid (HI1x7.out.later hb (Nat.le_refl _))
  clear HI1x7
  have HI2x8 := Lib.hid (HI2x7.out.later hb (Nat.le_refl _))
  clear HI2x7
  have HI5x8 := Lib.hid (HI5x7.out.later hb (Nat.le_refl _))
  clear HI5x7
  have HI6x8 := Lib.hid (HI6x7.out.later hb (Nat.le_refl _))
  clear HI6x7
  have HX8 := Lib.hid (HX7.out.grow hb)
  have HB8 := Lib.hid (HB7.out.trans (hb.mono HB7.out.size))
  clear HX7 HB7
  clear hb
  go_wp2_with fail
  refine (ins_any 66 none 0 0 _).mono ?_
  rintro e w9 ⟨rfl, hb⟩
  have HI1x9 := Lib.hid (HI1x8.out.later hb (Nat.le_refl _))
  clear HI1x8
  have HI2x9 := Lib.hid (HI2x8.out.later hb (Nat.le_refl _))
  clear HI2x8
  have HI5x9 := Lib.hid (HI5x8.out.later hb (Nat.le_refl _))
  clear HI5x8
  have HI6x9 := Lib.hid (HI6x8.out.later hb (Nat.le_refl _))
  clear HI6x8
  have HI7x9 := Lib.hid (HI7x8.out.later hb (Nat.le_refl _))
  clear HI7x8
  have HX9 := Lib.hid (HX8.out.grow hb)
  have HB9 := Lib.hid (HB8.out.trans (hb.mono HB8.out.size))
  clear HX8 HB8
  clear hb
  go_wp2_with fail
  refine (ins_any 44 _ 2 2 _).mono ?_
  rintro e w10 ⟨rfl, hb⟩
  have HI9x10 := Lib.hid ((ints_new2 w9 0 0).later hb (Nat.le_refl _))
  replace hb := (alloc_below w9 (.cells #[.int .i64 0, .int .i64 0] 3)).trans (hb.mono (by simp))
  have HI1x10 := Lib.hid (HI1x9.out.later hb (Nat.le_refl _))
  clear HI1x9
  have HI2x10 := Lib.hid (HI2x9.out.later hb (Nat.le_refl _))
  clear HI2x9
  have HI5x10 := Lib.hid (HI5x9.out.later hb (Nat.le_refl _))
  clear HI5x9
  have HI6x10 := Lib.hid (HI6x9.out.later hb (Nat.le_refl _))
  clear HI6x9
  have HI7x10 := Lib.hid (HI7x9.out.later hb (Nat.le_refl _))
  clear HI7x9
  have HX10 := Lib.hid (HX9.out.grow hb)
  have HB10 := Lib.hid (HB9.out.trans (hb.mono HB9.out.size))
  clear HX9 HB9
  clear hb
  go_wp2_with fail
  refine (ins_any 61 none 0 0 _).mono ?_
  rintro e w11 ⟨rfl, hb⟩
  have HI1x11 := Lib.hid (HI1x10.out.later hb (Nat.le_refl _))
  clear HI1x10
  have HI2x11 := Lib.hid (HI2x10.out.later hb (Nat.le_refl _))
  clear HI2x10
  have HI5x11 := Lib.hid (HI5x10.out.later hb (Nat.le_refl _))
  clear HI5x10
  have HI6x11 := Lib.hid (HI6x10.out.later hb (Nat.le_refl _))
  clear HI6x10
  have HI7x11 := Lib.hid (HI7x10.out.later hb (Nat.le_refl _))
  clear HI7x10
  have HI9x11 := Lib.hid (HI9x10.out.later hb (Nat.le_refl _))
  clear HI9x10
  have HX11 := Lib.hid (HX10.out.grow hb)
  have HB11 := Lib.hid (HB10.out.trans (hb.mono HB10.out.size))
  clear HX10 HB10
  clear hb
  go_wp2_with fail
  refine (ins_any 44 _ 2 2 _).mono ?_
  rintro e w12 ⟨rfl, hb⟩
  have HI11x12 := Lib.hid ((ints_new2 w11 0 0).later hb (Nat.le_refl _))
  replace hb := (alloc_below w11 (.cells #[.int .i64 0, .int .i64 0] 3)).trans (hb.mono (by simp))
  have HI1x12 := Lib.hid (HI1x11.out.later hb (Nat.le_refl _))
  clear HI1x11
  have HI2x12 := Lib.hid (HI2x11.out.later hb (Nat.le_refl _))
  clear HI2x11
  have HI5x12 := Lib.hid (HI5x11.out.later hb (Nat.le_refl _))
  clear HI5x11
  have HI6x12 := Lib.hid (HI6x11.out.later hb (Nat.le_refl _))
  clear HI6x11
  have HI7x12 := Lib.hid (HI7x11.out.later hb (Nat.le_refl _))
  clear HI7x11
  have HI9x12 := Lib.hid (HI9x11.out.later hb (Nat.le_refl _))
  clear HI9x11
  have HX12 := Lib.hid (HX11.out.grow hb)
  have HB12 := Lib.hid (HB11.out.trans (hb.mono HB11.out.size))
  clear HX11 HB11
  clear hb
  go_wp2_with fail
  refine (ins_any 40 _ 1 1 _).mono ?_
  rintro e w13 ⟨rfl, hb⟩
  have HI12x13 := Lib.hid ((ints_new w12 1).later hb (Nat.le_refl _))
  replace hb := (alloc_below w12 (.cells #[.int .i64 1] 3)).trans (hb.mono (by simp))
  have HI1x13 := Lib.hid (HI1x12.out.later hb (Nat.le_refl _))
  clear HI1x12
  have HI2x13 := Lib.hid (HI2x12.out.later hb (Nat.le_refl _))
  clear HI2x12
  have HI5x13 := Lib.hid (HI5x12.out.later hb (Nat.le_refl _))
  clear HI5x12
  have HI6x13 := Lib.hid (HI6x12.out.later hb (Nat.le_refl _))
  clear HI6x12
  have HI7x13 := Lib.hid (HI7x12.out.later hb (Nat.le_refl _))
  clear HI7x12
  have HI9x13 := Lib.hid (HI9x12.out.later hb (Nat.le_refl _))
  clear HI9x12
  have HI11x13 := Lib.hid (HI11x12.out.later hb (Nat.le_refl _))
  clear HI11x12
  have HX13 := Lib.hid (HX12.out.grow hb)
  have HB13 := Lib.hid (HB12.out.trans (hb.mono HB12.out.size))
  clear HX12 HB12
  clear hb
  go_wp2_with fail
  refine (ins_any 9 none 0 0 _).mono ?_
  rintro e w14 ⟨rfl, hb⟩
  have HI1x14 := Lib.hid (HI1x13.out.later hb (Nat.le_refl _))
  clear HI1x13
  have HI2x14 := Lib.hid (HI2x13.out.later hb (Nat.le_refl _))
  clear HI2x13
  have HI5x14 := Lib.hid (HI5x13.out.later hb (Nat.le_refl _))
  clear HI5x13
  have HI6x14 := Lib.hid (HI6x13.out.later hb (Nat.le_refl _))
  clear HI6x13
  have HI7x14 := Lib.hid (HI7x13.out.later hb (Nat.le_refl _))
  clear HI7x13
  have HI9x14 := Lib.hid (HI9x13.out.later hb (Nat.le_refl _))
  clear HI9x13
  have HI11x14 := Lib.hid (HI11x13.out.later hb (Nat.le_refl _))
  clear HI11x13
  have HI12x14 := Lib.hid (HI12x13.out.later hb (Nat.le_refl _))
  clear HI12x13
  have HX14 := Lib.hid (HX13.out.grow hb)
  have HB14 := Lib.hid (HB13.out.trans (hb.mono HB13.out.size))
  clear HX13 HB13
  clear hb
  go_wp2_with fail
  refine (ins_any 62 _ 2 2 _).mono ?_
  rintro e w15 ⟨rfl, hb⟩
  have HI14x15 := Lib.hid ((ints_new2 w14 1 1).later hb (Nat.le_refl _))
  replace hb := (alloc_below w14 (.cells #[.int .i64 1, .int .i64 1] 3)).trans (hb.mono (by simp))
  have HI1x15 := Lib.hid (HI1x14.out.later hb (Nat.le_refl _))
  clear HI1x14
  have HI2x15 := Lib.hid (HI2x14.out.later hb (Nat.le_refl _))
  clear HI2x14
  have HI5x15 := Lib.hid (HI5x14.out.later hb (Nat.le_refl _))
  clear HI5x14
  have HI6x15 := Lib.hid (HI6x14.out.later hb (Nat.le_refl _))
  clear HI6x14
  have HI7x15 := Lib.hid (HI7x14.out.later hb (Nat.le_refl _))
  clear HI7x14
  have HI9x15 := Lib.hid (HI9x14.out.later hb (Nat.le_refl _))
  clear HI9x14
  have HI11x15 := Lib.hid (HI11x14.out.later hb (Nat.le_refl _))
  clear HI11x14
  have HI12x15 := Lib.hid (HI12x14.out.later hb (Nat.le_refl _))
  clear HI12x14
  have HX15 := Lib.hid (HX14.out.grow hb)
  have HB15 := Lib.hid (HB14.out.trans (hb.mono HB14.out.size))
  clear HX14 HB14
  clear hb
  go_wp2_with fail
  refine (ins_any 8 none 0 0 _).mono ?_
  rintro e w16 ⟨rfl, hb⟩
  have HI1x16 := Lib.hid (HI1x15.out.later hb (Nat.le_refl _))
  clear HI1x15
  have HI2x16 := Lib.hid (HI2x15.out.later hb (Nat.le_refl _))
  clear HI2x15
  have HI5x16 := Lib.hid (HI5x15.out.later hb (Nat.le_refl _))
  clear HI5x15
  have HI6x16 := Lib.hid (HI6x15.out.later hb (Nat.le_refl _))
  clear HI6x15
  have HI7x16 := Lib.hid (HI7x15.out.later hb (Nat.le_refl _))
  clear HI7x15
  have HI9x16 := Lib.hid (HI9x15.out.later hb (Nat.le_refl _))
  clear HI9x15
  have HI11x16 := Lib.hid (HI11x15.out.later hb (Nat.le_refl _))
  clear HI11x15
  have HI12x16 := Lib.hid (HI12x15.out.later hb (Nat.le_refl _))
  clear HI12x15
  have HI14x16 := Lib.hid (HI14x15.out.later hb (Nat.le_refl _))
  clear HI14x15
  have HX16 := Lib.hid (HX15.out.grow hb)
  have HB16 := Lib.hid (HB15.out.trans (hb.mono HB15.out.size))
  clear HX15 HB15
  clear hb
  go_wp2_with fail
  refine (ins_any 66 none 0 0 _).mono ?_
  rintro e w17 ⟨rfl, hb⟩
  have HI1x17 := Lib.hid (HI1x16.out.later hb (Nat.le_refl _))
  clear HI1x16
  have HI2x17 := Lib.hid (HI2x16.out.later hb (Nat.le_refl _))
  clear HI2x16
  have HI5x17 := Lib.hid (HI5x16.out.later hb (Nat.le_refl _))
  clear HI5x16
  have HI6x17 := Lib.hid (HI6x16.out.later hb (Nat.le_refl _))
  clear HI6x16
  have HI7x17 := Lib.hid (HI7x16.out.later hb (Nat.le_refl _))
  clear HI7x16
  have HI9x17 := Lib.hid (HI9x16.out.later hb (Nat.le_refl _))
  clear HI9x16
  have HI11x17 := Lib.hid (HI11x16.out.later hb (Nat.le_refl _))
  clear HI11x16
  have HI12x17 := Lib.hid (HI12x16.out.later hb (Nat.le_refl _))
  clear HI12x16
  have HI14x17 := Lib.hid (HI14x16.out.later hb (Nat.le_refl _))
  clear HI14x16
  have HX17 := Lib.hid (HX16.out.grow hb)
  have HB17 := Lib.hid (HB16.out.trans (hb.mono HB16.out.size))
  clear HX16 HB16
  clear hb
  go_wp2_with fail
  have hi := inss_of ([⟨61, none, 0, []⟩, ⟨40, some ⟨w1.heap.size, 0, none⟩, 1, [(n : Int)]⟩, ⟨62, some ⟨w2.heap.size, 0, none⟩, 2, [1, 1]⟩, ⟨78, none, 0, []⟩, ⟨65, none, 0, []⟩, ⟨44, some ⟨w5.heap.size, 0, none⟩, 2, [0, 0]⟩, ⟨57, some ⟨w6.heap.size, 0, none⟩, 1, [4]⟩, ⟨40, some ⟨w7.heap.size, 0, none⟩, 1, [0]⟩, ⟨66, none, 0, []⟩, ⟨44, some ⟨w9.heap.size, 0, none⟩, 2, [0, 0]⟩, ⟨61, none, 0, []⟩, ⟨44, some ⟨w11.heap.size, 0, none⟩, 2, [0, 0]⟩, ⟨40, some ⟨w12.heap.size, 0, none⟩, 1, [1]⟩, ⟨9, none, 0, []⟩, ⟨62, some ⟨w14.heap.size, 0, none⟩, 2, [1, 1]⟩, ⟨8, none, 0, []⟩, ⟨66, none, 0, []⟩] : List IA) ((Bx.new w17 #[.int .u8 61, .slice none 0 0, .int .u8 40, .slice (some ⟨w1.heap.size, 0, none⟩) 1 1, .int .u8 62, .slice (some ⟨w2.heap.size, 0, none⟩) 2 2, .int .u8 78, .slice none 0 0, .int .u8 65, .slice none 0 0, .int .u8 44, .slice (some ⟨w5.heap.size, 0, none⟩) 2 2, .int .u8 57, .slice (some ⟨w6.heap.size, 0, none⟩) 1 1, .int .u8 40, .slice (some ⟨w7.heap.size, 0, none⟩) 1 1, .int .u8 66, .slice none 0 0, .int .u8 44, .slice (some ⟨w9.heap.size, 0, none⟩) 2 2, .int .u8 61, .slice none 0 0, .int .u8 44, .slice (some ⟨w11.heap.size, 0, none⟩) 2 2, .int .u8 40, .slice (some ⟨w12.heap.size, 0, none⟩) 1 1, .int .u8 9, .slice none 0 0, .int .u8 62, .slice (some ⟨w14.heap.size, 0, none⟩) 2 2, .int .u8 8, .slice none 0 0, .int .u8 66, .slice none 0 0] 34).to rfl) (by
    intro x hx
    simp only [List.mem_cons, List.not_mem_nil, or_false] at hx
    rcases hx with rfl | rfl | rfl | rfl | rfl | rfl | rfl | rfl | rfl | rfl | rfl | rfl | rfl | rfl | rfl | rfl | rfl
    · exact ⟨.inl rfl, by simp only; omega, by simp⟩
    · exact ⟨HI1x17.out.later (alloc_below _ _) (Nat.le_refl _), by simp only; omega, by simp⟩
    · exact ⟨HI2x17.out.later (alloc_below _ _) (Nat.le_refl _), by simp only; omega, by simp⟩
    · exact ⟨.inl rfl, by simp only; omega, by simp⟩
    · exact ⟨.inl rfl, by simp only; omega, by simp⟩
    · exact ⟨HI5x17.out.later (alloc_below _ _) (Nat.le_refl _), by simp only; omega, by simp⟩
    · exact ⟨HI6x17.out.later (alloc_below _ _) (Nat.le_refl _), by simp only; omega, by simp⟩
    · exact ⟨HI7x17.out.later (alloc_below _ _) (Nat.le_refl _), by simp only; omega, by simp⟩
    · exact ⟨.inl rfl, by simp only; omega, by simp⟩
    · exact ⟨HI9x17.out.later (alloc_below _ _) (Nat.le_refl _), by simp only; omega, by simp⟩
    · exact ⟨.inl rfl, by simp only; omega, by simp⟩
    · exact ⟨HI11x17.out.later (alloc_below _ _) (Nat.le_refl _), by simp only; omega, by simp⟩
    · exact ⟨HI12x17.out.later (alloc_below _ _) (Nat.le_refl _), by simp only; omega, by simp⟩
    · exact ⟨.inl rfl, by simp only; omega, by simp⟩
    · exact ⟨HI14x17.out.later (alloc_below _ _) (Nat.le_refl _), by simp only; omega, by simp⟩
    · exact ⟨.inl rfl, by simp only; omega, by simp⟩
    · exact ⟨.inl rfl, by simp only; omega, by simp⟩
    )
  have HIn := Lib.hid (show K16.Inss (w17.alloc (.cells #[.int .u8 61, .slice none 0 0, .int .u8 40, .slice (some ⟨w1.heap.size, 0, none⟩) 1 1, .int .u8 62, .slice (some ⟨w2.heap.size, 0, none⟩) 2 2, .int .u8 78, .slice none 0 0, .int .u8 65, .slice none 0 0, .int .u8 44, .slice (some ⟨w5.heap.size, 0, none⟩) 2 2, .int .u8 57, .slice (some ⟨w6.heap.size, 0, none⟩) 1 1, .int .u8 40, .slice (some ⟨w7.heap.size, 0, none⟩) 1 1, .int .u8 66, .slice none 0 0, .int .u8 44, .slice (some ⟨w9.heap.size, 0, none⟩) 2 2, .int .u8 61, .slice none 0 0, .int .u8 44, .slice (some ⟨w11.heap.size, 0, none⟩) 2 2, .int .u8 40, .slice (some ⟨w12.heap.size, 0, none⟩) 1 1, .int .u8 9, .slice none 0 0, .int .u8 62, .slice (some ⟨w14.heap.size, 0, none⟩) 2 2, .int .u8 8, .slice none 0 0, .int .u8 66, .slice none 0 0] 34)) (some ⟨w17.heap.size, 0, none⟩) (sumP n) from hi)
  clear hi HI1x17 HI2x17 HI5x17 HI6x17 HI7x17 HI9x17 HI11x17 HI12x17 HI14x17
  have HA := Lib.hid (alloc_below w17 (.cells #[.int .u8 61, .slice none 0 0, .int .u8 40, .slice (some ⟨w1.heap.size, 0, none⟩) 1 1, .int .u8 62, .slice (some ⟨w2.heap.size, 0, none⟩) 2 2, .int .u8 78, .slice none 0 0, .int .u8 65, .slice none 0 0, .int .u8 44, .slice (some ⟨w5.heap.size, 0, none⟩) 2 2, .int .u8 57, .slice (some ⟨w6.heap.size, 0, none⟩) 1 1, .int .u8 40, .slice (some ⟨w7.heap.size, 0, none⟩) 1 1, .int .u8 66, .slice none 0 0, .int .u8 44, .slice (some ⟨w9.heap.size, 0, none⟩) 2 2, .int .u8 61, .slice none 0 0, .int .u8 44, .slice (some ⟨w11.heap.size, 0, none⟩) 2 2, .int .u8 40, .slice (some ⟨w12.heap.size, 0, none⟩) 1 1, .int .u8 9, .slice none 0 0, .int .u8 62, .slice (some ⟨w14.heap.size, 0, none⟩) 2 2, .int .u8 8, .slice none 0 0, .int .u8 66, .slice none 0 0] 34))
  refine (K16.refEncode_any _ (sumP n) 17 (by show 17 ≤ 1073741824; omega) _ HIn.out).mono ?_
  rw [HEc.out]
  rintro e w18 ⟨rfl, hb⟩
  replace hb := HA.out.trans (hb.mono HA.out.size)
  clear HA HIn
  have HX18 := Lib.hid (HX17.out.grow hb)
  have HB18 := Lib.hid (HB17.out.trans (hb.mono HB17.out.size))
  clear HX17 HB17
  clear hb
  dsimp only
  generalize hcd : sumC n = code at *
  clear hcd HEc
  have x0 : w18.cell? ⟨W.heap.size, 0, none⟩ = some (.slice none 0 0) := (HX18.out.cell 0).trans rfl
  have x1 : w18.cell? ⟨W.heap.size, 1, none⟩ = some (.slice none 0 0) := (HX18.out.cell 1).trans rfl
  have xf := HX18.out.frozen
  have xl := HX18.out.lt
  have hm1 : W.heap.size < w18.heap.size + 1 := by omega
  have hm2 : W.heap.size < w18.heap.size + 1 + 1 := by omega
  have hm3 : W.heap.size ≤ w18.heap.size := by omega
  have hm4 : W.heap.size ≤ w18.heap.size + 1 := by omega
  go_wp2_with fail
  have hs2 : ((w18.setCell ⟨W.heap.size, 0, none⟩ (.slice (some ⟨w18.heap.size + 1, 0, none⟩) 1 1)).setCell ⟨W.heap.size, 1, none⟩ (.slice (some ⟨w18.heap.size + 1 + 1, 0, none⟩) 1 1)).heap.size = w18.heap.size := by simp
  have HX2 := Lib.hid ((HX18.out.set 0 (.slice (some ⟨w18.heap.size + 1, 0, none⟩) 1 1)).set 1 (.slice (some ⟨w18.heap.size + 1 + 1, 0, none⟩) 1 1))
  have HB2 := Lib.hid ((HB18.out.setCell (p := ⟨W.heap.size, 0, none⟩) (Nat.le_refl _) (.slice (some ⟨w18.heap.size + 1, 0, none⟩) 1 1)).setCell (p := ⟨W.heap.size, 1, none⟩) (Nat.le_refl _) (.slice (some ⟨w18.heap.size + 1 + 1, 0, none⟩) 1 1))
  generalize ((w18.setCell ⟨W.heap.size, 0, none⟩ (.slice (some ⟨w18.heap.size + 1, 0, none⟩) 1 1)).setCell ⟨W.heap.size, 1, none⟩ (.slice (some ⟨w18.heap.size + 1 + 1, 0, none⟩) 1 1)) = wz at *
  rw [← hs2] at HX2 ⊢
  have HP1 := Lib.hid (Bx.new wz #[.int .i64 0, .int .i64 0, .int .i64 0, .int .i64 8, .int .i64 1, .bool false, .int .i64 10, .int .i64 1, .int .i64 0, .int .i64 10, .int .i64 1, .bool true] 69)
  have HA1 := Lib.hid (alloc_below wz (.cells #[.int .i64 0, .int .i64 0, .int .i64 0, .int .i64 8, .int .i64 1, .bool false, .int .i64 10, .int .i64 1, .int .i64 0, .int .i64 10, .int .i64 1, .bool true] 69))
  have HP2 := Lib.hid (show Bx (wz.heap.size + 1) #[.string ⟨code.toArray⟩, .slice (some ⟨wz.heap.size, 0, none⟩) 2 2, .slice none 0 0, .int .i64 0, .slice none 0 0] 73 ((wz.alloc (.cells #[.int .i64 0, .int .i64 0, .int .i64 0, .int .i64 8, .int .i64 1, .bool false, .int .i64 10, .int .i64 1, .int .i64 0, .int .i64 10, .int .i64 1, .bool true] 69)).alloc (.cells #[.string ⟨code.toArray⟩, .slice (some ⟨wz.heap.size, 0, none⟩) 2 2, .slice none 0 0, .int .i64 0, .slice none 0 0] 73)) by simpa using Bx.new (wz.alloc (.cells #[.int .i64 0, .int .i64 0, .int .i64 0, .int .i64 8, .int .i64 1, .bool false, .int .i64 10, .int .i64 1, .int .i64 0, .int .i64 10, .int .i64 1, .bool true] 69)) #[.string ⟨code.toArray⟩, .slice (some ⟨wz.heap.size, 0, none⟩) 2 2, .slice none 0 0, .int .i64 0, .slice none 0 0] 73)
  have HA2 := Lib.hid (alloc_below (wz.alloc (.cells #[.int .i64 0, .int .i64 0, .int .i64 0, .int .i64 8, .int .i64 1, .bool false, .int .i64 10, .int .i64 1, .int .i64 0, .int .i64 10, .int .i64 1, .bool true] 69)) (.cells #[.string ⟨code.toArray⟩, .slice (some ⟨wz.heap.size, 0, none⟩) 2 2, .slice none 0 0, .int .i64 0, .slice none 0 0] 73))
  have HP3 := Lib.hid (show Bx (wz.heap.size + 1 + 1) #[.int .i64 0] 3 (((wz.alloc (.cells #[.int .i64 0, .int .i64 0, .int .i64 0, .int .i64 8, .int .i64 1, .bool false, .int .i64 10, .int .i64 1, .int .i64 0, .int .i64 10, .int .i64 1, .bool true] 69)).alloc (.cells #[.string ⟨code.toArray⟩, .slice (some ⟨wz.heap.size, 0, none⟩) 2 2, .slice none 0 0, .int .i64 0, .slice none 0 0] 73)).alloc (.cells #[.int .i64 0] 3)) by simpa using Bx.new ((wz.alloc (.cells #[.int .i64 0, .int .i64 0, .int .i64 0, .int .i64 8, .int .i64 1, .bool false, .int .i64 10, .int .i64 1, .int .i64 0, .int .i64 10, .int .i64 1, .bool true] 69)).alloc (.cells #[.string ⟨code.toArray⟩, .slice (some ⟨wz.heap.size, 0, none⟩) 2 2, .slice none 0 0, .int .i64 0, .slice none 0 0] 73)) #[.int .i64 0] 3)
  have HA3 := Lib.hid (alloc_below ((wz.alloc (.cells #[.int .i64 0, .int .i64 0, .int .i64 0, .int .i64 8, .int .i64 1, .bool false, .int .i64 10, .int .i64 1, .int .i64 0, .int .i64 10, .int .i64 1, .bool true] 69)).alloc (.cells #[.string ⟨code.toArray⟩, .slice (some ⟨wz.heap.size, 0, none⟩) 2 2, .slice none 0 0, .int .i64 0, .slice none 0 0] 73)) (.cells #[.int .i64 0] 3))
  have HQ1 := Lib.hid ((HP1.out.grow HA2.out).grow HA3.out)
  have HQ2 := Lib.hid (HP2.out.grow HA3.out)
  have HXe := Lib.hid (((HX2.out.grow HA1.out).grow HA2.out).grow HA3.out)
  have HBe := Lib.hid (((HB2.out.trans (HA1.out.mono HB2.out.size)).trans (HA2.out.mono (Nat.le_trans HB2.out.size HA1.out.size))).trans (HA3.out.mono (Nat.le_trans (Nat.le_trans HB2.out.size HA1.out.size) HA2.out.size)))
  clear HP1 HP2 HA1 HA2 HA3 HB2 HX2 HX18 HB18
  generalize (((wz.alloc (.cells #[.int .i64 0, .int .i64 0, .int .i64 0, .int .i64 8, .int .i64 1, .bool false, .int .i64 10, .int .i64 1, .int .i64 0, .int .i64 10, .int .i64 1, .bool true] 69)).alloc (.cells #[.string ⟨code.toArray⟩, .slice (some ⟨wz.heap.size, 0, none⟩) 2 2, .slice none 0 0, .int .i64 0, .slice none 0 0] 73)).alloc (.cells #[.int .i64 0] 3)) = w3 at *
  have z0 : w3.cell? ⟨W.heap.size, 0, none⟩ = some (.slice (some ⟨wz.heap.size + 1, 0, none⟩) 1 1) := (HXe.out.cell 0).trans rfl
  have z1 : w3.cell? ⟨W.heap.size, 1, none⟩ = some (.slice (some ⟨wz.heap.size + 1 + 1, 0, none⟩) 1 1) := (HXe.out.cell 1).trans rfl
  refine bodyPost_ret (v := .agg #[.slice (some ⟨wz.heap.size + 1, 0, none⟩) 1 1, .slice (some ⟨wz.heap.size + 1 + 1, 0, none⟩) 1 1]) ?_ rfl ⟨_, _, _, _, rfl, sum_mods HQ1.out HQ2.out (by rw [HL.out]; decide), prog_order HP3.out, HBe.out⟩
  simp [results, Tryz.results13, go_sem, z0, z1]
end Go.Proofs.YtpfcojnkflcnoaaGreatDoor
/- separatumlaw20.MachCalls: true. Condition: tables of the library's lie there. -/
namespace Go.Proofs.YtpfcojnkflcnoaaGreatDoor
open Go.RowKit
set_option maxRecDepth 100000
attribute [local go_sem ↓] Go.wp_at_zero Go.wp_at_succ

theorem depth_any (K : MK) (S : St) (W : World) (h : AtW K S W) : Calls Tryz.prog 16 #[.pointer (some ⟨K.b, 0, none⟩)] W fun e w' => e = .returned (.int .i64 S.depth) ∧ W = w' := by
  obtain ⟨cs, hx, A, c, rfl⟩ := h.box
  have c0 : W.cell? ⟨K.b, 17, none⟩ = some (.int .i64 S.depth) := (hx.cell 17).trans rfl
  clear hx h
  go_enter Tryz.func16, Tryz.ntmps16
  go_wp2_with fail
  go_ret
  exact ⟨rfl, rfl⟩
theorem tri_eq : ∀ n, n * (n + 1) / 2 = tri n
  | 0 => rfl
  | n + 1 => by
    have h := tri_eq n
    have h2 : (n + 1) * (n + 1 + 1) = n * (n + 1) + 2 * (n + 1) := by
      rw [← Nat.add_mul, Nat.mul_comm (n + 1) (n + 1 + 1)]
    unfold tri
    omega
theorem sum_of_new {K : MK} {code : List UInt8} {room : Nat} (h : NewK K (sumM code) [0] room 0 9) : Sum K code ∧ K.n = room := by
  have hn := h.n
  have e : (sumM code).data = 0 := rfl
  rw [e] at hn
  have e2 : K.n = room := by omega
  exact ⟨⟨h.mods, h.order, by rw [h.low]; rfl, by rw [h.high, e, e2]; omega, by rw [h.most]; rfl⟩, e2⟩
theorem check_sum (code : List UInt8) (h : code.length = 40) : checkB [sumM code] [0] = true := by
  unfold checkB modB headB mayB withinB sumM
  simp [h]
  decide
/-- What of a number's text is there. -/
def TextL (w : Nat) (i : Nat) (s : List UInt8) : Prop := (s = [] ∧ i = w) ∨ (s ≠ [] ∧ i = 0 ∧ s = Lib.decDigits w) ∨ (s ≠ [] ∧ 0 < i ∧ Lib.decDigits i ++ s = Lib.decDigits w)
theorem textL_step {w i : Nat} {s : List UInt8} (h : TextL w i s) (hr : 0 < i ∨ s = []) : TextL w (i / 10) (UInt8.ofNat (48 + i % 10) :: s) := by
  have hd : ∀ i, Lib.decDigits i = if i < 10 then [UInt8.ofNat (48 + i)] else Lib.decDigits (i / 10) ++ [UInt8.ofNat (48 + i % 10)] := fun i => by
    rw [Lib.decDigits]; split <;> rfl
  have go : ∀ s, Lib.decDigits i ++ s = Lib.decDigits w → TextL w (i / 10) (UInt8.ofNat (48 + i % 10) :: s) := fun s hs => by
    by_cases h10 : i < 10
    · rw [hd i, if_pos h10] at hs
      exact .inr (.inl ⟨by simp, by omega, by rw [← hs, Nat.mod_eq_of_lt h10]; rfl⟩)
    · rw [hd i, if_neg h10] at hs
      exact .inr (.inr ⟨by simp, by omega, by rw [← hs]; simp⟩)
  rcases h with ⟨rfl, rfl⟩ | ⟨h1, rfl, h3⟩ | ⟨h1, h2, h3⟩
  · exact go [] (by simp)
  · rcases hr with hr | hr
    · omega
    · exact absurd hr h1
  · exact go s h3
theorem textL_len {w i : Nat} {s : List UInt8} (h : TextL w i s) (hw : w < 10000) : s.length ≤ 4 := by
  have hd := digits_le 3 w (by omega)
  rcases h with ⟨rfl, _⟩ | ⟨_, _, h⟩ | ⟨_, _, h⟩
  · simp
  · rw [h]; omega
  · rw [← h, List.length_append] at hd; omega
theorem digit_eq (x : Nat) : UInt8.ofNat (48 + x) = 48 + UInt8.ofNat x := by simp [UInt8.ofNat_add]
set_option maxHeartbeats 4000000 in
theorem calls_walk (n room : Nat) (hn : n < 256) (hr : room < 65536) (W : World) (hE : Env W) : Calls Tryz.prog 4 #[.int .u8 n, .int .u16 room] W (BoolEnd W true) := by
  have HE := Lib.hid hE
  clear hE
  have hnI : (n : Int) ≤ 255 := by omega
  have hrI : (room : Int) ≤ 65535 := by omega
  go_enter Tryz.func4, Tryz.ntmps4
  go_wp2_with fail
  have e1 : (n : Int) % 100 = ((n % 100 : Nat) : Int) := by omega
  have e2 : (room : Int) % 4000 = ((room % 4000 : Nat) : Int) := by omega
  have hk : n % 100 < 100 := by omega
  have hr2 : room % 4000 < 4000 := by omega
  rw [e1, e2]
  clear e1 e2
  generalize n % 100 = k at *
  generalize room % 4000 = r at *
  have hkI : (k : Int) < 100 := by omega
  have hrI2 : (r : Int) < 4000 := by omega
  obtain ⟨hc, _, _⟩ := sum_code k hk
  have HLC := Lib.hid hc.len
  clear hc
  refine (sum_any k hk _).mono ?_
  rintro e w1 ⟨A2, A3, c2, c3, rfl, hM, hO, hb1⟩
  have HM := Lib.hid hM
  have HO := Lib.hid hO
  have HB1 := Lib.hid hb1
  have HE1 := Lib.hid (HE.out.below hb1)
  clear hM hO hb1 HE
  go_wp2_with fail
  refine (new_one A2 A3 c2 c3 (sumM (sumC k)) [0] (check_sum _ HLC.out) rfl (by decide) (by simp [sumM]) r 0 9 (by decide) (by simp [sumM]; omega) (by simp [sumM]) (by simp [sumM]) [] (by decide) _ HM.out HO.out).mono ?_
  rintro e w2 ⟨K, rfl, hK, hN, hA, hb, hB⟩
  obtain ⟨hS, hKn⟩ := sum_of_new hN
  obtain ⟨N, S2, hR, hend⟩ := sum_runs k hk K hK hS
  have HR := Lib.hid hR
  have HEND := Lib.hid hend
  have HKn := Lib.hid hKn
  have HK := Lib.hid hK
  have HA := Lib.hid hA
  have HS0 := Lib.hid (show (0 : Int) ≤ (startS K []).steps from by
    rcases sum_start hS with ⟨_, _, _, _⟩ | ⟨h, _⟩
    · have hb := (begins_keep (K := K) (zeroS [])).1
      show (0 : Int) ≤ (trapS (beginsM K (zeroS []))).steps
      unfold trapS
      split
      · show (0 : Int) ≤ (beginsM K (zeroS [])).1.steps
        rw [hb]; decide
      · rw [hb]; decide
    · rw [h.steps]; decide)
  have HKW := Lib.hid (show ∀ b ∈ K.bs, w1.heap.size ≤ b from hb)
  have HB2 := Lib.hid (HB1.out.trans (hB.mono HB1.out.size))
  have HE2 := Lib.hid (HE1.out.below hB)
  have HEK := Lib.hid (envK_of HE1.out hB hb)
  clear hK hN hA hb hB hS hKn hR hend HM HO HE1
  go_wp2_with fail
  refine (run_any K HK.out 100000 (by decide) N _ S2 HR.out HS0.out _ HA.out HEK.out).mono ?_
  rintro e w3 ⟨rfl, hA3, ho3⟩
  have HB3 := Lib.hid (HB2.out.trans (ho3.below HB2.out.size (fun b hm => Nat.le_trans HB1.out.size (HKW.out b hm))))
  have HE3 := Lib.hid (show Env w3 from HEK.out _ ho3)
  have HA3 := Lib.hid hA3
  clear hA3 ho3 HA HEK HB2 HE2 HB1 HKW HR HS0 HLC
  have HX := Lib.hid (show endOf S2 = (S2.kind, S2.trap, S2.steps) from by
    unfold endOf
    rcases HEND.out with ⟨h, _⟩ | ⟨h, _⟩ <;> rw [if_neg (by rw [h]; decide)])
  rw [HX.out]
  dsimp only
  have HXe := Lib.hid (Bx.new w3 #[.int .u8 (S2.kind : Nat), .int .u8 (S2.trap : Nat), .int .i64 S2.steps] 25)
  have hal := alloc_below w3 (.cells #[.int .u8 (S2.kind : Nat), .int .u8 (S2.trap : Nat), .int .i64 S2.steps] 25)
  have HB4 := Lib.hid (HB3.out.trans (hal.mono HB3.out.size))
  have HE4 := Lib.hid (HE3.out.below hal)
  have HA4 := Lib.hid (HA3.out.grow hal)
  clear hal HB3 HE3 HA3
  go_upto_region 7 with (fail)
  generalize hg : w3.heap.size = g at *
  generalize w3.alloc (.cells #[.int .u8 (S2.kind : Nat), .int .u8 (S2.trap : Nat), .int .i64 S2.steps] 25) = w4 at *
  clear hg
  have hm0 : k * (k + 1) ≤ 9900 := by
    have : k * (k + 1) ≤ 99 * (k + 1) := Nat.mul_le_mul_right _ (by omega)
    omega
  have hmc : (k : Int) * ((k : Int) + 1) = ((k * (k + 1) : Nat) : Int) := by simp
  have hm1 : (k : Int) * ((k : Int) + 1) ≤ 9900 := by rw [hmc]; omega
  have hm2 : 0 ≤ (k : Int) * ((k : Int) + 1) := by rw [hmc]; omega
  have e3 : IntKind.i64.wrap ((k : Int) * ((k : Int) + 1)) = (k : Int) * ((k : Int) + 1) := IntWalk.i64_in _ (by omega)
  have HTR := Lib.hid (show ((k : Int) * ((k : Int) + 1)) / 2 = ((tri k : Nat) : Int) from by
    rw [hmc, ← tri_eq k]; omega)
  have HMC := Lib.hid hmc
  clear hmc hm0
  go_upto_region 9 with (fail)
  rw [HTR.out]
  have htl := tri_le k
  have htl2 : tri k ≤ 9900 := by omega
  clear e3 hm1 hm2 HMC htl
  generalize hT : tri k = T at *
  have HTe := Lib.hid hT
  clear hT HTR
  go_wp2_with fail
  go_loopg [11, 12] (T + 1) (fun g s i wr => ∃ (iv : Nat) (sl : List UInt8), g = iv + (if sl.isEmpty then 1 else 0) ∧ s = .string ⟨sl.toArray⟩ ∧ i = .int .i64 iv ∧ iv ≤ T ∧ TextL T iv sl ∧ Below w4.heap.size w4 wr)
  case atStart => exact ⟨T, [], rfl, rfl, rfl, Nat.le_refl _, .inl ⟨rfl, rfl⟩, Below.refl _ _⟩
  case round =>
    obtain ⟨iv, sl, hg, rfl, rfl, hle, ht, hb⟩ := hrel
    have HTL := Lib.hid ht
    have HBL := Lib.hid hb
    clear ht hb
    by_cases hgo : 0 < iv ∨ sl = []
    · have HS := Lib.hid (textL_step HTL.out hgo)
      have HG := Lib.hid hg
      have hmod : (iv : Int) % 10 = ((iv % 10 : Nat) : Int) := by omega
      have hdiv : (iv : Int) / 10 = ((iv / 10 : Nat) : Int) := by omega
      have hm10 : iv % 10 < 10 := by omega
      have HDV := Lib.hid hdiv
      have HMD := Lib.hid hmod
      clear hdiv hmod hg
      have hsl := textL_len HTL.out (by omega)
      have hslI : (sl.length : Int) ≤ 4 := by omega
      rw [digit_eq] at HS
      by_cases hiv : 0 < iv
      · have d0 : decide (0 < (iv : Int)) = true := decide_eq_true (by omega)
        go_wp2_with fail
        go_roundg (iv / 10)
        case measure => rw [HG.out]; split <;> omega
        case rel => exact ⟨iv / 10, _, rfl, rfl, by rw [HDV.out], by omega, HS.out, HBL.out.trans ((alloc_below _ _).mono HBL.out.size)⟩
      · have d0 : decide (0 < (iv : Int)) = false := decide_eq_false (by omega)
        have hs0 : sl = [] := hgo.resolve_left hiv
        subst hs0
        clear hgo
        go_wp2_with fail
        go_roundg (iv / 10)
        case measure => rw [HG.out]; simp; omega
        case rel => exact ⟨iv / 10, _, rfl, rfl, by rw [HDV.out], by omega, HS.out, HBL.out.trans ((alloc_below _ _).mono HBL.out.size)⟩
    · have hiv : iv = 0 := by omega
      have hne : sl ≠ [] := fun e => hgo (.inr e)
      have HSL := Lib.hid (show sl = textL false T from by
        rcases HTL.out with ⟨h, _⟩ | ⟨_, _, h⟩ | ⟨_, h, _⟩
        · exact absurd h hne
        · rw [h]; unfold textL Lib.itoa; simp only [Bool.false_eq_true, if_false]; rw [if_neg (by omega)]; rfl
        · omega)
      have hse : sl.isEmpty = false := by cases sl with
        | nil => exact absurd rfl hne
        | cons x l => rfl
      subst hiv
      have HA5 := Lib.hid (HA4.out.grow HBL.out)
      have HE5 := Lib.hid (HE4.out.below HBL.out)
      have HB5 := Lib.hid (HB4.out.trans (HBL.out.mono HB4.out.size))
      have HX5 := Lib.hid (HXe.out.grow HBL.out)
      have x0 : wr.cell? ⟨g, 0, none⟩ = some (.int .u8 (S2.kind : Nat)) := (HX5.out.cell 0).trans rfl
      have x1 : wr.cell? ⟨g, 1, none⟩ = some (.int .u8 (S2.trap : Nat)) := (HX5.out.cell 1).trans rfl
      clear hgo hne hg HTL HBL HA4 HE4 HB4 HXe HX5
      rcases HEND.out with ⟨k1, k2, k3, k4⟩ | ⟨k1, k2, k3, k4⟩
      · rw [k1] at x0
        have HK3 := Lib.hid k3
        have HK4 := Lib.hid k4
        clear k1 k2 k3 k4 HEND x1
        go_wp2_with fail
        refine (out_any K S2 _ HA5.out).mono ?_
        rintro e w6 ⟨rfl, rfl⟩
        rw [HK3.out, ← HSL.out]
        dsimp only
        go_wp2_with fail
        refine (depth_any K S2 _ HA5.out).mono ?_
        rintro e w6 ⟨rfl, rfl⟩
        rw [HK4.out]
        dsimp only
        go_wp2_with fail
        refine (alive20_any _ HE5.out).mono ?_
        rintro e w6 ⟨rfl, hb6⟩
        go_wp2_with fail
        go_ret
        exact ⟨rfl, HB5.out.trans (hb6.mono HB5.out.size)⟩
      · rw [k1] at x0
        rw [k2] at x1
        have HK3 := Lib.hid k3
        have HK4 := Lib.hid k4
        clear k1 k2 k3 k4 HEND
        have hroom : (r : Int) < 30 * ((k : Int) + 2) := by have := HK4.out; have := HKn.out; omega
        have d1 : decide ((r : Int) < 30 * ((k : Int) + 2)) = true := decide_eq_true hroom
        go_wp2_with fail
        refine (out_any K S2 _ HA5.out).mono ?_
        rintro e w6 ⟨rfl, rfl⟩
        rw [HK3.out]
        dsimp only
        go_wp2_with fail
        refine (alive20_any _ HE5.out).mono ?_
        rintro e w6 ⟨rfl, hb6⟩
        go_wp2_with fail
        go_ret
        exact ⟨rfl, HB5.out.trans (hb6.mono HB5.out.size)⟩
end Go.Proofs.YtpfcojnkflcnoaaGreatDoor
