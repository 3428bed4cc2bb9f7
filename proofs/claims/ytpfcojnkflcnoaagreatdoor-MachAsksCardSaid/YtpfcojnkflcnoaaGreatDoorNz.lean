/- separatumlaw20.MachAsks: true. Condition: tables of the library's lie there. (Printed by gen_nz.py.) -/
import Derived.Test.YtpfcojnkflcnoaaGreatDoorBq
namespace Go.Proofs.YtpfcojnkflcnoaaGreatDoor
open Go.RowKit
set_option maxRecDepth 100000
attribute [local go_sem ↓] Go.wp_at_zero Go.wp_at_succ

theorem signedI_2 (x : Int) : (signedI x).2 = 0 ∨ (signedI x).2 = 1 := by unfold signedI fitsI; split <;> simp
theorem bareI_2 (x : Int) : (bareI x).2 = 0 ∨ (bareI x).2 = 1 := by unfold bareI fitsI; split <;> simp
theorem isI_2 (x : Bool) : (isI x).2 = 0 := by unfold isI; first | rfl | (split <;> rfl)
theorem overI_2 (b : Int) (r : Int × Nat) (h : r.2 = 0 ∨ r.2 = 1) : (overI b r).2 = 0 ∨ (overI b r).2 = 1 ∨ (overI b r).2 = 4 := by
  unfold overI
  split
  · simp
  · rcases h with h | h <;> simp [h]
theorem rowI_2 (a b : Nat) : (rowI a b).2 = 0 ∨ (rowI a b).2 = 2 := by unfold rowI; split <;> simp
theorem op_trap (n a b : Nat) (hn : takesN n = 2) : (opI n a b).2 = 0 ∨ (opI n a b).2 = 1 ∨ (opI n a b).2 = 2 ∨ (opI n a b).2 = 4 := by
  have two : ∀ {x : Nat}, (x = 0 ∨ x = 1) → (x = 0 ∨ x = 1 ∨ x = 2 ∨ x = 4) := by omega
  have three : ∀ {x : Nat}, (x = 0 ∨ x = 1 ∨ x = 4) → (x = 0 ∨ x = 1 ∨ x = 2 ∨ x = 4) := by omega
  have row : ∀ {x : Nat}, (x = 0 ∨ x = 2) → (x = 0 ∨ x = 1 ∨ x = 2 ∨ x = 4) := by omega
  have h31 : 1 ≤ n ∧ n ≤ 31 := by unfold takesN at hn; split at hn <;> omega
  obtain rfl | rfl | rfl | rfl | rfl | rfl | rfl | rfl | rfl | rfl | rfl | rfl | rfl | rfl | rfl | rfl | rfl | rfl | rfl | rfl | rfl | rfl | rfl | rfl | rfl | rfl | rfl | rfl | rfl | rfl | rfl : n = 1 ∨ n = 2 ∨ n = 3 ∨ n = 4 ∨ n = 5 ∨ n = 6 ∨ n = 7 ∨ n = 8 ∨ n = 9 ∨ n = 10 ∨ n = 11 ∨ n = 12 ∨ n = 13 ∨ n = 14 ∨ n = 15 ∨ n = 16 ∨ n = 17 ∨ n = 18 ∨ n = 19 ∨ n = 20 ∨ n = 21 ∨ n = 22 ∨ n = 23 ∨ n = 24 ∨ n = 25 ∨ n = 26 ∨ n = 27 ∨ n = 28 ∨ n = 29 ∨ n = 30 ∨ n = 31 := by omega
  all_goals first
    | exact two (signedI_2 _)
    | exact two (bareI_2 _)
    | exact three (overI_2 _ _ (signedI_2 _))
    | exact three (overI_2 _ _ (bareI_2 _))
    | exact .inl (isI_2 _)
    | exact .inl rfl
    | exact row (rowI_2 _ _)
theorem digits_some (n : Nat) : Lib.decDigits n ≠ [] := by
  rw [Lib.decDigits]
  split
  · simp
  · simp
theorem text_some (x : Nat) : textL false x ≠ [] := by
  unfold textL Lib.itoa
  simp only [Bool.false_eq_true, if_false]
  rw [if_neg (by omega)]
  exact digits_some _
theorem err_ok {l : List K16.InsL} (h : ∀ i ∈ l, (K16.oneL i.1 i.2).2 = 0) : K16.errOf l = 0 := by
  induction l with
  | nil => rfl
  | cons i l ih =>
    unfold K16.errOf
    rw [if_neg (by rw [h i (by simp)]; decide)]
    exact ih fun j hj => h j (by simp [hj])
theorem enc_ok {l : List K16.InsL} (h : ∀ i ∈ l, (K16.oneL i.1 i.2).2 = 0) (hl : (K16.bytesOf l).length ≤ 65535) : K16.encodeL l = (K16.bytesOf l, 0) := by
  unfold K16.encodeL
  rw [if_neg (by rw [err_ok h]; decide), if_neg (by omega)]
theorem ask_fits (a b n : Nat) (ha : a < 65536) (hb : b < 65536) (hn : takesN n = 2) :
    (K16.bytesOf (askP a b n)).length ≤ 65535 ∧ (K16.bytesOf (askQ a b n)).length ≤ 65535 ∧ K16.encodeL (askP a b n) = (K16.bytesOf (askP a b n), 0) ∧ K16.encodeL (askQ a b n) = (K16.bytesOf (askQ a b n), 0) := by
  obtain ⟨e1, e2⟩ := one_lit a ha
  obtain ⟨e3, e4⟩ := one_lit b hb
  have hn' : n < 256 ∧ K16.thereB n = true ∧ K16.formL n = [] := by
    have : ∀ n, n < 32 → takesN n = 2 → n < 256 ∧ K16.thereB n = true ∧ K16.formL n = [] := by decide
    exact this n (by unfold takesN at hn; split at hn <;> omega) hn
  obtain ⟨e5, e6⟩ := plain_len n hn'.1 hn'.2.1 hn'.2.2
  have o70 : (K16.oneL 70 []).2 = 0 ∧ (K16.oneL 70 []).1.length = 1 := by decide
  have o68 : (K16.oneL 68 []).2 = 0 ∧ (K16.oneL 68 []).1.length = 1 := by decide
  have o69 : (K16.oneL 69 []).2 = 0 ∧ (K16.oneL 69 []).1.length = 1 := by decide
  have o78 : (K16.oneL 78 []).2 = 0 ∧ (K16.oneL 78 []).1.length = 1 := by decide
  have o65 : (K16.oneL 65 []).2 = 0 ∧ (K16.oneL 65 []).1.length = 1 := by decide
  have p1 : (K16.bytesOf (askP a b n)).length ≤ 65535 := by simp [K16.bytesOf, askP, e2, e4, e6, o78, o65]
  have p2 : (K16.bytesOf (askQ a b n)).length ≤ 65535 := by simp [K16.bytesOf, askQ, e2, e4, e6, o70, o68, o69, o78, o65]
  refine ⟨p1, p2, enc_ok ?_ p1, enc_ok ?_ p2⟩
  · intro i hi
    simp only [askP, List.mem_cons, List.not_mem_nil, or_false] at hi
    rcases hi with rfl | rfl | rfl | rfl | rfl
    · exact e1
    · exact e3
    · exact e5
    · exact o78.1
    · exact o65.1
  · intro i hi
    simp only [askQ, List.mem_cons, List.not_mem_nil, or_false] at hi
    rcases hi with rfl | rfl | rfl | rfl | rfl | rfl | rfl | rfl
    · exact e3
    · exact e1
    · exact o70.1
    · exact e5
    · exact o68.1
    · exact o69.1
    · exact o78.1
    · exact o65.1
set_option maxHeartbeats 4000000 in
theorem asks_walk (n a b : Nat) (ha : a < 65536) (hb : b < 65536) (hn : takesN n = 2) (kind trap : Nat) (s1 s2 : Int) (o : List UInt8) (h1 : Comes (K16.bytesOf (askP a b n)) 9 kind trap s1 o) (h2 : Comes (K16.bytesOf (askQ a b n)) 9 kind trap s2 o)
    (hend : (kind = 1 ∧ trap = 0 ∧ s1 = 5 ∧ s2 = 8 ∧ o ≠ []) ∨ (kind = 2 ∧ s1 = 3 ∧ s2 = 4 ∧ o = [] ∧ (trap = 1 ∨ trap = 2 ∨ trap = 4))) (w0 : World) (hE : Env w0) :
    Calls Tryz.prog 3 #[.int .u8 n, .int .u16 a, .int .u16 b] w0 (BoolEnd w0 true) := by
  have HE0 := Lib.hid hE
  have HB0 := Lib.hid (Below.refl w0.heap.size w0)
  have HF := Lib.hid (ask_fits a b n ha hb hn)
  have HC1 := Lib.hid h1
  have HC2 := Lib.hid h2
  have HEND := Lib.hid hend
  have hr : n < 256 ∧ 1 ≤ n ∧ n ≤ 31 ∧ n ≠ 6 ∧ n ≠ 7 ∧ n ≠ 23 ∧ n ≠ 30 := by
    unfold takesN at hn
    split at hn
    · cases hn
    · split at hn
      · cases hn
      · omega
  obtain ⟨r0, r1, r2, r3, r4, r5, r6⟩ := hr
  have t1 : decide (1 ≤ (n : Int)) = true := decide_eq_true (by omega)
  have t2 : decide ((n : Int) ≤ 31) = true := decide_eq_true (by omega)
  have t3 : ((n : Int) != 6) = true := bne_iff_ne.2 (by omega)
  have t4 : ((n : Int) != 7) = true := bne_iff_ne.2 (by omega)
  have t5 : ((n : Int) != 23) = true := bne_iff_ne.2 (by omega)
  have t6 : ((n : Int) != 30) = true := bne_iff_ne.2 (by omega)
  have t7 : ((n : Int) == 6) = false := beq_eq_false_iff_ne.2 (by omega)
  have t8 : ((n : Int) == 7) = false := beq_eq_false_iff_ne.2 (by omega)
  have t9 : ((n : Int) == 23) = false := beq_eq_false_iff_ne.2 (by omega)
  have t10 : ((n : Int) == 30) = false := beq_eq_false_iff_ne.2 (by omega)
  have haI : (a : Int) ≤ 65535 := by omega
  have hbI : (b : Int) ≤ 65535 := by omega
  have r1' : 1 ≤ n := r1
  clear hE h1 h2 hend hn r3 r4 r5 r6
  go_enter Tryz.func3, Tryz.ntmps3
  go_wp2_with fail
  refine (ins_any 40 _ 1 1 _).mono ?_
  rintro e w1 ⟨rfl, hb⟩
  have HI0x1 := Lib.hid ((ints_new w0 (a : Int)).later hb (Nat.le_refl _))
  replace hb := (alloc_below w0 (.cells #[.int .i64 (a : Int)] 3)).trans (hb.mono (by simp))
  have HE1 := Lib.hid (HE0.out.below hb)
  have HB1 := Lib.hid (HB0.out.trans (hb.mono HB0.out.size))
  clear HE0 HB0
  clear hb
  go_wp2_with fail
  refine (ins_any 40 _ 1 1 _).mono ?_
  rintro e w2 ⟨rfl, hb⟩
  have HI1x2 := Lib.hid ((ints_new w1 (b : Int)).later hb (Nat.le_refl _))
  replace hb := (alloc_below w1 (.cells #[.int .i64 (b : Int)] 3)).trans (hb.mono (by simp))
  have HI0x2 := Lib.hid (HI0x1.out.later hb (Nat.le_refl _))
  clear HI0x1
  have HE2 := Lib.hid (HE1.out.below hb)
  have HB2 := Lib.hid (HB1.out.trans (hb.mono HB1.out.size))
  clear HE1 HB1
  clear hb
  go_wp2_with fail
  refine (ins_any n none 0 0 _).mono ?_
  rintro e w3 ⟨rfl, hb⟩
  have HI0x3 := Lib.hid (HI0x2.out.later hb (Nat.le_refl _))
  clear HI0x2
  have HI1x3 := Lib.hid (HI1x2.out.later hb (Nat.le_refl _))
  clear HI1x2
  have HE3 := Lib.hid (HE2.out.below hb)
  have HB3 := Lib.hid (HB2.out.trans (hb.mono HB2.out.size))
  clear HE2 HB2
  clear hb
  go_wp2_with fail
  refine (ins_any 78 none 0 0 _).mono ?_
  rintro e w4 ⟨rfl, hb⟩
  have HI0x4 := Lib.hid (HI0x3.out.later hb (Nat.le_refl _))
  clear HI0x3
  have HI1x4 := Lib.hid (HI1x3.out.later hb (Nat.le_refl _))
  clear HI1x3
  have HE4 := Lib.hid (HE3.out.below hb)
  have HB4 := Lib.hid (HB3.out.trans (hb.mono HB3.out.size))
  clear HE3 HB3
  clear hb
  go_wp2_with fail
  refine (ins_any 65 none 0 0 _).mono ?_
  rintro e w5 ⟨rfl, hb⟩
  have HI0x5 := Lib.hid (HI0x4.out.later hb (Nat.le_refl _))
  clear HI0x4
  have HI1x5 := Lib.hid (HI1x4.out.later hb (Nat.le_refl _))
  clear HI1x4
  have HE5 := Lib.hid (HE4.out.below hb)
  have HB5 := Lib.hid (HB4.out.trans (hb.mono HB4.out.size))
  clear HE4 HB4
  clear hb
  go_wp2_with fail
  have hi := inss_of ([⟨40, some ⟨w0.heap.size, 0, none⟩, 1, [(a : Int)]⟩, ⟨40, some ⟨w1.heap.size, 0, none⟩, 1, [(b : Int)]⟩, ⟨n, none, 0, []⟩, ⟨78, none, 0, []⟩, ⟨65, none, 0, []⟩] : List IA) ((Bx.new w5 #[.int .u8 40, .slice (some ⟨w0.heap.size, 0, none⟩) 1 1, .int .u8 40, .slice (some ⟨w1.heap.size, 0, none⟩) 1 1, .int .u8 n, .slice none 0 0, .int .u8 78, .slice none 0 0, .int .u8 65, .slice none 0 0] 34).to rfl) (by
    intro x hx
    simp only [List.mem_cons, List.not_mem_nil, or_false] at hx
    rcases hx with rfl | rfl | rfl | rfl | rfl
    · exact ⟨HI0x5.out.later (alloc_below _ _) (Nat.le_refl _), by simp only; omega, by simp⟩
    · exact ⟨HI1x5.out.later (alloc_below _ _) (Nat.le_refl _), by simp only; omega, by simp⟩
    · exact ⟨.inl rfl, by simp only; omega, by simp⟩
    · exact ⟨.inl rfl, by simp only; omega, by simp⟩
    · exact ⟨.inl rfl, by simp only; omega, by simp⟩
    )
  have HIn := Lib.hid (show K16.Inss (w5.alloc (.cells #[.int .u8 40, .slice (some ⟨w0.heap.size, 0, none⟩) 1 1, .int .u8 40, .slice (some ⟨w1.heap.size, 0, none⟩) 1 1, .int .u8 n, .slice none 0 0, .int .u8 78, .slice none 0 0, .int .u8 65, .slice none 0 0] 34)) (some ⟨w5.heap.size, 0, none⟩) (askP a b n) from hi)
  clear hi HI0x5 HI1x5
  have HA := Lib.hid (alloc_below w5 (.cells #[.int .u8 40, .slice (some ⟨w0.heap.size, 0, none⟩) 1 1, .int .u8 40, .slice (some ⟨w1.heap.size, 0, none⟩) 1 1, .int .u8 n, .slice none 0 0, .int .u8 78, .slice none 0 0, .int .u8 65, .slice none 0 0] 34))
  have HEc := Lib.hid (show K16.encodeL (askP a b n) = (K16.bytesOf (askP a b n), 0) from HF.out.2.2.1)
  refine (one_any _ (askP a b n) 5 (by show 5 ≤ 1000; omega) (by rw [HEc.out]) (by rw [HEc.out]; exact HF.out.1) _ HIn.out).mono ?_
  rw [HEc.out]
  rintro e w6 ⟨A2, A3, c2, c3, rfl, hM, hO, hb⟩
  replace hb := HA.out.trans (hb.mono HA.out.size)
  clear HA HIn HEc
  have HE6 := Lib.hid (HE5.out.below hb)
  have HB6 := Lib.hid (HB5.out.trans (hb.mono HB5.out.size))
  clear HE5 HB5
  clear hb
  have HM := Lib.hid hM
  have HO := Lib.hid hO
  clear hM hO
  go_wp2_with fail
  refine (ends_any _ (HF.out.1) 9 (by decide) _ _ _ _ (HC1.out) A2 A3 c2 c3 _ (HE6.out) HM.out HO.out).mono ?_
  rintro e w7 ⟨rfl, hb⟩
  clear HM HO
  have HE7 := Lib.hid (HE6.out.below hb)
  have HB7 := Lib.hid (HB6.out.trans (hb.mono HB6.out.size))
  clear HE6 HB6
  clear hb
  have hX0 := Bx.new w7 #[.int .u8 (kind : Nat), .int .u8 (trap : Nat), .int .i64 s1] 25
  have ha := alloc_below w7 (.cells #[.int .u8 (kind : Nat), .int .u8 (trap : Nat), .int .i64 s1] 25)
  have HE8 := Lib.hid (HE7.out.below ha)
  have HB8 := Lib.hid (HB7.out.trans (ha.mono HB7.out.size))
  have HX0_8 := Lib.hid hX0
  clear ha hX0 HE7 HB7
  clear t1 t2 t3 t4 t5 t6 t7 t8 t9 t10
  go_upto_region 5 with (fail)
  generalize hg0 : w7.heap.size = g0 at *
  generalize World.alloc _ _ = w8 at *
  clear hg0
  go_wp2_with fail
  refine (ins_any 40 _ 1 1 _).mono ?_
  rintro e w9 ⟨rfl, hb⟩
  have HI0x9 := Lib.hid ((ints_new w8 (b : Int)).later hb (Nat.le_refl _))
  replace hb := (alloc_below w8 (.cells #[.int .i64 (b : Int)] 3)).trans (hb.mono (by simp))
  have HE9 := Lib.hid (HE8.out.below hb)
  have HB9 := Lib.hid (HB8.out.trans (hb.mono HB8.out.size))
  have HX0_9 := Lib.hid (HX0_8.out.grow hb)
  clear HE8 HB8 HX0_8
  clear hb
  go_wp2_with fail
  refine (ins_any 40 _ 1 1 _).mono ?_
  rintro e w10 ⟨rfl, hb⟩
  have HI1x10 := Lib.hid ((ints_new w9 (a : Int)).later hb (Nat.le_refl _))
  replace hb := (alloc_below w9 (.cells #[.int .i64 (a : Int)] 3)).trans (hb.mono (by simp))
  have HI0x10 := Lib.hid (HI0x9.out.later hb (Nat.le_refl _))
  clear HI0x9
  have HE10 := Lib.hid (HE9.out.below hb)
  have HB10 := Lib.hid (HB9.out.trans (hb.mono HB9.out.size))
  have HX0_10 := Lib.hid (HX0_9.out.grow hb)
  clear HE9 HB9 HX0_9
  clear hb
  go_wp2_with fail
  refine (ins_any 70 none 0 0 _).mono ?_
  rintro e w11 ⟨rfl, hb⟩
  have HI0x11 := Lib.hid (HI0x10.out.later hb (Nat.le_refl _))
  clear HI0x10
  have HI1x11 := Lib.hid (HI1x10.out.later hb (Nat.le_refl _))
  clear HI1x10
  have HE11 := Lib.hid (HE10.out.below hb)
  have HB11 := Lib.hid (HB10.out.trans (hb.mono HB10.out.size))
  have HX0_11 := Lib.hid (HX0_10.out.grow hb)
  clear HE10 HB10 HX0_10
  clear hb
  go_wp2_with fail
  refine (ins_any n none 0 0 _).mono ?_
  rintro e w12 ⟨rfl, hb⟩
  have HI0x12 := Lib.hid (HI0x11.out.later hb (Nat.le_refl _))
  clear HI0x11
  have HI1x12 := Lib.hid (HI1x11.out.later hb (Nat.le_refl _))
  clear HI1x11
  have HE12 := Lib.hid (HE11.out.below hb)
  have HB12 := Lib.hid (HB11.out.trans (hb.mono HB11.out.size))
  have HX0_12 := Lib.hid (HX0_11.out.grow hb)
  clear HE11 HB11 HX0_11
  clear hb
  go_wp2_with fail
  refine (ins_any 68 none 0 0 _).mono ?_
  rintro e w13 ⟨rfl, hb⟩
  have HI0x13 := Lib.hid (HI0x12.out.later hb (Nat.le_refl _))
  clear HI0x12
  have HI1x13 := Lib.hid (HI1x12.out.later hb (Nat.le_refl _))
  clear HI1x12
  have HE13 := Lib.hid (HE12.out.below hb)
  have HB13 := Lib.hid (HB12.out.trans (hb.mono HB12.out.size))
  have HX0_13 := Lib.hid (HX0_12.out.grow hb)
  clear HE12 HB12 HX0_12
  clear hb
  go_wp2_with fail
  refine (ins_any 69 none 0 0 _).mono ?_
  rintro e w14 ⟨rfl, hb⟩
  have HI0x14 := Lib.hid (HI0x13.out.later hb (Nat.le_refl _))
  clear HI0x13
  have HI1x14 := Lib.hid (HI1x13.out.later hb (Nat.le_refl _))
  clear HI1x13
  have HE14 := Lib.hid (HE13.out.below hb)
  have HB14 := Lib.hid (HB13.out.trans (hb.mono HB13.out.size))
  have HX0_14 := Lib.hid (HX0_13.out.grow hb)
  clear HE13 HB13 HX0_13
  clear hb
  go_wp2_with fail
  refine (ins_any 78 none 0 0 _).mono ?_
  rintro e w15 ⟨rfl, hb⟩
  have HI0x15 := Lib.hid (HI0x14.out.later hb (Nat.le_refl _))
  clear HI0x14
  have HI1x15 := Lib.hid (HI1x14.out.later hb (Nat.le_refl _))
  clear HI1x14
  have HE15 := Lib.hid (HE14.out.below hb)
  have HB15 := Lib.hid (HB14.out.trans (hb.mono HB14.out.size))
  have HX0_15 := Lib.hid (HX0_14.out.grow hb)
  clear HE14 HB14 HX0_14
  clear hb
  go_wp2_with fail
  refine (ins_any 65 none 0 0 _).mono ?_
  rintro e w16 ⟨rfl, hb⟩
  have HI0x16 := Lib.hid (HI0x15.out.later hb (Nat.le_refl _))
  clear HI0x15
  have HI1x16 := Lib.hid (HI1x15.out.later hb (Nat.le_refl _))
  clear HI1x15
  have HE16 := Lib.hid (HE15.out.below hb)
  have HB16 := Lib.hid (HB15.out.trans (hb.mono HB15.out.size))
  have HX0_16 := Lib.hid (HX0_15.out.grow hb)
  clear HE15 HB15 HX0_15
  clear hb
  go_wp2_with fail
  have hi := inss_of ([⟨40, some ⟨w8.heap.size, 0, none⟩, 1, [(b : Int)]⟩, ⟨40, some ⟨w9.heap.size, 0, none⟩, 1, [(a : Int)]⟩, ⟨70, none, 0, []⟩, ⟨n, none, 0, []⟩, ⟨68, none, 0, []⟩, ⟨69, none, 0, []⟩, ⟨78, none, 0, []⟩, ⟨65, none, 0, []⟩] : List IA) ((Bx.new w16 #[.int .u8 40, .slice (some ⟨w8.heap.size, 0, none⟩) 1 1, .int .u8 40, .slice (some ⟨w9.heap.size, 0, none⟩) 1 1, .int .u8 70, .slice none 0 0, .int .u8 n, .slice none 0 0, .int .u8 68, .slice none 0 0, .int .u8 69, .slice none 0 0, .int .u8 78, .slice none 0 0, .int .u8 65, .slice none 0 0] 34).to rfl) (by
    intro x hx
    simp only [List.mem_cons, List.not_mem_nil, or_false] at hx
    rcases hx with rfl | rfl | rfl | rfl | rfl | rfl | rfl | rfl
    · exact ⟨HI0x16.out.later (alloc_below _ _) (Nat.le_refl _), by simp only; omega, by simp⟩
    · exact ⟨HI1x16.out.later (alloc_below _ _) (Nat.le_refl _), by simp only; omega, by simp⟩
    · exact ⟨.inl rfl, by simp only; omega, by simp⟩
    · exact ⟨.inl rfl, by simp only; omega, by simp⟩
    · exact ⟨.inl rfl, by simp only; omega, by simp⟩
    · exact ⟨.inl rfl, by simp only; omega, by simp⟩
    · exact ⟨.inl rfl, by simp only; omega, by simp⟩
    · exact ⟨.inl rfl, by simp only; omega, by simp⟩
    )
  have HIn := Lib.hid (show K16.Inss (w16.alloc (.cells #[.int .u8 40, .slice (some ⟨w8.heap.size, 0, none⟩) 1 1, .int .u8 40, .slice (some ⟨w9.heap.size, 0, none⟩) 1 1, .int .u8 70, .slice none 0 0, .int .u8 n, .slice none 0 0, .int .u8 68, .slice none 0 0, .int .u8 69, .slice none 0 0, .int .u8 78, .slice none 0 0, .int .u8 65, .slice none 0 0] 34)) (some ⟨w16.heap.size, 0, none⟩) (askQ a b n) from hi)
  clear hi HI0x16 HI1x16
  have HA := Lib.hid (alloc_below w16 (.cells #[.int .u8 40, .slice (some ⟨w8.heap.size, 0, none⟩) 1 1, .int .u8 40, .slice (some ⟨w9.heap.size, 0, none⟩) 1 1, .int .u8 70, .slice none 0 0, .int .u8 n, .slice none 0 0, .int .u8 68, .slice none 0 0, .int .u8 69, .slice none 0 0, .int .u8 78, .slice none 0 0, .int .u8 65, .slice none 0 0] 34))
  have HEc := Lib.hid (show K16.encodeL (askQ a b n) = (K16.bytesOf (askQ a b n), 0) from HF.out.2.2.2)
  refine (one_any _ (askQ a b n) 8 (by show 8 ≤ 1000; omega) (by rw [HEc.out]) (by rw [HEc.out]; exact HF.out.2.1) _ HIn.out).mono ?_
  rw [HEc.out]
  rintro e w17 ⟨A2, A3, c2, c3, rfl, hM, hO, hb⟩
  replace hb := HA.out.trans (hb.mono HA.out.size)
  clear HA HIn HEc
  have HE17 := Lib.hid (HE16.out.below hb)
  have HB17 := Lib.hid (HB16.out.trans (hb.mono HB16.out.size))
  have HX0_17 := Lib.hid (HX0_16.out.grow hb)
  clear HE16 HB16 HX0_16
  clear hb
  have HM := Lib.hid hM
  have HO := Lib.hid hO
  clear hM hO
  go_wp2_with fail
  refine (ends_any _ (HF.out.2.1) 9 (by decide) _ _ _ _ (HC2.out) A2 A3 c2 c3 _ (HE17.out) HM.out HO.out).mono ?_
  rintro e w18 ⟨rfl, hb⟩
  clear HM HO
  have HE18 := Lib.hid (HE17.out.below hb)
  have HB18 := Lib.hid (HB17.out.trans (hb.mono HB17.out.size))
  have HX0_18 := Lib.hid (HX0_17.out.grow hb)
  clear HE17 HB17 HX0_17
  clear hb
  have hX1 := Bx.new w18 #[.int .u8 (kind : Nat), .int .u8 (trap : Nat), .int .i64 s2] 25
  have ha := alloc_below w18 (.cells #[.int .u8 (kind : Nat), .int .u8 (trap : Nat), .int .i64 s2] 25)
  have HE19 := Lib.hid (HE18.out.below ha)
  have HB19 := Lib.hid (HB18.out.trans (ha.mono HB18.out.size))
  have HX0_19 := Lib.hid (HX0_18.out.grow ha)
  have HX1_19 := Lib.hid hX1
  clear ha hX1 HE18 HB18 HX0_18
  go_upto_region 6 with (fail)
  generalize hg1 : w18.heap.size = g1 at *
  generalize World.alloc _ _ = w19 at *
  clear hg1
  have a0 : w19.cell? ⟨g0, 0, none⟩ = some (.int .u8 kind) := (HX0_19.out.cell 0).trans rfl
  have a1 : w19.cell? ⟨g0, 1, none⟩ = some (.int .u8 trap) := (HX0_19.out.cell 1).trans rfl
  have a2 : w19.cell? ⟨g0, 2, none⟩ = some (.int .i64 s1) := (HX0_19.out.cell 2).trans rfl
  have b0 : w19.cell? ⟨g1, 0, none⟩ = some (.int .u8 kind) := (HX1_19.out.cell 0).trans rfl
  have b1 : w19.cell? ⟨g1, 1, none⟩ = some (.int .u8 trap) := (HX1_19.out.cell 1).trans rfl
  have b2 : w19.cell? ⟨g1, 2, none⟩ = some (.int .i64 s2) := (HX1_19.out.cell 2).trans rfl
  clear HX0_19 HX1_19 HC1 HC2 HF
  rcases HEND.out with ⟨rfl, rfl, rfl, rfl, ho⟩ | ⟨rfl, rfl, rfl, rfl, ht⟩
  · clear HEND
    have ho1 : o.isEmpty = false := by cases o with
      | nil => exact absurd rfl ho
      | cons x l => rfl
    clear ho
    go_wp2_with fail
    refine (alive20_any _ (HE19.out)).mono ?_
    rintro e wz ⟨rfl, hb⟩
    go_wp2_with fail
    go_ret
    exact ⟨rfl, HB19.out.trans (hb.mono HB19.out.size)⟩
  · clear HEND
    rcases ht with rfl | rfl | rfl
    all_goals
      go_wp2_with fail
      refine (alive20_any _ (HE19.out)).mono ?_
      rintro e wz ⟨rfl, hb⟩
      go_wp2_with fail
      go_ret
      exact ⟨rfl, HB19.out.trans (hb.mono HB19.out.size)⟩
theorem asks_alive (n a b : Nat) (hr : n = 0 ∨ 31 < n ∨ n = 6 ∨ n = 7 ∨ n = 23 ∨ n = 30) (hn : n < 256) (w0 : World) (hE : Env w0) :
    Calls Tryz.prog 3 #[.int .u8 n, .int .u16 a, .int .u16 b] w0 (BoolEnd w0 true) := by
  have HE := Lib.hid hE
  clear hE
  rcases hr with rfl | hr | rfl | rfl | rfl | rfl
  rotate_left 1
  · have t1 : decide (1 ≤ (n : Int)) = true := decide_eq_true (by omega)
    have t2 : decide ((n : Int) ≤ 31) = false := decide_eq_false (by omega)
    go_enter Tryz.func3, Tryz.ntmps3
    go_wp2_with fail
    refine (alive20_any _ HE.out).mono ?_
    rintro e wz ⟨rfl, hb⟩
    go_wp2_with fail
    go_ret
    exact ⟨rfl, hb⟩
  all_goals
    go_enter Tryz.func3, Tryz.ntmps3
    go_wp2_with fail
    refine (alive20_any _ HE.out).mono ?_
    rintro e wz ⟨rfl, hb⟩
    go_wp2_with fail
    go_ret
    exact ⟨rfl, hb⟩
theorem machAsks_any (n a b : Nat) (hn : n < 256) (ha : a < 65536) (hb : b < 65536) (W : World) (hE : Env W) : Calls Tryz.prog 3 #[.int .u8 n, .int .u16 a, .int .u16 b] W (BoolEnd W true) := by
  by_cases h2 : takesN n = 2
  · have hp := ask_comes a b n ha hb h2
    have hq := askQ_comes a b n ha hb h2
    by_cases hz : (opI n a b).2 = 0
    · rw [if_pos hz] at hp hq
      exact asks_walk n a b ha hb h2 1 0 5 8 _ hp hq (.inl ⟨rfl, rfl, rfl, rfl, text_some _⟩) W hE
    · rw [if_neg hz] at hp hq
      exact asks_walk n a b ha hb h2 2 _ 3 4 [] hp hq (.inr ⟨rfl, rfl, rfl, rfl, by have := op_trap n a b h2; omega⟩) W hE
  · refine asks_alive n a b ?_ hn W hE
    unfold takesN at h2
    split at h2
    · omega
    · split at h2
      · omega
      · exact absurd rfl h2
end Go.Proofs.YtpfcojnkflcnoaaGreatDoor
