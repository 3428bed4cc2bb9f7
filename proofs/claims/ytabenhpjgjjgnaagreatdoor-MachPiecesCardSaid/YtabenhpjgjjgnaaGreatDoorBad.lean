/- word. -/
import Derived.Test.YtabenhpjgjjgnaaGreatDoorBac
namespace Go.Proofs.YtabenhpjgjjgnaaGreatDoor
open Go.RowKit
set_option maxRecDepth 100000
attribute [local go_sem ↓] Go.wp_at_zero Go.wp_at_succ
def opI (n a b : Nat) : Int × Nat := match n with
 | 1 => signedI (sg a + sg b)
 | 2 => signedI (sg a - sg b)
 | 3 => signedI (sg a * sg b)
 | 4 => overI (sg b) (signedI ((sg a).tdiv (sg b)))
 | 5 => overI (sg b) (signedI ((sg a).tmod (sg b)))
 | 6 => signedI (-(sg a))
 | 7 => signedI (max (sg a) (-(sg a)))
 | 8 => bareI ((a : Int) + b)
 | 9 => bareI ((a : Int) - b)
 | 10 => bareI ((a : Int) * b)
 | 11 => overI b (bareI ((a : Int) / b))
 | 12 => overI b (bareI ((a : Int) % b))
 | 13 => isI ((a : Int) == b)
 | 14 => isI ((a : Int) != b)
 | 15 => isI (asksB 0 (sg a) (sg b))
 | 16 => isI (asksB 1 (sg a) (sg b))
 | 17 => isI (asksB 2 (sg a) (sg b))
 | 18 => isI (asksB 3 (sg a) (sg b))
 | 19 => isI (asksB 0 a b)
 | 20 => isI (asksB 1 a b)
 | 21 => isI (asksB 2 a b)
 | 22 => isI (asksB 3 a b)
 | 23 => isI ((a : Int) == 0)
 | 24 => (bits .or .u16 (a : Int) (b : Int), 0)
 | 25 => (bits .andNot .u16 (a : Int) (b : Int), 0)
 | 26 => (bits .and .u16 (a : Int) (b : Int), 0)
 | 27 => (bits .xor .u16 (a : Int) (b : Int), 0)
 | 28 => isI (inI a b)
 | 29 => isI (bits .andNot .u16 (a : Int) (b : Int) == 0)
 | 30 => rowI a a
 | 31 => rowI a b
 | _ => (0, 8)
theorem doesL_nodup (α β p q r s : Nat) : ((doesL α β p q r s).map (·.1)).Nodup := by simp [doesL]
def DoEnd (W : World) (n a b : Nat) : Ending → World → Prop := WtEnd W (opI n a b)
theorem doesOf1 (a b : Nat) (ha : a < 65536) (hb : b < 65536) (W : World) : Calls Tryz.prog 130 #[.int .u8 1, .int .u16 a, .int .u16 b] W (DoEnd W 1 a b) := by
 go_enter Tryz.func130, Tryz.ntmps130
 go_wp2_with fail
 refine (does_any a b ha hb W).mono ?_
 rintro e w1 ⟨α, β, p, q, r, s, m, rfl, hF, ca, cb, cp, cq, cr, cs, hb1⟩
 have L : (Instr.lookup 236 (.map (some m)) (.int .u8 1) true).run Tryz.prog w1 = .ok (.tuple #[.func (.func 255) #[] #[.pointer (some ⟨p, 0, none⟩), .pointer (some ⟨q, 0, none⟩)], .bool true]) w1 := (fm_look (P := Tryz.prog) Tryz.underlying236 Tryz.underlying5 w1 m _ hF (doesL_nodup α β p q r s) 1 (.func (.func 255) #[] #[.pointer (some ⟨p, 0, none⟩), .pointer (some ⟨q, 0, none⟩)]) (by simp [doesL])).2
 have HB := Lib.hid hb1
 have HC := Lib.hid (does1 (sg a) (sg b) (sg_le a ha).1 (sg_le a ha).2 (sg_le b hb).1 (sg_le b hb).2 p q w1 cp cq)
 clear hb1 hF ca cb cp cq cr cs
 go_wp2_with fail
 refine (HC.out).mono ?_
 rintro e w2 ⟨rfl, h2⟩
 go_wp2_with fail
 go_ret2
 exact ⟨rfl, HB.out.trans (h2.mono HB.out.size)⟩
theorem doesOf2 (a b : Nat) (ha : a < 65536) (hb : b < 65536) (W : World) : Calls Tryz.prog 130 #[.int .u8 2, .int .u16 a, .int .u16 b] W (DoEnd W 2 a b) := by
 go_enter Tryz.func130, Tryz.ntmps130
 go_wp2_with fail
 refine (does_any a b ha hb W).mono ?_
 rintro e w1 ⟨α, β, p, q, r, s, m, rfl, hF, ca, cb, cp, cq, cr, cs, hb1⟩
 have L : (Instr.lookup 236 (.map (some m)) (.int .u8 2) true).run Tryz.prog w1 = .ok (.tuple #[.func (.func 257) #[] #[.pointer (some ⟨p, 0, none⟩), .pointer (some ⟨q, 0, none⟩)], .bool true]) w1 := (fm_look (P := Tryz.prog) Tryz.underlying236 Tryz.underlying5 w1 m _ hF (doesL_nodup α β p q r s) 2 (.func (.func 257) #[] #[.pointer (some ⟨p, 0, none⟩), .pointer (some ⟨q, 0, none⟩)]) (by simp [doesL])).2
 have HB := Lib.hid hb1
 have HC := Lib.hid (does2 (sg a) (sg b) (sg_le a ha).1 (sg_le a ha).2 (sg_le b hb).1 (sg_le b hb).2 p q w1 cp cq)
 clear hb1 hF ca cb cp cq cr cs
 go_wp2_with fail
 refine (HC.out).mono ?_
 rintro e w2 ⟨rfl, h2⟩
 go_wp2_with fail
 go_ret2
 exact ⟨rfl, HB.out.trans (h2.mono HB.out.size)⟩
theorem doesOf3 (a b : Nat) (ha : a < 65536) (hb : b < 65536) (W : World) : Calls Tryz.prog 130 #[.int .u8 3, .int .u16 a, .int .u16 b] W (DoEnd W 3 a b) := by
 go_enter Tryz.func130, Tryz.ntmps130
 go_wp2_with fail
 refine (does_any a b ha hb W).mono ?_
 rintro e w1 ⟨α, β, p, q, r, s, m, rfl, hF, ca, cb, cp, cq, cr, cs, hb1⟩
 have L : (Instr.lookup 236 (.map (some m)) (.int .u8 3) true).run Tryz.prog w1 = .ok (.tuple #[.func (.func 258) #[] #[.pointer (some ⟨p, 0, none⟩), .pointer (some ⟨q, 0, none⟩)], .bool true]) w1 := (fm_look (P := Tryz.prog) Tryz.underlying236 Tryz.underlying5 w1 m _ hF (doesL_nodup α β p q r s) 3 (.func (.func 258) #[] #[.pointer (some ⟨p, 0, none⟩), .pointer (some ⟨q, 0, none⟩)]) (by simp [doesL])).2
 have HB := Lib.hid hb1
 have HC := Lib.hid (does3 (sg a) (sg b) (sg_le a ha).1 (sg_le a ha).2 (sg_le b hb).1 (sg_le b hb).2 p q w1 cp cq)
 clear hb1 hF ca cb cp cq cr cs
 go_wp2_with fail
 refine (HC.out).mono ?_
 rintro e w2 ⟨rfl, h2⟩
 go_wp2_with fail
 go_ret2
 exact ⟨rfl, HB.out.trans (h2.mono HB.out.size)⟩
theorem doesOf4 (a b : Nat) (ha : a < 65536) (hb : b < 65536) (W : World) : Calls Tryz.prog 130 #[.int .u8 4, .int .u16 a, .int .u16 b] W (DoEnd W 4 a b) := by
 go_enter Tryz.func130, Tryz.ntmps130
 go_wp2_with fail
 refine (does_any a b ha hb W).mono ?_
 rintro e w1 ⟨α, β, p, q, r, s, m, rfl, hF, ca, cb, cp, cq, cr, cs, hb1⟩
 have L : (Instr.lookup 236 (.map (some m)) (.int .u8 4) true).run Tryz.prog w1 = .ok (.tuple #[.func (.func 259) #[] #[.pointer (some ⟨q, 0, none⟩), .pointer (some ⟨p, 0, none⟩)], .bool true]) w1 := (fm_look (P := Tryz.prog) Tryz.underlying236 Tryz.underlying5 w1 m _ hF (doesL_nodup α β p q r s) 4 (.func (.func 259) #[] #[.pointer (some ⟨q, 0, none⟩), .pointer (some ⟨p, 0, none⟩)]) (by simp [doesL])).2
 have HB := Lib.hid hb1
 have HC := Lib.hid (does4 p q w1 (sg a) (sg b) (sg_le a ha).1 (sg_le a ha).2 (sg_le b hb).1 (sg_le b hb).2 cp cq)
 clear hb1 hF ca cb cp cq cr cs
 go_wp2_with fail
 refine (HC.out).mono ?_
 rintro e w2 ⟨rfl, h2⟩
 go_wp2_with fail
 go_ret2
 exact ⟨rfl, HB.out.trans (h2.mono HB.out.size)⟩
theorem doesOf5 (a b : Nat) (ha : a < 65536) (hb : b < 65536) (W : World) : Calls Tryz.prog 130 #[.int .u8 5, .int .u16 a, .int .u16 b] W (DoEnd W 5 a b) := by
 go_enter Tryz.func130, Tryz.ntmps130
 go_wp2_with fail
 refine (does_any a b ha hb W).mono ?_
 rintro e w1 ⟨α, β, p, q, r, s, m, rfl, hF, ca, cb, cp, cq, cr, cs, hb1⟩
 have L : (Instr.lookup 236 (.map (some m)) (.int .u8 5) true).run Tryz.prog w1 = .ok (.tuple #[.func (.func 262) #[] #[.pointer (some ⟨q, 0, none⟩), .pointer (some ⟨p, 0, none⟩)], .bool true]) w1 := (fm_look (P := Tryz.prog) Tryz.underlying236 Tryz.underlying5 w1 m _ hF (doesL_nodup α β p q r s) 5 (.func (.func 262) #[] #[.pointer (some ⟨q, 0, none⟩), .pointer (some ⟨p, 0, none⟩)]) (by simp [doesL])).2
 have HB := Lib.hid hb1
 have HC := Lib.hid (does5 p q w1 (sg a) (sg b) (sg_le a ha).1 (sg_le a ha).2 (sg_le b hb).1 (sg_le b hb).2 cp cq)
 clear hb1 hF ca cb cp cq cr cs
 go_wp2_with fail
 refine (HC.out).mono ?_
 rintro e w2 ⟨rfl, h2⟩
 go_wp2_with fail
 go_ret2
 exact ⟨rfl, HB.out.trans (h2.mono HB.out.size)⟩
theorem doesOf6 (a b : Nat) (ha : a < 65536) (hb : b < 65536) (W : World) : Calls Tryz.prog 130 #[.int .u8 6, .int .u16 a, .int .u16 b] W (DoEnd W 6 a b) := by
 go_enter Tryz.func130, Tryz.ntmps130
 go_wp2_with fail
 refine (does_any a b ha hb W).mono ?_
 rintro e w1 ⟨α, β, p, q, r, s, m, rfl, hF, ca, cb, cp, cq, cr, cs, hb1⟩
 have L : (Instr.lookup 236 (.map (some m)) (.int .u8 6) true).run Tryz.prog w1 = .ok (.tuple #[.func (.func 264) #[] #[.pointer (some ⟨p, 0, none⟩)], .bool true]) w1 := (fm_look (P := Tryz.prog) Tryz.underlying236 Tryz.underlying5 w1 m _ hF (doesL_nodup α β p q r s) 6 (.func (.func 264) #[] #[.pointer (some ⟨p, 0, none⟩)]) (by simp [doesL])).2
 have HB := Lib.hid hb1
 have HC := Lib.hid (does6 p w1 (sg a) (sg_le a ha).1 (sg_le a ha).2 cp)
 clear hb1 hF ca cb cp cq cr cs
 go_wp2_with fail
 refine (HC.out).mono ?_
 rintro e w2 ⟨rfl, h2⟩
 go_wp2_with fail
 go_ret2
 exact ⟨rfl, HB.out.trans (h2.mono HB.out.size)⟩
theorem doesOf7 (a b : Nat) (ha : a < 65536) (hb : b < 65536) (W : World) : Calls Tryz.prog 130 #[.int .u8 7, .int .u16 a, .int .u16 b] W (DoEnd W 7 a b) := by
 go_enter Tryz.func130, Tryz.ntmps130
 go_wp2_with fail
 refine (does_any a b ha hb W).mono ?_
 rintro e w1 ⟨α, β, p, q, r, s, m, rfl, hF, ca, cb, cp, cq, cr, cs, hb1⟩
 have L : (Instr.lookup 236 (.map (some m)) (.int .u8 7) true).run Tryz.prog w1 = .ok (.tuple #[.func (.func 265) #[] #[.pointer (some ⟨p, 0, none⟩)], .bool true]) w1 := (fm_look (P := Tryz.prog) Tryz.underlying236 Tryz.underlying5 w1 m _ hF (doesL_nodup α β p q r s) 7 (.func (.func 265) #[] #[.pointer (some ⟨p, 0, none⟩)]) (by simp [doesL])).2
 have HB := Lib.hid hb1
 have HC := Lib.hid (does7 p w1 (sg a) (sg_le a ha).1 (sg_le a ha).2 cp)
 clear hb1 hF ca cb cp cq cr cs
 go_wp2_with fail
 refine (HC.out).mono ?_
 rintro e w2 ⟨rfl, h2⟩
 go_wp2_with fail
 go_ret2
 exact ⟨rfl, HB.out.trans (h2.mono HB.out.size)⟩
theorem doesOf8 (a b : Nat) (ha : a < 65536) (hb : b < 65536) (W : World) : Calls Tryz.prog 130 #[.int .u8 8, .int .u16 a, .int .u16 b] W (DoEnd W 8 a b) := by
 go_enter Tryz.func130, Tryz.ntmps130
 go_wp2_with fail
 refine (does_any a b ha hb W).mono ?_
 rintro e w1 ⟨α, β, p, q, r, s, m, rfl, hF, ca, cb, cp, cq, cr, cs, hb1⟩
 have L : (Instr.lookup 236 (.map (some m)) (.int .u8 8) true).run Tryz.prog w1 = .ok (.tuple #[.func (.func 266) #[] #[.pointer (some ⟨r, 0, none⟩), .pointer (some ⟨s, 0, none⟩)], .bool true]) w1 := (fm_look (P := Tryz.prog) Tryz.underlying236 Tryz.underlying5 w1 m _ hF (doesL_nodup α β p q r s) 8 (.func (.func 266) #[] #[.pointer (some ⟨r, 0, none⟩), .pointer (some ⟨s, 0, none⟩)]) (by simp [doesL])).2
 have HB := Lib.hid hb1
 have HC := Lib.hid (does8 a b (by omega) (by omega) (by omega) (by omega) r s w1 cr cs)
 clear hb1 hF ca cb cp cq cr cs
 go_wp2_with fail
 refine (HC.out).mono ?_
 rintro e w2 ⟨rfl, h2⟩
 go_wp2_with fail
 go_ret2
 exact ⟨rfl, HB.out.trans (h2.mono HB.out.size)⟩
theorem doesOf9 (a b : Nat) (ha : a < 65536) (hb : b < 65536) (W : World) : Calls Tryz.prog 130 #[.int .u8 9, .int .u16 a, .int .u16 b] W (DoEnd W 9 a b) := by
 go_enter Tryz.func130, Tryz.ntmps130
 go_wp2_with fail
 refine (does_any a b ha hb W).mono ?_
 rintro e w1 ⟨α, β, p, q, r, s, m, rfl, hF, ca, cb, cp, cq, cr, cs, hb1⟩
 have L : (Instr.lookup 236 (.map (some m)) (.int .u8 9) true).run Tryz.prog w1 = .ok (.tuple #[.func (.func 268) #[] #[.pointer (some ⟨r, 0, none⟩), .pointer (some ⟨s, 0, none⟩)], .bool true]) w1 := (fm_look (P := Tryz.prog) Tryz.underlying236 Tryz.underlying5 w1 m _ hF (doesL_nodup α β p q r s) 9 (.func (.func 268) #[] #[.pointer (some ⟨r, 0, none⟩), .pointer (some ⟨s, 0, none⟩)]) (by simp [doesL])).2
 have HB := Lib.hid hb1
 have HC := Lib.hid (does9 a b (by omega) (by omega) (by omega) (by omega) r s w1 cr cs)
 clear hb1 hF ca cb cp cq cr cs
 go_wp2_with fail
 refine (HC.out).mono ?_
 rintro e w2 ⟨rfl, h2⟩
 go_wp2_with fail
 go_ret2
 exact ⟨rfl, HB.out.trans (h2.mono HB.out.size)⟩
theorem doesOf10 (a b : Nat) (ha : a < 65536) (hb : b < 65536) (W : World) : Calls Tryz.prog 130 #[.int .u8 10, .int .u16 a, .int .u16 b] W (DoEnd W 10 a b) := by
 go_enter Tryz.func130, Tryz.ntmps130
 go_wp2_with fail
 refine (does_any a b ha hb W).mono ?_
 rintro e w1 ⟨α, β, p, q, r, s, m, rfl, hF, ca, cb, cp, cq, cr, cs, hb1⟩
 have L : (Instr.lookup 236 (.map (some m)) (.int .u8 10) true).run Tryz.prog w1 = .ok (.tuple #[.func (.func 269) #[] #[.pointer (some ⟨r, 0, none⟩), .pointer (some ⟨s, 0, none⟩)], .bool true]) w1 := (fm_look (P := Tryz.prog) Tryz.underlying236 Tryz.underlying5 w1 m _ hF (doesL_nodup α β p q r s) 10 (.func (.func 269) #[] #[.pointer (some ⟨r, 0, none⟩), .pointer (some ⟨s, 0, none⟩)]) (by simp [doesL])).2
 have HB := Lib.hid hb1
 have HC := Lib.hid (does10 a b (by omega) (by omega) (by omega) (by omega) r s w1 cr cs)
 clear hb1 hF ca cb cp cq cr cs
 go_wp2_with fail
 refine (HC.out).mono ?_
 rintro e w2 ⟨rfl, h2⟩
 go_wp2_with fail
 go_ret2
 exact ⟨rfl, HB.out.trans (h2.mono HB.out.size)⟩
theorem doesOf11 (a b : Nat) (ha : a < 65536) (hb : b < 65536) (W : World) : Calls Tryz.prog 130 #[.int .u8 11, .int .u16 a, .int .u16 b] W (DoEnd W 11 a b) := by
 go_enter Tryz.func130, Tryz.ntmps130
 go_wp2_with fail
 refine (does_any a b ha hb W).mono ?_
 rintro e w1 ⟨α, β, p, q, r, s, m, rfl, hF, ca, cb, cp, cq, cr, cs, hb1⟩
 have L : (Instr.lookup 236 (.map (some m)) (.int .u8 11) true).run Tryz.prog w1 = .ok (.tuple #[.func (.func 270) #[] #[.pointer (some ⟨s, 0, none⟩), .pointer (some ⟨r, 0, none⟩)], .bool true]) w1 := (fm_look (P := Tryz.prog) Tryz.underlying236 Tryz.underlying5 w1 m _ hF (doesL_nodup α β p q r s) 11 (.func (.func 270) #[] #[.pointer (some ⟨s, 0, none⟩), .pointer (some ⟨r, 0, none⟩)]) (by simp [doesL])).2
 have HB := Lib.hid hb1
 have HC := Lib.hid (does11 r s w1 a b (by omega) (by omega) (by omega) (by omega) cr cs)
 clear hb1 hF ca cb cp cq cr cs
 go_wp2_with fail
 refine (HC.out).mono ?_
 rintro e w2 ⟨rfl, h2⟩
 go_wp2_with fail
 go_ret2
 exact ⟨rfl, HB.out.trans (h2.mono HB.out.size)⟩
theorem doesOf12 (a b : Nat) (ha : a < 65536) (hb : b < 65536) (W : World) : Calls Tryz.prog 130 #[.int .u8 12, .int .u16 a, .int .u16 b] W (DoEnd W 12 a b) := by
 go_enter Tryz.func130, Tryz.ntmps130
 go_wp2_with fail
 refine (does_any a b ha hb W).mono ?_
 rintro e w1 ⟨α, β, p, q, r, s, m, rfl, hF, ca, cb, cp, cq, cr, cs, hb1⟩
 have L : (Instr.lookup 236 (.map (some m)) (.int .u8 12) true).run Tryz.prog w1 = .ok (.tuple #[.func (.func 272) #[] #[.pointer (some ⟨s, 0, none⟩), .pointer (some ⟨r, 0, none⟩)], .bool true]) w1 := (fm_look (P := Tryz.prog) Tryz.underlying236 Tryz.underlying5 w1 m _ hF (doesL_nodup α β p q r s) 12 (.func (.func 272) #[] #[.pointer (some ⟨s, 0, none⟩), .pointer (some ⟨r, 0, none⟩)]) (by simp [doesL])).2
 have HB := Lib.hid hb1
 have HC := Lib.hid (does12 r s w1 a b (by omega) (by omega) (by omega) (by omega) cr cs)
 clear hb1 hF ca cb cp cq cr cs
 go_wp2_with fail
 refine (HC.out).mono ?_
 rintro e w2 ⟨rfl, h2⟩
 go_wp2_with fail
 go_ret2
 exact ⟨rfl, HB.out.trans (h2.mono HB.out.size)⟩
theorem doesOf13 (a b : Nat) (ha : a < 65536) (hb : b < 65536) (W : World) : Calls Tryz.prog 130 #[.int .u8 13, .int .u16 a, .int .u16 b] W (DoEnd W 13 a b) := by
 go_enter Tryz.func130, Tryz.ntmps130
 go_wp2_with fail
 refine (does_any a b ha hb W).mono ?_
 rintro e w1 ⟨α, β, p, q, r, s, m, rfl, hF, ca, cb, cp, cq, cr, cs, hb1⟩
 have L : (Instr.lookup 236 (.map (some m)) (.int .u8 13) true).run Tryz.prog w1 = .ok (.tuple #[.func (.func 274) #[] #[.pointer (some ⟨α, 0, none⟩), .pointer (some ⟨β, 0, none⟩)], .bool true]) w1 := (fm_look (P := Tryz.prog) Tryz.underlying236 Tryz.underlying5 w1 m _ hF (doesL_nodup α β p q r s) 13 (.func (.func 274) #[] #[.pointer (some ⟨α, 0, none⟩), .pointer (some ⟨β, 0, none⟩)]) (by simp [doesL])).2
 have HB := Lib.hid hb1
 have HC := Lib.hid (does13 a b ha hb α β w1 ca cb)
 clear hb1 hF ca cb cp cq cr cs
 go_wp2_with fail
 refine (HC.out).mono ?_
 rintro e w2 ⟨rfl, h2⟩
 go_wp2_with fail
 go_ret2
 exact ⟨rfl, HB.out.trans (h2.mono HB.out.size)⟩
theorem doesOf14 (a b : Nat) (ha : a < 65536) (hb : b < 65536) (W : World) : Calls Tryz.prog 130 #[.int .u8 14, .int .u16 a, .int .u16 b] W (DoEnd W 14 a b) := by
 go_enter Tryz.func130, Tryz.ntmps130
 go_wp2_with fail
 refine (does_any a b ha hb W).mono ?_
 rintro e w1 ⟨α, β, p, q, r, s, m, rfl, hF, ca, cb, cp, cq, cr, cs, hb1⟩
 have L : (Instr.lookup 236 (.map (some m)) (.int .u8 14) true).run Tryz.prog w1 = .ok (.tuple #[.func (.func 276) #[] #[.pointer (some ⟨α, 0, none⟩), .pointer (some ⟨β, 0, none⟩)], .bool true]) w1 := (fm_look (P := Tryz.prog) Tryz.underlying236 Tryz.underlying5 w1 m _ hF (doesL_nodup α β p q r s) 14 (.func (.func 276) #[] #[.pointer (some ⟨α, 0, none⟩), .pointer (some ⟨β, 0, none⟩)]) (by simp [doesL])).2
 have HB := Lib.hid hb1
 have HC := Lib.hid (does14 a b ha hb α β w1 ca cb)
 clear hb1 hF ca cb cp cq cr cs
 go_wp2_with fail
 refine (HC.out).mono ?_
 rintro e w2 ⟨rfl, h2⟩
 go_wp2_with fail
 go_ret2
 exact ⟨rfl, HB.out.trans (h2.mono HB.out.size)⟩
theorem doesOf15 (a b : Nat) (ha : a < 65536) (hb : b < 65536) (W : World) : Calls Tryz.prog 130 #[.int .u8 15, .int .u16 a, .int .u16 b] W (DoEnd W 15 a b) := by
 go_enter Tryz.func130, Tryz.ntmps130
 go_wp2_with fail
 refine (does_any a b ha hb W).mono ?_
 rintro e w1 ⟨α, β, p, q, r, s, m, rfl, hF, ca, cb, cp, cq, cr, cs, hb1⟩
 have L : (Instr.lookup 236 (.map (some m)) (.int .u8 15) true).run Tryz.prog w1 = .ok (.tuple #[.func (.func 277) #[] #[.pointer (some ⟨p, 0, none⟩), .pointer (some ⟨q, 0, none⟩)], .bool true]) w1 := (fm_look (P := Tryz.prog) Tryz.underlying236 Tryz.underlying5 w1 m _ hF (doesL_nodup α β p q r s) 15 (.func (.func 277) #[] #[.pointer (some ⟨p, 0, none⟩), .pointer (some ⟨q, 0, none⟩)]) (by simp [doesL])).2
 have HB := Lib.hid hb1
 have HC := Lib.hid (does15 (sg a) (sg b) (sg_le a ha).1 (sg_le a ha).2 (sg_le b hb).1 (sg_le b hb).2 p q w1 cp cq)
 clear hb1 hF ca cb cp cq cr cs
 go_wp2_with fail
 refine (HC.out).mono ?_
 rintro e w2 ⟨rfl, h2⟩
 go_wp2_with fail
 go_ret2
 exact ⟨rfl, HB.out.trans (h2.mono HB.out.size)⟩
theorem doesOf16 (a b : Nat) (ha : a < 65536) (hb : b < 65536) (W : World) : Calls Tryz.prog 130 #[.int .u8 16, .int .u16 a, .int .u16 b] W (DoEnd W 16 a b) := by
 go_enter Tryz.func130, Tryz.ntmps130
 go_wp2_with fail
 refine (does_any a b ha hb W).mono ?_
 rintro e w1 ⟨α, β, p, q, r, s, m, rfl, hF, ca, cb, cp, cq, cr, cs, hb1⟩
 have L : (Instr.lookup 236 (.map (some m)) (.int .u8 16) true).run Tryz.prog w1 = .ok (.tuple #[.func (.func 279) #[] #[.pointer (some ⟨p, 0, none⟩), .pointer (some ⟨q, 0, none⟩)], .bool true]) w1 := (fm_look (P := Tryz.prog) Tryz.underlying236 Tryz.underlying5 w1 m _ hF (doesL_nodup α β p q r s) 16 (.func (.func 279) #[] #[.pointer (some ⟨p, 0, none⟩), .pointer (some ⟨q, 0, none⟩)]) (by simp [doesL])).2
 have HB := Lib.hid hb1
 have HC := Lib.hid (does16 (sg a) (sg b) (sg_le a ha).1 (sg_le a ha).2 (sg_le b hb).1 (sg_le b hb).2 p q w1 cp cq)
 clear hb1 hF ca cb cp cq cr cs
 go_wp2_with fail
 refine (HC.out).mono ?_
 rintro e w2 ⟨rfl, h2⟩
 go_wp2_with fail
 go_ret2
 exact ⟨rfl, HB.out.trans (h2.mono HB.out.size)⟩
theorem doesOf17 (a b : Nat) (ha : a < 65536) (hb : b < 65536) (W : World) : Calls Tryz.prog 130 #[.int .u8 17, .int .u16 a, .int .u16 b] W (DoEnd W 17 a b) := by
 go_enter Tryz.func130, Tryz.ntmps130
 go_wp2_with fail
 refine (does_any a b ha hb W).mono ?_
 rintro e w1 ⟨α, β, p, q, r, s, m, rfl, hF, ca, cb, cp, cq, cr, cs, hb1⟩
 have L : (Instr.lookup 236 (.map (some m)) (.int .u8 17) true).run Tryz.prog w1 = .ok (.tuple #[.func (.func 280) #[] #[.pointer (some ⟨p, 0, none⟩), .pointer (some ⟨q, 0, none⟩)], .bool true]) w1 := (fm_look (P := Tryz.prog) Tryz.underlying236 Tryz.underlying5 w1 m _ hF (doesL_nodup α β p q r s) 17 (.func (.func 280) #[] #[.pointer (some ⟨p, 0, none⟩), .pointer (some ⟨q, 0, none⟩)]) (by simp [doesL])).2
 have HB := Lib.hid hb1
 have HC := Lib.hid (does17 (sg a) (sg b) (sg_le a ha).1 (sg_le a ha).2 (sg_le b hb).1 (sg_le b hb).2 p q w1 cp cq)
 clear hb1 hF ca cb cp cq cr cs
 go_wp2_with fail
 refine (HC.out).mono ?_
 rintro e w2 ⟨rfl, h2⟩
 go_wp2_with fail
 go_ret2
 exact ⟨rfl, HB.out.trans (h2.mono HB.out.size)⟩
theorem doesOf18 (a b : Nat) (ha : a < 65536) (hb : b < 65536) (W : World) : Calls Tryz.prog 130 #[.int .u8 18, .int .u16 a, .int .u16 b] W (DoEnd W 18 a b) := by
 go_enter Tryz.func130, Tryz.ntmps130
 go_wp2_with fail
 refine (does_any a b ha hb W).mono ?_
 rintro e w1 ⟨α, β, p, q, r, s, m, rfl, hF, ca, cb, cp, cq, cr, cs, hb1⟩
 have L : (Instr.lookup 236 (.map (some m)) (.int .u8 18) true).run Tryz.prog w1 = .ok (.tuple #[.func (.func 281) #[] #[.pointer (some ⟨p, 0, none⟩), .pointer (some ⟨q, 0, none⟩)], .bool true]) w1 := (fm_look (P := Tryz.prog) Tryz.underlying236 Tryz.underlying5 w1 m _ hF (doesL_nodup α β p q r s) 18 (.func (.func 281) #[] #[.pointer (some ⟨p, 0, none⟩), .pointer (some ⟨q, 0, none⟩)]) (by simp [doesL])).2
 have HB := Lib.hid hb1
 have HC := Lib.hid (does18 (sg a) (sg b) (sg_le a ha).1 (sg_le a ha).2 (sg_le b hb).1 (sg_le b hb).2 p q w1 cp cq)
 clear hb1 hF ca cb cp cq cr cs
 go_wp2_with fail
 refine (HC.out).mono ?_
 rintro e w2 ⟨rfl, h2⟩
 go_wp2_with fail
 go_ret2
 exact ⟨rfl, HB.out.trans (h2.mono HB.out.size)⟩
theorem doesOf19 (a b : Nat) (ha : a < 65536) (hb : b < 65536) (W : World) : Calls Tryz.prog 130 #[.int .u8 19, .int .u16 a, .int .u16 b] W (DoEnd W 19 a b) := by
 go_enter Tryz.func130, Tryz.ntmps130
 go_wp2_with fail
 refine (does_any a b ha hb W).mono ?_
 rintro e w1 ⟨α, β, p, q, r, s, m, rfl, hF, ca, cb, cp, cq, cr, cs, hb1⟩
 have L : (Instr.lookup 236 (.map (some m)) (.int .u8 19) true).run Tryz.prog w1 = .ok (.tuple #[.func (.func 282) #[] #[.pointer (some ⟨α, 0, none⟩), .pointer (some ⟨β, 0, none⟩)], .bool true]) w1 := (fm_look (P := Tryz.prog) Tryz.underlying236 Tryz.underlying5 w1 m _ hF (doesL_nodup α β p q r s) 19 (.func (.func 282) #[] #[.pointer (some ⟨α, 0, none⟩), .pointer (some ⟨β, 0, none⟩)]) (by simp [doesL])).2
 have HB := Lib.hid hb1
 have HC := Lib.hid (does19 a b ha hb α β w1 ca cb)
 clear hb1 hF ca cb cp cq cr cs
 go_wp2_with fail
 refine (HC.out).mono ?_
 rintro e w2 ⟨rfl, h2⟩
 go_wp2_with fail
 go_ret2
 exact ⟨rfl, HB.out.trans (h2.mono HB.out.size)⟩
theorem doesOf20 (a b : Nat) (ha : a < 65536) (hb : b < 65536) (W : World) : Calls Tryz.prog 130 #[.int .u8 20, .int .u16 a, .int .u16 b] W (DoEnd W 20 a b) := by
 go_enter Tryz.func130, Tryz.ntmps130
 go_wp2_with fail
 refine (does_any a b ha hb W).mono ?_
 rintro e w1 ⟨α, β, p, q, r, s, m, rfl, hF, ca, cb, cp, cq, cr, cs, hb1⟩
 have L : (Instr.lookup 236 (.map (some m)) (.int .u8 20) true).run Tryz.prog w1 = .ok (.tuple #[.func (.func 284) #[] #[.pointer (some ⟨α, 0, none⟩), .pointer (some ⟨β, 0, none⟩)], .bool true]) w1 := (fm_look (P := Tryz.prog) Tryz.underlying236 Tryz.underlying5 w1 m _ hF (doesL_nodup α β p q r s) 20 (.func (.func 284) #[] #[.pointer (some ⟨α, 0, none⟩), .pointer (some ⟨β, 0, none⟩)]) (by simp [doesL])).2
 have HB := Lib.hid hb1
 have HC := Lib.hid (does20 a b ha hb α β w1 ca cb)
 clear hb1 hF ca cb cp cq cr cs
 go_wp2_with fail
 refine (HC.out).mono ?_
 rintro e w2 ⟨rfl, h2⟩
 go_wp2_with fail
 go_ret2
 exact ⟨rfl, HB.out.trans (h2.mono HB.out.size)⟩
theorem doesOf21 (a b : Nat) (ha : a < 65536) (hb : b < 65536) (W : World) : Calls Tryz.prog 130 #[.int .u8 21, .int .u16 a, .int .u16 b] W (DoEnd W 21 a b) := by
 go_enter Tryz.func130, Tryz.ntmps130
 go_wp2_with fail
 refine (does_any a b ha hb W).mono ?_
 rintro e w1 ⟨α, β, p, q, r, s, m, rfl, hF, ca, cb, cp, cq, cr, cs, hb1⟩
 have L : (Instr.lookup 236 (.map (some m)) (.int .u8 21) true).run Tryz.prog w1 = .ok (.tuple #[.func (.func 285) #[] #[.pointer (some ⟨α, 0, none⟩), .pointer (some ⟨β, 0, none⟩)], .bool true]) w1 := (fm_look (P := Tryz.prog) Tryz.underlying236 Tryz.underlying5 w1 m _ hF (doesL_nodup α β p q r s) 21 (.func (.func 285) #[] #[.pointer (some ⟨α, 0, none⟩), .pointer (some ⟨β, 0, none⟩)]) (by simp [doesL])).2
 have HB := Lib.hid hb1
 have HC := Lib.hid (does21 a b ha hb α β w1 ca cb)
 clear hb1 hF ca cb cp cq cr cs
 go_wp2_with fail
 refine (HC.out).mono ?_
 rintro e w2 ⟨rfl, h2⟩
 go_wp2_with fail
 go_ret2
 exact ⟨rfl, HB.out.trans (h2.mono HB.out.size)⟩
theorem doesOf22 (a b : Nat) (ha : a < 65536) (hb : b < 65536) (W : World) : Calls Tryz.prog 130 #[.int .u8 22, .int .u16 a, .int .u16 b] W (DoEnd W 22 a b) := by
 go_enter Tryz.func130, Tryz.ntmps130
 go_wp2_with fail
 refine (does_any a b ha hb W).mono ?_
 rintro e w1 ⟨α, β, p, q, r, s, m, rfl, hF, ca, cb, cp, cq, cr, cs, hb1⟩
 have L : (Instr.lookup 236 (.map (some m)) (.int .u8 22) true).run Tryz.prog w1 = .ok (.tuple #[.func (.func 286) #[] #[.pointer (some ⟨α, 0, none⟩), .pointer (some ⟨β, 0, none⟩)], .bool true]) w1 := (fm_look (P := Tryz.prog) Tryz.underlying236 Tryz.underlying5 w1 m _ hF (doesL_nodup α β p q r s) 22 (.func (.func 286) #[] #[.pointer (some ⟨α, 0, none⟩), .pointer (some ⟨β, 0, none⟩)]) (by simp [doesL])).2
 have HB := Lib.hid hb1
 have HC := Lib.hid (does22 a b ha hb α β w1 ca cb)
 clear hb1 hF ca cb cp cq cr cs
 go_wp2_with fail
 refine (HC.out).mono ?_
 rintro e w2 ⟨rfl, h2⟩
 go_wp2_with fail
 go_ret2
 exact ⟨rfl, HB.out.trans (h2.mono HB.out.size)⟩
theorem doesOf23 (a b : Nat) (ha : a < 65536) (hb : b < 65536) (W : World) : Calls Tryz.prog 130 #[.int .u8 23, .int .u16 a, .int .u16 b] W (DoEnd W 23 a b) := by
 go_enter Tryz.func130, Tryz.ntmps130
 go_wp2_with fail
 refine (does_any a b ha hb W).mono ?_
 rintro e w1 ⟨α, β, p, q, r, s, m, rfl, hF, ca, cb, cp, cq, cr, cs, hb1⟩
 have L : (Instr.lookup 236 (.map (some m)) (.int .u8 23) true).run Tryz.prog w1 = .ok (.tuple #[.func (.func 287) #[] #[.pointer (some ⟨α, 0, none⟩)], .bool true]) w1 := (fm_look (P := Tryz.prog) Tryz.underlying236 Tryz.underlying5 w1 m _ hF (doesL_nodup α β p q r s) 23 (.func (.func 287) #[] #[.pointer (some ⟨α, 0, none⟩)]) (by simp [doesL])).2
 have HB := Lib.hid hb1
 have HC := Lib.hid (does23 α w1 a ha ca)
 clear hb1 hF ca cb cp cq cr cs
 go_wp2_with fail
 refine (HC.out).mono ?_
 rintro e w2 ⟨rfl, h2⟩
 go_wp2_with fail
 go_ret2
 exact ⟨rfl, HB.out.trans (h2.mono HB.out.size)⟩
theorem doesOf24 (a b : Nat) (ha : a < 65536) (hb : b < 65536) (W : World) : Calls Tryz.prog 130 #[.int .u8 24, .int .u16 a, .int .u16 b] W (DoEnd W 24 a b) := by
 go_enter Tryz.func130, Tryz.ntmps130
 go_wp2_with fail
 refine (does_any a b ha hb W).mono ?_
 rintro e w1 ⟨α, β, p, q, r, s, m, rfl, hF, ca, cb, cp, cq, cr, cs, hb1⟩
 have L : (Instr.lookup 236 (.map (some m)) (.int .u8 24) true).run Tryz.prog w1 = .ok (.tuple #[.func (.func 288) #[] #[.pointer (some ⟨α, 0, none⟩), .pointer (some ⟨β, 0, none⟩)], .bool true]) w1 := (fm_look (P := Tryz.prog) Tryz.underlying236 Tryz.underlying5 w1 m _ hF (doesL_nodup α β p q r s) 24 (.func (.func 288) #[] #[.pointer (some ⟨α, 0, none⟩), .pointer (some ⟨β, 0, none⟩)]) (by simp [doesL])).2
 have HB := Lib.hid hb1
 have HC := Lib.hid (does24 a b ha hb α β w1 ca cb)
 clear hb1 hF ca cb cp cq cr cs
 go_wp2_with fail
 refine (HC.out).mono ?_
 rintro e w2 ⟨rfl, h2⟩
 go_wp2_with fail
 go_ret2
 exact ⟨rfl, HB.out.trans (h2.mono HB.out.size)⟩
theorem doesOf25 (a b : Nat) (ha : a < 65536) (hb : b < 65536) (W : World) : Calls Tryz.prog 130 #[.int .u8 25, .int .u16 a, .int .u16 b] W (DoEnd W 25 a b) := by
 go_enter Tryz.func130, Tryz.ntmps130
 go_wp2_with fail
 refine (does_any a b ha hb W).mono ?_
 rintro e w1 ⟨α, β, p, q, r, s, m, rfl, hF, ca, cb, cp, cq, cr, cs, hb1⟩
 have L : (Instr.lookup 236 (.map (some m)) (.int .u8 25) true).run Tryz.prog w1 = .ok (.tuple #[.func (.func 290) #[] #[.pointer (some ⟨α, 0, none⟩), .pointer (some ⟨β, 0, none⟩)], .bool true]) w1 := (fm_look (P := Tryz.prog) Tryz.underlying236 Tryz.underlying5 w1 m _ hF (doesL_nodup α β p q r s) 25 (.func (.func 290) #[] #[.pointer (some ⟨α, 0, none⟩), .pointer (some ⟨β, 0, none⟩)]) (by simp [doesL])).2
 have HB := Lib.hid hb1
 have HC := Lib.hid (does25 a b ha hb α β w1 ca cb)
 clear hb1 hF ca cb cp cq cr cs
 go_wp2_with fail
 refine (HC.out).mono ?_
 rintro e w2 ⟨rfl, h2⟩
 go_wp2_with fail
 go_ret2
 exact ⟨rfl, HB.out.trans (h2.mono HB.out.size)⟩
theorem doesOf26 (a b : Nat) (ha : a < 65536) (hb : b < 65536) (W : World) : Calls Tryz.prog 130 #[.int .u8 26, .int .u16 a, .int .u16 b] W (DoEnd W 26 a b) := by
 go_enter Tryz.func130, Tryz.ntmps130
 go_wp2_with fail
 refine (does_any a b ha hb W).mono ?_
 rintro e w1 ⟨α, β, p, q, r, s, m, rfl, hF, ca, cb, cp, cq, cr, cs, hb1⟩
 have L : (Instr.lookup 236 (.map (some m)) (.int .u8 26) true).run Tryz.prog w1 = .ok (.tuple #[.func (.func 291) #[] #[.pointer (some ⟨α, 0, none⟩), .pointer (some ⟨β, 0, none⟩)], .bool true]) w1 := (fm_look (P := Tryz.prog) Tryz.underlying236 Tryz.underlying5 w1 m _ hF (doesL_nodup α β p q r s) 26 (.func (.func 291) #[] #[.pointer (some ⟨α, 0, none⟩), .pointer (some ⟨β, 0, none⟩)]) (by simp [doesL])).2
 have HB := Lib.hid hb1
 have HC := Lib.hid (does26 a b ha hb α β w1 ca cb)
 clear hb1 hF ca cb cp cq cr cs
 go_wp2_with fail
 refine (HC.out).mono ?_
 rintro e w2 ⟨rfl, h2⟩
 go_wp2_with fail
 go_ret2
 exact ⟨rfl, HB.out.trans (h2.mono HB.out.size)⟩
theorem doesOf27 (a b : Nat) (ha : a < 65536) (hb : b < 65536) (W : World) : Calls Tryz.prog 130 #[.int .u8 27, .int .u16 a, .int .u16 b] W (DoEnd W 27 a b) := by
 go_enter Tryz.func130, Tryz.ntmps130
 go_wp2_with fail
 refine (does_any a b ha hb W).mono ?_
 rintro e w1 ⟨α, β, p, q, r, s, m, rfl, hF, ca, cb, cp, cq, cr, cs, hb1⟩
 have L : (Instr.lookup 236 (.map (some m)) (.int .u8 27) true).run Tryz.prog w1 = .ok (.tuple #[.func (.func 292) #[] #[.pointer (some ⟨α, 0, none⟩), .pointer (some ⟨β, 0, none⟩)], .bool true]) w1 := (fm_look (P := Tryz.prog) Tryz.underlying236 Tryz.underlying5 w1 m _ hF (doesL_nodup α β p q r s) 27 (.func (.func 292) #[] #[.pointer (some ⟨α, 0, none⟩), .pointer (some ⟨β, 0, none⟩)]) (by simp [doesL])).2
 have HB := Lib.hid hb1
 have HC := Lib.hid (does27 a b ha hb α β w1 ca cb)
 clear hb1 hF ca cb cp cq cr cs
 go_wp2_with fail
 refine (HC.out).mono ?_
 rintro e w2 ⟨rfl, h2⟩
 go_wp2_with fail
 go_ret2
 exact ⟨rfl, HB.out.trans (h2.mono HB.out.size)⟩
theorem doesOf28 (a b : Nat) (ha : a < 65536) (hb : b < 65536) (W : World) : Calls Tryz.prog 130 #[.int .u8 28, .int .u16 a, .int .u16 b] W (DoEnd W 28 a b) := by
 go_enter Tryz.func130, Tryz.ntmps130
 go_wp2_with fail
 refine (does_any a b ha hb W).mono ?_
 rintro e w1 ⟨α, β, p, q, r, s, m, rfl, hF, ca, cb, cp, cq, cr, cs, hb1⟩
 have L : (Instr.lookup 236 (.map (some m)) (.int .u8 28) true).run Tryz.prog w1 = .ok (.tuple #[.func (.func 293) #[] #[.pointer (some ⟨α, 0, none⟩), .pointer (some ⟨β, 0, none⟩)], .bool true]) w1 := (fm_look (P := Tryz.prog) Tryz.underlying236 Tryz.underlying5 w1 m _ hF (doesL_nodup α β p q r s) 28 (.func (.func 293) #[] #[.pointer (some ⟨α, 0, none⟩), .pointer (some ⟨β, 0, none⟩)]) (by simp [doesL])).2
 have HB := Lib.hid hb1
 have HC := Lib.hid (does28 α β w1 a b ha hb ca cb)
 clear hb1 hF ca cb cp cq cr cs
 go_wp2_with fail
 refine (HC.out).mono ?_
 rintro e w2 ⟨rfl, h2⟩
 go_wp2_with fail
 go_ret2
 exact ⟨rfl, HB.out.trans (h2.mono HB.out.size)⟩
theorem doesOf29 (a b : Nat) (ha : a < 65536) (hb : b < 65536) (W : World) : Calls Tryz.prog 130 #[.int .u8 29, .int .u16 a, .int .u16 b] W (DoEnd W 29 a b) := by
 go_enter Tryz.func130, Tryz.ntmps130
 go_wp2_with fail
 refine (does_any a b ha hb W).mono ?_
 rintro e w1 ⟨α, β, p, q, r, s, m, rfl, hF, ca, cb, cp, cq, cr, cs, hb1⟩
 have L : (Instr.lookup 236 (.map (some m)) (.int .u8 29) true).run Tryz.prog w1 = .ok (.tuple #[.func (.func 294) #[] #[.pointer (some ⟨α, 0, none⟩), .pointer (some ⟨β, 0, none⟩)], .bool true]) w1 := (fm_look (P := Tryz.prog) Tryz.underlying236 Tryz.underlying5 w1 m _ hF (doesL_nodup α β p q r s) 29 (.func (.func 294) #[] #[.pointer (some ⟨α, 0, none⟩), .pointer (some ⟨β, 0, none⟩)]) (by simp [doesL])).2
 have HB := Lib.hid hb1
 have HC := Lib.hid (does29 a b ha hb α β w1 ca cb)
 clear hb1 hF ca cb cp cq cr cs
 go_wp2_with fail
 refine (HC.out).mono ?_
 rintro e w2 ⟨rfl, h2⟩
 go_wp2_with fail
 go_ret2
 exact ⟨rfl, HB.out.trans (h2.mono HB.out.size)⟩
theorem doesOf30 (a b : Nat) (ha : a < 65536) (hb : b < 65536) (W : World) : Calls Tryz.prog 130 #[.int .u8 30, .int .u16 a, .int .u16 b] W (DoEnd W 30 a b) := by
 go_enter Tryz.func130, Tryz.ntmps130
 go_wp2_with fail
 refine (does_any a b ha hb W).mono ?_
 rintro e w1 ⟨α, β, p, q, r, s, m, rfl, hF, ca, cb, cp, cq, cr, cs, hb1⟩
 have L : (Instr.lookup 236 (.map (some m)) (.int .u8 30) true).run Tryz.prog w1 = .ok (.tuple #[.func (.func 295) #[] #[.pointer (some ⟨α, 0, none⟩)], .bool true]) w1 := (fm_look (P := Tryz.prog) Tryz.underlying236 Tryz.underlying5 w1 m _ hF (doesL_nodup α β p q r s) 30 (.func (.func 295) #[] #[.pointer (some ⟨α, 0, none⟩)]) (by simp [doesL])).2
 have HB := Lib.hid hb1
 have HC := Lib.hid (does30 α w1 a ca)
 clear hb1 hF ca cb cp cq cr cs
 go_wp2_with fail
 refine (HC.out).mono ?_
 rintro e w2 ⟨rfl, h2⟩
 go_wp2_with fail
 go_ret2
 exact ⟨rfl, HB.out.trans (h2.mono HB.out.size)⟩
theorem doesOf31 (a b : Nat) (ha : a < 65536) (hb : b < 65536) (W : World) : Calls Tryz.prog 130 #[.int .u8 31, .int .u16 a, .int .u16 b] W (DoEnd W 31 a b) := by
 go_enter Tryz.func130, Tryz.ntmps130
 go_wp2_with fail
 refine (does_any a b ha hb W).mono ?_
 rintro e w1 ⟨α, β, p, q, r, s, m, rfl, hF, ca, cb, cp, cq, cr, cs, hb1⟩
 have L : (Instr.lookup 236 (.map (some m)) (.int .u8 31) true).run Tryz.prog w1 = .ok (.tuple #[.func (.func 297) #[] #[.pointer (some ⟨α, 0, none⟩), .pointer (some ⟨β, 0, none⟩)], .bool true]) w1 := (fm_look (P := Tryz.prog) Tryz.underlying236 Tryz.underlying5 w1 m _ hF (doesL_nodup α β p q r s) 31 (.func (.func 297) #[] #[.pointer (some ⟨α, 0, none⟩), .pointer (some ⟨β, 0, none⟩)]) (by simp [doesL])).2
 have HB := Lib.hid hb1
 have HC := Lib.hid (does31 α β w1 a b ca cb)
 clear hb1 hF ca cb cp cq cr cs
 go_wp2_with fail
 refine (HC.out).mono ?_
 rintro e w2 ⟨rfl, h2⟩
 go_wp2_with fail
 go_ret2
 exact ⟨rfl, HB.out.trans (h2.mono HB.out.size)⟩
end Go.Proofs.YtabenhpjgjjgnaaGreatDoor
