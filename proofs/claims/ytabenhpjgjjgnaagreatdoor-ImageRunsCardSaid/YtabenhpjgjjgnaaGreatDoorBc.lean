/- What ops do with words. What ops do with words. A region that draws its order. Condition: what lies in memory can lie there; what each theorem says. -/
import Derived.Test.YtabenhpjgjjgnaaGreatDoorBb
import Derived.Test.YtabenhpjgjjgnaaGreatDoorBa
import Derived.Deep.RegionHeld3
/- What ops do with words. -/
namespace Go.Proofs.YtabenhpjgjjgnaaGreatDoor
open Go.RowKit
set_option maxRecDepth 100000
theorem over_zero (f : Value) (W : World) : Calls Tryz.prog 260 #[.int .i64 0, f] W (WtEnd W (0, 4)) := by
 go_enter Tryz.func260, Tryz.ntmps260
 go_wp2_with fail
 go_ret2
 exact ⟨rfl, Below.refl _ _⟩
theorem tdiv_bd (x y M : Int) (h1 : -M ≤ x) (h2 : x ≤ M) : -M ≤ x.tdiv y ∧ x.tdiv y ≤ M := by
 have h := Int.natAbs_tdiv_le_natAbs x y
 omega
theorem tmod_bd (x y M : Int) (h1 : -M ≤ x) (h2 : x ≤ M) : -M ≤ x.tmod y ∧ x.tmod y ≤ M := by
 have h := Int.natAbs_tmod x y
 have h2 : x.natAbs % y.natAbs ≤ x.natAbs := Nat.mod_le _ _
 omega
def overI (n : Int) (r : Int × Nat) : Int × Nat := if n = 0 then (0, 4) else r
section
variable (p q : Nat) (W : World)
theorem does4a (x y : Int) (hy : y ≠ 0) (h1 : -32768 ≤ x) (h2 : x ≤ 32767) (_h3 : -32768 ≤ y) (_h4 : y ≤ 32767) (c0 : W.cell? ⟨p, 0, none⟩ = some (.int .i64 x)) (c1 : W.cell? ⟨q, 0, none⟩ = some (.int .i64 y)) : Calls Tryz.prog 261 #[.pointer (some ⟨p, 0, none⟩), .pointer (some ⟨q, 0, none⟩)] W (WtEnd W (signedI (x.tdiv y))) := by
 obtain ⟨m1, m2⟩ := tdiv_bd x y 32768 (by omega) (by omega)
 have hw : IntKind.i64.wrap (x.tdiv y) = x.tdiv y := IntWalk.i64_in _ (by omega)
 have d := beq_eq_false_iff_ne.2 hy
 go_enter Tryz.func261, Tryz.ntmps261
 go_wp2_with fail
 clear d
 refine (signed_any _ W).mono ?_
 rintro e w1 ⟨rfl, hb⟩
 go_wp2_with fail
 go_ret2
 exact ⟨rfl, hb⟩
theorem over4 (n : Int) (hn : n ≠ 0) (cap : Array Value) (r : Int × Nat) (hf : Calls Tryz.prog 261 cap W (WtEnd W r)) : Calls Tryz.prog 260 #[.int .i64 n, .func (.func 261) #[] cap] W (WtEnd W r) := by
 have HF := Lib.hid hf
 clear hf
 have d := beq_eq_false_iff_ne.2 hn
 clear hn
 go_enter Tryz.func260, Tryz.ntmps260
 go_wp2_with fail
 clear d
 refine (HF.out).mono ?_
 rintro e w1 ⟨rfl, hb⟩
 go_wp2_with fail
 go_ret2
 exact ⟨rfl, hb⟩
theorem does4 (x y : Int) (h1 : -32768 ≤ x) (h2 : x ≤ 32767) (h3 : -32768 ≤ y) (h4 : y ≤ 32767) (c0 : W.cell? ⟨p, 0, none⟩ = some (.int .i64 x)) (c1 : W.cell? ⟨q, 0, none⟩ = some (.int .i64 y)) : Calls Tryz.prog 259 #[.pointer (some ⟨q, 0, none⟩), .pointer (some ⟨p, 0, none⟩)] W (WtEnd W (overI y (signedI (x.tdiv y)))) := by
 by_cases hy : y = 0
 ·subst hy
  have HE := Lib.hid (show overI 0 (signedI (x.tdiv 0)) = (0, 4) from if_pos rfl)
  go_enter Tryz.func259, Tryz.ntmps259
  go_wp2_with fail
  refine (over_zero _ W).mono ?_
  rintro e w1 ⟨rfl, hb⟩
  go_wp2_with fail
  go_ret2
  rw [HE.out]
  exact ⟨rfl, hb⟩
 ·have HE := Lib.hid (show overI y (signedI (x.tdiv y)) = signedI (x.tdiv y) from if_neg hy)
  have HF := Lib.hid (does4a p q W x y hy h1 h2 h3 h4 c0 c1)
  go_enter Tryz.func259, Tryz.ntmps259
  go_wp2_with fail
  refine (over4 W y hy _ _ HF.out).mono ?_
  rintro e w1 ⟨rfl, hb⟩
  go_wp2_with fail
  go_ret2
  rw [HE.out]
  exact ⟨rfl, hb⟩
theorem does5a (x y : Int) (hy : y ≠ 0) (h1 : -32768 ≤ x) (h2 : x ≤ 32767) (_h3 : -32768 ≤ y) (_h4 : y ≤ 32767) (c0 : W.cell? ⟨p, 0, none⟩ = some (.int .i64 x)) (c1 : W.cell? ⟨q, 0, none⟩ = some (.int .i64 y)) : Calls Tryz.prog 263 #[.pointer (some ⟨p, 0, none⟩), .pointer (some ⟨q, 0, none⟩)] W (WtEnd W (signedI (x.tmod y))) := by
 obtain ⟨m1, m2⟩ := tmod_bd x y 32768 (by omega) (by omega)
 have hw : IntKind.i64.wrap (x.tmod y) = x.tmod y := IntWalk.i64_in _ (by omega)
 have d := beq_eq_false_iff_ne.2 hy
 go_enter Tryz.func263, Tryz.ntmps263
 go_wp2_with fail
 clear d
 refine (signed_any _ W).mono ?_
 rintro e w1 ⟨rfl, hb⟩
 go_wp2_with fail
 go_ret2
 exact ⟨rfl, hb⟩
theorem over5 (n : Int) (hn : n ≠ 0) (cap : Array Value) (r : Int × Nat) (hf : Calls Tryz.prog 263 cap W (WtEnd W r)) : Calls Tryz.prog 260 #[.int .i64 n, .func (.func 263) #[] cap] W (WtEnd W r) := by
 have HF := Lib.hid hf
 clear hf
 have d := beq_eq_false_iff_ne.2 hn
 clear hn
 go_enter Tryz.func260, Tryz.ntmps260
 go_wp2_with fail
 clear d
 refine (HF.out).mono ?_
 rintro e w1 ⟨rfl, hb⟩
 go_wp2_with fail
 go_ret2
 exact ⟨rfl, hb⟩
theorem does5 (x y : Int) (h1 : -32768 ≤ x) (h2 : x ≤ 32767) (h3 : -32768 ≤ y) (h4 : y ≤ 32767) (c0 : W.cell? ⟨p, 0, none⟩ = some (.int .i64 x)) (c1 : W.cell? ⟨q, 0, none⟩ = some (.int .i64 y)) : Calls Tryz.prog 262 #[.pointer (some ⟨q, 0, none⟩), .pointer (some ⟨p, 0, none⟩)] W (WtEnd W (overI y (signedI (x.tmod y)))) := by
 by_cases hy : y = 0
 ·subst hy
  have HE := Lib.hid (show overI 0 (signedI (x.tmod 0)) = (0, 4) from if_pos rfl)
  go_enter Tryz.func262, Tryz.ntmps262
  go_wp2_with fail
  refine (over_zero _ W).mono ?_
  rintro e w1 ⟨rfl, hb⟩
  go_wp2_with fail
  go_ret2
  rw [HE.out]
  exact ⟨rfl, hb⟩
 ·have HE := Lib.hid (show overI y (signedI (x.tmod y)) = signedI (x.tmod y) from if_neg hy)
  have HF := Lib.hid (does5a p q W x y hy h1 h2 h3 h4 c0 c1)
  go_enter Tryz.func262, Tryz.ntmps262
  go_wp2_with fail
  refine (over5 W y hy _ _ HF.out).mono ?_
  rintro e w1 ⟨rfl, hb⟩
  go_wp2_with fail
  go_ret2
  rw [HE.out]
  exact ⟨rfl, hb⟩
theorem does11a (x y : Int) (hy : y ≠ 0) (h1 : 0 ≤ x) (h2 : x ≤ 65535) (h3 : 0 ≤ y) (h4 : y ≤ 65535) (c0 : W.cell? ⟨p, 0, none⟩ = some (.int .i64 x)) (c1 : W.cell? ⟨q, 0, none⟩ = some (.int .i64 y)) : Calls Tryz.prog 271 #[.pointer (some ⟨p, 0, none⟩), .pointer (some ⟨q, 0, none⟩)] W (WtEnd W (bareI (x / y))) := by
 have hy1 : 1 ≤ y := by omega
 have m1 : 0 ≤ x / y := Int.ediv_nonneg h1 h3
 have m2 : x / y ≤ 65535 := by have := Int.ediv_le_self y h1; omega
 have d := beq_eq_false_iff_ne.2 hy
 go_enter Tryz.func271, Tryz.ntmps271
 go_wp2_with fail
 clear d
 refine (bare_any _ W).mono ?_
 rintro e w1 ⟨rfl, hb⟩
 go_wp2_with fail
 go_ret2
 exact ⟨rfl, hb⟩
theorem over11 (n : Int) (hn : n ≠ 0) (cap : Array Value) (r : Int × Nat) (hf : Calls Tryz.prog 271 cap W (WtEnd W r)) : Calls Tryz.prog 260 #[.int .i64 n, .func (.func 271) #[] cap] W (WtEnd W r) := by
 have HF := Lib.hid hf
 clear hf
 have d := beq_eq_false_iff_ne.2 hn
 clear hn
 go_enter Tryz.func260, Tryz.ntmps260
 go_wp2_with fail
 clear d
 refine (HF.out).mono ?_
 rintro e w1 ⟨rfl, hb⟩
 go_wp2_with fail
 go_ret2
 exact ⟨rfl, hb⟩
theorem does11 (x y : Int) (h1 : 0 ≤ x) (h2 : x ≤ 65535) (h3 : 0 ≤ y) (h4 : y ≤ 65535) (c0 : W.cell? ⟨p, 0, none⟩ = some (.int .i64 x)) (c1 : W.cell? ⟨q, 0, none⟩ = some (.int .i64 y)) : Calls Tryz.prog 270 #[.pointer (some ⟨q, 0, none⟩), .pointer (some ⟨p, 0, none⟩)] W (WtEnd W (overI y (bareI (x / y)))) := by
 by_cases hy : y = 0
 ·subst hy
  have HE := Lib.hid (show overI 0 (bareI (x / 0)) = (0, 4) from if_pos rfl)
  go_enter Tryz.func270, Tryz.ntmps270
  go_wp2_with fail
  refine (over_zero _ W).mono ?_
  rintro e w1 ⟨rfl, hb⟩
  go_wp2_with fail
  go_ret2
  rw [HE.out]
  exact ⟨rfl, hb⟩
 ·have HE := Lib.hid (show overI y (bareI (x / y)) = bareI (x / y) from if_neg hy)
  have HF := Lib.hid (does11a p q W x y hy h1 h2 h3 h4 c0 c1)
  go_enter Tryz.func270, Tryz.ntmps270
  go_wp2_with fail
  refine (over11 W y hy _ _ HF.out).mono ?_
  rintro e w1 ⟨rfl, hb⟩
  go_wp2_with fail
  go_ret2
  rw [HE.out]
  exact ⟨rfl, hb⟩
theorem does12a (x y : Int) (hy : y ≠ 0) (h1 : 0 ≤ x) (h2 : x ≤ 65535) (h3 : 0 ≤ y) (h4 : y ≤ 65535) (c0 : W.cell? ⟨p, 0, none⟩ = some (.int .i64 x)) (c1 : W.cell? ⟨q, 0, none⟩ = some (.int .i64 y)) : Calls Tryz.prog 273 #[.pointer (some ⟨p, 0, none⟩), .pointer (some ⟨q, 0, none⟩)] W (WtEnd W (bareI (x % y))) := by
 have hy1 : 1 ≤ y := by omega
 have m1 : 0 ≤ x % y := Int.emod_nonneg _ hy
 have m2 : x % y ≤ 65535 := by have := Int.emod_lt_of_pos x (show 0 < y by omega); omega
 have d := beq_eq_false_iff_ne.2 hy
 go_enter Tryz.func273, Tryz.ntmps273
 go_wp2_with fail
 clear d
 refine (bare_any _ W).mono ?_
 rintro e w1 ⟨rfl, hb⟩
 go_wp2_with fail
 go_ret2
 exact ⟨rfl, hb⟩
theorem over12 (n : Int) (hn : n ≠ 0) (cap : Array Value) (r : Int × Nat) (hf : Calls Tryz.prog 273 cap W (WtEnd W r)) : Calls Tryz.prog 260 #[.int .i64 n, .func (.func 273) #[] cap] W (WtEnd W r) := by
 have HF := Lib.hid hf
 clear hf
 have d := beq_eq_false_iff_ne.2 hn
 clear hn
 go_enter Tryz.func260, Tryz.ntmps260
 go_wp2_with fail
 clear d
 refine (HF.out).mono ?_
 rintro e w1 ⟨rfl, hb⟩
 go_wp2_with fail
 go_ret2
 exact ⟨rfl, hb⟩
theorem does12 (x y : Int) (h1 : 0 ≤ x) (h2 : x ≤ 65535) (h3 : 0 ≤ y) (h4 : y ≤ 65535) (c0 : W.cell? ⟨p, 0, none⟩ = some (.int .i64 x)) (c1 : W.cell? ⟨q, 0, none⟩ = some (.int .i64 y)) : Calls Tryz.prog 272 #[.pointer (some ⟨q, 0, none⟩), .pointer (some ⟨p, 0, none⟩)] W (WtEnd W (overI y (bareI (x % y)))) := by
 by_cases hy : y = 0
 ·subst hy
  have HE := Lib.hid (show overI 0 (bareI (x % 0)) = (0, 4) from if_pos rfl)
  go_enter Tryz.func272, Tryz.ntmps272
  go_wp2_with fail
  refine (over_zero _ W).mono ?_
  rintro e w1 ⟨rfl, hb⟩
  go_wp2_with fail
  go_ret2
  rw [HE.out]
  exact ⟨rfl, hb⟩
 ·have HE := Lib.hid (show overI y (bareI (x % y)) = bareI (x % y) from if_neg hy)
  have HF := Lib.hid (does12a p q W x y hy h1 h2 h3 h4 c0 c1)
  go_enter Tryz.func272, Tryz.ntmps272
  go_wp2_with fail
  refine (over12 W y hy _ _ HF.out).mono ?_
  rintro e w1 ⟨rfl, hb⟩
  go_wp2_with fail
  go_ret2
  rw [HE.out]
  exact ⟨rfl, hb⟩
theorem does6 (x : Int) (h1 : -32768 ≤ x) (h2 : x ≤ 32767) (c0 : W.cell? ⟨p, 0, none⟩ = some (.int .i64 x)) : Calls Tryz.prog 264 #[.pointer (some ⟨p, 0, none⟩)] W (WtEnd W (signedI (-x))) := by
 go_enter Tryz.func264, Tryz.ntmps264
 go_wp2_with fail
 refine (signed_any _ W).mono ?_
 rintro e w1 ⟨rfl, hb⟩
 go_wp2_with fail
 go_ret2
 exact ⟨rfl, hb⟩
theorem does7 (x : Int) (h1 : -32768 ≤ x) (h2 : x ≤ 32767) (c0 : W.cell? ⟨p, 0, none⟩ = some (.int .i64 x)) : Calls Tryz.prog 265 #[.pointer (some ⟨p, 0, none⟩)] W (WtEnd W (signedI (max x (-x)))) := by
 by_cases h : x < -x
 ·have HM := Lib.hid (show max x (-x) = -x by omega)
  rw [HM.out]
  go_enter Tryz.func265, Tryz.ntmps265
  go_wp2_with fail
  refine (signed_any _ W).mono ?_
  rintro e w1 ⟨rfl, hb⟩
  go_wp2_with fail
  go_ret2
  exact ⟨rfl, hb⟩
 ·have hn : -x ≤ x := by omega
  have HM := Lib.hid (show max x (-x) = x by omega)
  rw [HM.out]
  go_enter Tryz.func265, Tryz.ntmps265
  go_wp2_with fail
  refine (signed_any _ W).mono ?_
  rintro e w1 ⟨rfl, hb⟩
  go_wp2_with fail
  go_ret2
  exact ⟨rfl, hb⟩
theorem does23 (a : Nat) (_h1 : a < 65536) (c0 : W.cell? ⟨p, 0, none⟩ = some (.int .u16 a)) : Calls Tryz.prog 287 #[.pointer (some ⟨p, 0, none⟩)] W (WtEnd W (isI ((a : Int) == 0))) := by
 go_enter Tryz.func287, Tryz.ntmps287
 go_wp2_with fail
 refine (is_any _ W).mono ?_
 rintro e w1 ⟨rfl, hb⟩
 go_wp2_with fail
 go_ret2
 exact ⟨rfl, hb⟩
end
end Go.Proofs.YtabenhpjgjjgnaaGreatDoor
/- What ops do with words. -/
namespace Go.Proofs.YtabenhpjgjjgnaaGreatDoor
open Go.RowKit
set_option maxRecDepth 100000
def shB (i : Nat) : Int := IntKind.u16.wrap ((2 : Int) ^ i)
def rowS (a : Nat) : Nat → Int
 | 0 => 0
 | k + 1 => bits .or .u16 (rowS a k) (shB (a + k))
def rowI (a b : Nat) : Int × Nat := if 15 < a ∨ 15 < b then (0, 2) else (rowS a (b + 1 - a), 0)
theorem row_bad1 (a b : Nat) (h : 15 < a) (W : World) : Calls Tryz.prog 296 #[.int .u16 a, .int .u16 b] W (WtEnd W (0, 2)) := by
 have hI : (15 : Int) < a := by omega
 go_enter Tryz.func296, Tryz.ntmps296
 go_wp2_with fail
 go_ret2
 exact ⟨rfl, Below.refl _ _⟩
theorem row_bad2 (a b : Nat) (h1 : a ≤ 15) (h : 15 < b) (W : World) : Calls Tryz.prog 296 #[.int .u16 a, .int .u16 b] W (WtEnd W (0, 2)) := by
 have hI : (15 : Int) < b := by omega
 have hJ : decide ((15 : Int) < a) = false := decide_eq_false (by omega)
 go_enter Tryz.func296, Tryz.ntmps296
 go_wp2_with fail
 go_ret2
 exact ⟨rfl, Below.refl _ _⟩
theorem row_good (a b : Nat) (h1 : a ≤ 15) (h : b ≤ 15) (W : World) : Calls Tryz.prog 296 #[.int .u16 a, .int .u16 b] W (WtEnd W (rowS a (b + 1 - a), 0)) := by
 have hI : decide ((15 : Int) < b) = false := decide_eq_false (by omega)
 have hJ : decide ((15 : Int) < a) = false := decide_eq_false (by omega)
 go_enter Tryz.func296, Tryz.ntmps296
 go_wp2_with fail
 clear hI hJ
 go_loopg [6, 7] (b + 1 - a) (fun g s i wr => ∃ k : Nat, k + g = b + 1 - a ∧ i = .int .u16 ((a + k : Nat) : Int) ∧ s = .int .u16 (rowS a k) ∧ wr = W)
 case atStart => exact ⟨0, by omega, rfl, rfl, rfl⟩
 case round =>
  obtain ⟨k, hk, rfl, rfl, rfl⟩ := hrel
  by_cases hlt : a + k ≤ b
  ·have hltI : ((a + k : Nat) : Int) ≤ b := by omega
   have HS := Lib.hid (show rowS a (k + 1) = bits .or .u16 (rowS a k) (shB (a + k)) from rfl)
   have hc16 : a + k ≤ 15 := by omega
   generalize hac : a + k = c at *
   have HC := Lib.hid hac
   clear hac
   have hc : (c : Int) ≤ 15 := by omega
   have hc0 : (0 : Int) ≤ c := by omega
   go_wp2_with fail
   go_roundg (gk - 1)
   case measure => have := HC.out; omega
   case rel => exact ⟨k + 1, by have := HC.out; omega, by rw [show a + (k + 1) = c + 1 by have := HC.out; omega]; rfl, by rw [HS.out]; rfl, rfl⟩
  ·have hge : ¬ ((a + k : Nat) : Int) ≤ b := by omega
   have HT := Lib.hid (show rowS a (b + 1 - a) = rowS a k ∨ b + 1 - a < k by
    by_cases h : k ≤ b + 1 - a
    ·left; congr 1; omega
    ·right; omega)
   go_wp2_with fail
   go_ret2
   rcases HT.out with h | h
   ·rw [h]; exact ⟨rfl, Below.refl _ _⟩
   ·omega
theorem setRow_any (a b : Nat) (W : World) : Calls Tryz.prog 296 #[.int .u16 a, .int .u16 b] W (WtEnd W (rowI a b)) := by
 unfold rowI
 by_cases h1 : 15 < a
 ·rw [if_pos (.inl h1)]; exact row_bad1 a b h1 W
 ·by_cases h2 : 15 < b
  ·rw [if_pos (.inr h2)]; exact row_bad2 a b (by omega) h2 W
  ·rw [if_neg (by omega)]; exact row_good a b (by omega) (by omega) W
section
variable (p q : Nat) (W : World)
theorem does30 (a : Nat) (c0 : W.cell? ⟨p, 0, none⟩ = some (.int .u16 a)) : Calls Tryz.prog 295 #[.pointer (some ⟨p, 0, none⟩)] W (WtEnd W (rowI a a)) := by
 go_enter Tryz.func295, Tryz.ntmps295
 go_wp2_with fail
 refine (setRow_any a a W).mono ?_
 rintro e w1 ⟨rfl, hb⟩
 go_wp2_with fail
 go_ret2
 exact ⟨rfl, hb⟩
theorem does31 (a b : Nat) (c0 : W.cell? ⟨p, 0, none⟩ = some (.int .u16 a)) (c1 : W.cell? ⟨q, 0, none⟩ = some (.int .u16 b)) : Calls Tryz.prog 297 #[.pointer (some ⟨p, 0, none⟩), .pointer (some ⟨q, 0, none⟩)] W (WtEnd W (rowI a b)) := by
 go_enter Tryz.func297, Tryz.ntmps297
 go_wp2_with fail
 refine (setRow_any a b W).mono ?_
 rintro e w1 ⟨rfl, hb⟩
 go_wp2_with fail
 go_ret2
 exact ⟨rfl, hb⟩
def inI (a b : Nat) : Bool := decide (a < 16) && (bits .and .u16 ((b : Int) / 2 ^ a) 1 == 1)
theorem does28 (a b : Nat) (h1 : a < 65536) (_h2 : b < 65536) (c0 : W.cell? ⟨p, 0, none⟩ = some (.int .u16 a)) (c1 : W.cell? ⟨q, 0, none⟩ = some (.int .u16 b)) : Calls Tryz.prog 293 #[.pointer (some ⟨p, 0, none⟩), .pointer (some ⟨q, 0, none⟩)] W (WtEnd W (isI (inI a b))) := by
 by_cases h : a < 16
 ·have HE := Lib.hid (show inI a b = (bits .and .u16 ((b : Int) / 2 ^ a) 1 == 1) by unfold inI; rw [decide_eq_true h]; rfl)
  have hI : (a : Int) < 16 := by omega
  go_enter Tryz.func293, Tryz.ntmps293
  go_wp2_with fail
  rw [← HE.out]
  refine (is_any _ W).mono ?_
  rintro e w1 ⟨rfl, hb⟩
  go_wp2_with fail
  go_ret2
  exact ⟨rfl, hb⟩
 ·have HE := Lib.hid (show inI a b = false by unfold inI; rw [decide_eq_false h]; rfl)
  have hI : decide ((a : Int) < 16) = false := decide_eq_false (by omega)
  go_enter Tryz.func293, Tryz.ntmps293
  go_wp2_with fail
  rw [← HE.out]
  refine (is_any _ W).mono ?_
  rintro e w1 ⟨rfl, hb⟩
  go_wp2_with fail
  go_ret2
  exact ⟨rfl, hb⟩
end
end Go.Proofs.YtabenhpjgjjgnaaGreatDoor
/- A region that draws its order. -/
namespace Go.Proofs.YtabenhpjgjjgnaaGreatDoor
open Go.RowKit
section
variable {P : Program} {ops : Array Oper} {Q : Exit → Act → World → Prop} {md : Region.Mode} {S : World → Prop}
def Asks (P : Program) (ops : Array Oper) (S : World → Prop) (o : Oper) (v : Value) (a : Act) : Prop :=
 Region.wanted o (yielded ops a.tmps) = true ∧ ∃ f args, (∀ w, S w → (execOp a.eval o).run P w = .ok (.enter f args) w) ∧ ∀ w, S w → Calls P f args w (fun e w' => e = .returned v ∧ w = w')
theorem Asks.op {i : Nat} {o : Oper} {v : Value} {a : Act} (hi : ops[i]? = some o) (hy : Asks P ops S o v a) {K : Act → World → Prop} {w : World} (hS : S w) (h : K (a.put o.dst v) w) : wpOp P ops Q i K a w := by
 obtain ⟨hw, f, args, hr, hc⟩ := hy
 refine wpOp_step hi fun K' hK => ?_
 rw [if_pos hw]
 unfold Oper.wp
 rw [hr w hS]
 refine (hc w hS).mono ?_
 rintro e w' ⟨rfl, rfl⟩
 exact hK _ _ h
theorem Asks.same {o : Oper} {v : Value} {a a' : Act} (hy : Asks P ops S o v a) (he : execOp a'.eval o = execOp a.eval o) (hw : Region.wanted o (yielded ops a'.tmps) = Region.wanted o (yielded ops a.tmps)) : Asks P ops S o v a' := by
 unfold Asks at *
 rw [he, hw]
 exact hy
theorem Asks.apart {j : Nat} {oi oj : Oper} {v : Value} (hj : ops[j]? = some oj) (hap : oi.apart ops oj = true) (hsi : ∀ cs b, oi.op ≠ .select cs b) (hsj : ∀ cs b, oj.op ≠ .select cs b)
 (hQ : ∀ c a w, Q (.panic c) (a.put oi.dst v) w → Q (.panic c) a w) {K : Act → World → Prop} {a : Act} {w : World} (hy : Asks P ops S oi v a) (h : wpOp P ops Q j K (a.put oi.dst v) w) :
 wpOp P ops Q j (fun a' w' => Asks P ops S oi v a' ∧ K (a'.put oi.dst v) w') a w := by
 obtain ⟨h1, h2, h3⟩ := Oper.apart_spec hap
 have keep : ∀ (a : Act), Asks P ops S oi v a → ∀ u, Asks P ops S oi v (a.put oj.dst u) := fun a hy u => hy.same (execOp_put oi hsi a oj.dst u h3) (wanted_put oi a oj.dst u h3)
 unfold wpOp at h ⊢
 simp only [hj] at h ⊢
 rw [wanted_put oj a oi.dst v h1] at h
 by_cases hw : Region.wanted oj (yielded ops a.tmps) = true
 ·rw [if_pos hw] at h ⊢
  refine h.imp (fun h => ?_) (fun h => ⟨?_, h.2⟩)
  ·unfold Oper.wp at h ⊢
   rw [execOp_put oj hsj a oi.dst v h1] at h
   clear hw
   generalize (execOp a.eval oj).run P w = r at *
   cases r with
   | ok n w' =>
     cases n <;> simp only [Oper.upon] at h ⊢
     case value u => rw [Act.put_comm a v u h2] at h; exact ⟨keep a hy u, h⟩
     case skip => rw [Act.put_comm a v undef h2] at h; exact ⟨keep a hy _, h⟩
     case defer d => rw [Act.put_defers, Act.put_comm _ v undef h2] at h; exact ⟨keep { a with defers := d :: a.defers } (hy.same rfl rfl) _, h⟩
     case enter f args =>
      refine h.mono fun e w'' he => ?_
      cases e with
      | returned u => simp only at he ⊢; rw [Act.put_comm a v u h2] at he; exact ⟨keep a hy u, he⟩
      | panicked c => exact hQ _ _ _ he
      | outgrown => exact he
     case row row args => exact Rows.mono h fun u w'' he => by rw [Act.put_comm a v u h2] at he; exact ⟨keep a hy u, he⟩
   | halt x w' => cases x <;> simp only [Oper.upon] at h ⊢; exact hQ _ _ _ h
  ·have := h.1
   unfold Oper.asks at this ⊢
   rwa [execOp_put oj hsj a oi.dst v h1] at this
 ·rw [if_neg hw] at h ⊢
  rw [Act.put_comm a v undef h2] at h
  exact ⟨keep a hy _, h⟩
theorem asks_first {i : Nat} {oi : Oper} {v : Value} (hi : ops[i]? = some oi) (hsel : ∀ (j : Nat) (o : Oper) cs b, ops[j]? = some o → o.op ≠ .select cs b) (hQ : ∀ c a w, Q (.panic c) (a.put oi.dst v) w → Q (.panic c) a w) :
 ∀ (fuel : Nat) (listed : Array Bool) (a : Act) (w : World), (∀ j oj, ops[j]? = some oj → j ≠ i → listed.getD j true = false → (∀ e ∈ oj.after, Region.binds md e = true → e.on ≠ i) → oi.apart ops oj = true) →
   i ∈ Region.ready md ops listed → Asks P ops S oi v a → S w → wpAnyH P md ops Q S fuel (listed.setIfInBounds i true) (a.put oi.dst v) w → wpAnyH P md ops Q S (fuel + 1) listed a w
 | fuel, listed, a, w, hfree, hr, hy, hS, H => by
   refine ⟨fun h => (by rw [h] at hr; cases hr), fun j hj => ?_⟩
   by_cases hji : j = i
   ·subst hji; exact hy.op hi hS ⟨hS, H⟩
   have hj' := ready_mono hj hji
   cases fuel with
   | zero => rw [H.1] at hj'; cases hj'
   | succ fuel =>
     obtain ⟨hjun, oj, hoj, hall⟩ := mem_ready.1 hj
     have hnot : ∀ e ∈ oj.after, Region.binds md e = true → e.on ≠ i := fun e he hb heq => by
      have h1 := hall e he hb
      have h0 := (mem_ready.1 hr).1
      rw [heq] at h1
      rw [Array.getD_eq_getD_getElem?] at h0 h1
      cases hl : listed[i]? with
      | none => rw [hl] at h1; cases h1
      | some b => rw [hl] at h0 h1; simp only [Option.getD_some] at h0 h1; rw [h0] at h1; cases h1
     have h2 := Asks.apart hoj (hfree j oj hoj hji hjun hnot) (fun cs b => hsel i oi cs b hi) (fun cs b => hsel j oj cs b hoj) hQ hy (H.2 j hj')
     refine wpOp_mono (fun a' w' h3 => ⟨h3.2.1, asks_first hi hsel hQ fuel (listed.setIfInBounds j true) a' w' (fun k ok hk hki hun hno => hfree k ok hk hki ?_ hno) (ready_mono hr (Ne.symm hji)) h3.1 h3.2.1 ?_⟩) h2
     ·by_cases hjk : j = k
      ·subst hjk; exact hjun
      ·rwa [getD_set_ne true hjk] at hun
     ·rw [Array.setIfInBounds_comm _ _ hji]; exact h3.2.2
theorem asks_take {i : Nat} {oi : Oper} {v : Value} {fuel : Nat} {listed : Array Bool} {a : Act} {w : World} (hi : ops[i]? = some oi)
 (hs : Region.noSelect ops = true) (hf : Region.free md ops listed i = true) (hr : (Region.ready md ops listed).contains i = true)
 (hQ : ∀ c a w, Q (.panic c) (a.put oi.dst v) w → Q (.panic c) a w) (hy : Asks P ops S oi v a) (hS : S w)
 (h : wpAnyH P md ops Q S fuel (listed.setIfInBounds i true) (a.put oi.dst v) w) : wpAnyH P md ops Q S (fuel + 1) listed a w :=
 asks_first hi (Region.noSelect_spec hs) hQ fuel listed a w (Region.free_spec hi hf) (by simpa using hr) hy hS h
end
end Go.Proofs.YtabenhpjgjjgnaaGreatDoor
