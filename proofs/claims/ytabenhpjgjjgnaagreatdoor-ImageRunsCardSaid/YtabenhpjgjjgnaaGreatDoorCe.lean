/- obj. obj. image. Condition: what lies in memory can lie there; what each theorem says. -/
import Derived.Test.YtabenhpjgjjgnaaGreatDoorCd
import Derived.Test.YtabenhpjgjjgnaaGreatDoorBq
import Derived.Deep.QuietTactic
import Derived.BigQuiet
/- obj. -/
namespace Go.Proofs.YtabenhpjgjjgnaaGreatDoor
open Go.RowKit
set_option maxRecDepth 100000
theorem beN_take_succ (n m j : Nat) (hj : j < m) : (beN n m).take (j + 1) = (beN n m).take j ++ [UInt8.ofNat (n / 2 ^ (8 * (m - 1 - j)) % 256)] := by
 have hl : j < (beN n m).length := by rw [beN_length]; exact hj
 rw [List.take_succ_eq_append_getElem hl]
 have := beN_get n m j hj
 rw [List.getD_eq_getElem?_getD, List.getElem?_eq_getElem hl, Option.getD_some] at this
 rw [this, show (256 : Nat) = 2 ^ 8 from rfl, ← Nat.pow_mul]
theorem byteVals_mod (x : Nat) : byteVals [UInt8.ofNat (x % 256)] = #[.int .u8 ((x : Int) % 256)] := by
 simp only [byteVals, List.map_cons, List.map_nil]
 rw [show (UInt8.ofNat (x % 256)).toNat = x % 256 % 256 from UInt8.toNat_ofNat, Nat.mod_mod]
 simp
set_option maxHeartbeats 400000 in
theorem number_any (n m : Nat) (hn : n ≤ 9223372036854775807) (hm : m ≤ 8) (w : World) :
 Calls Tryz.prog 191 #[.int .i64 n, .int .i64 m] w fun e w' => e = .returned (.string ⟨(beN n m).toArray⟩) ∧ Below w.heap.size w w' := by
 go_enter Tryz.func191, Tryz.ntmps191
 go_wp2_with fail
 go_loopg [5, 6] (m + 1) (fun g v i wr => ∃ j : Nat, j + g = m + 1 ∧ j ≤ m ∧ i = .int .i64 ((m : Int) - 1 - j) ∧ wr.ownsRow w.heap.size 5 1 v j (byteVals ((beN n m).take j)).toList ∧ Below w.heap.size w wr)
 case atStart => exact ⟨0, by omega, by omega, by simp, World.ownsRow_nil .., Below.refl _ _⟩
 case round =>
  obtain ⟨j, hk, h8, rfl, hown, hb⟩ := hrel
  have HO := Lib.hid hown
  clear hown
  have hws : w.heap.size ≤ wr.heap.size := hb.size
  by_cases hlt : j < m
  ·have HS := Lib.hid (beN_take_succ n m j hlt)
   have HV := Lib.hid (byteVals_mod (n / 2 ^ (8 * (m - 1 - j))))
   obtain ⟨q, rfl⟩ : ∃ q : Nat, m = j + 1 + q := ⟨m - (j + 1), by omega⟩
   rw [show ((j + 1 + q : Nat) : Int) - 1 - j = (q : Int) by omega]
   rw [show j + 1 + q - 1 - j = q by omega] at HS HV
   have hq : (q : Int) ≤ 7 := by omega
   have HOd := Lib.hid (own_later HO.out (alloc_below wr (.cells #[.int .u8 ((n / 2 ^ (8 * q) : Nat) % 256)] 5)))
   go_wp2_with (at_builtin; refine wpList_app etBytes rfl _ _ rfl w.heap.size _ _ _ rfl HOd.out _ 1 _ rfl (src_new etBytes wr _ _ 1 1 rfl (by simp [Value.oneCell'])) (by omega) (by unfold maxLen; omega) (by simp; omega) ?_; intro v9 w9 hA9)
   have H9 := Lib.hid (hA9.below (hb.alloc hws _) (by simp; omega) HOd.out (Nat.le_refl _))
   have O9 := Lib.hid hA9.own
   clear hA9 HOd
   go_wp2_with fail
   go_roundg (gk - 1)
   case measure => omega
   case rel =>
    refine ⟨j + 1, by omega, by omega, by go_num, ?_, H9.out⟩
    rw [HS.out, byteVals_append, HV.out]
    exact O9.out
  ·obtain rfl : j = m := by omega
   rw [List.take_of_length_le (Nat.le_of_eq (beN_length n j))] at HO
   have hconv := conv_own HO.out
   obtain ⟨A9, c9, rfl⟩ := own_slice' HO.out
   have hneg : (j : Int) - 1 - j = -1 := by omega
   rw [hneg]
   go_wp2_with fail
   go_ret
   exact ⟨rfl, hb⟩
set_option maxHeartbeats 400000 in
theorem numberW_any (n m : Nat) (hn : n ≤ 65535) (hm : m ≤ 8) (w : World) :
 Calls Tryz.prog 193 #[.int .u16 n, .int .i64 m] w fun e w' => e = .returned (.string ⟨(beN n m).toArray⟩) ∧ Below w.heap.size w w' := by
 go_enter Tryz.func193, Tryz.ntmps193
 go_wp2_with fail
 go_loopg [5, 6] (m + 1) (fun g v i wr => ∃ j : Nat, j + g = m + 1 ∧ j ≤ m ∧ i = .int .i64 ((m : Int) - 1 - j) ∧ wr.ownsRow w.heap.size 5 1 v j (byteVals ((beN n m).take j)).toList ∧ Below w.heap.size w wr)
 case atStart => exact ⟨0, by omega, by omega, by simp, World.ownsRow_nil .., Below.refl _ _⟩
 case round =>
  obtain ⟨j, hk, h8, rfl, hown, hb⟩ := hrel
  have HO := Lib.hid hown
  clear hown
  have hws : w.heap.size ≤ wr.heap.size := hb.size
  by_cases hlt : j < m
  ·have HS := Lib.hid (beN_take_succ n m j hlt)
   have HV := Lib.hid (byteVals_mod (n / 2 ^ (8 * (m - 1 - j))))
   obtain ⟨q, rfl⟩ : ∃ q : Nat, m = j + 1 + q := ⟨m - (j + 1), by omega⟩
   rw [show ((j + 1 + q : Nat) : Int) - 1 - j = (q : Int) by omega]
   rw [show j + 1 + q - 1 - j = q by omega] at HS HV
   have hq : (q : Int) ≤ 7 := by omega
   have HOd := Lib.hid (own_later HO.out (alloc_below wr (.cells #[.int .u8 ((n / 2 ^ (8 * q) : Nat) % 256)] 5)))
   go_wp2_with (at_builtin; refine wpList_app etBytes rfl _ _ rfl w.heap.size _ _ _ rfl HOd.out _ 1 _ rfl (src_new etBytes wr _ _ 1 1 rfl (by simp [Value.oneCell'])) (by omega) (by unfold maxLen; omega) (by simp; omega) ?_; intro v9 w9 hA9)
   have H9 := Lib.hid (hA9.below (hb.alloc hws _) (by simp; omega) HOd.out (Nat.le_refl _))
   have O9 := Lib.hid hA9.own
   clear hA9 HOd
   go_wp2_with fail
   go_roundg (gk - 1)
   case measure => omega
   case rel =>
    refine ⟨j + 1, by omega, by omega, by go_num, ?_, H9.out⟩
    rw [HS.out, byteVals_append, HV.out]
    exact O9.out
  ·obtain rfl : j = m := by omega
   rw [List.take_of_length_le (Nat.le_of_eq (beN_length n j))] at HO
   have hconv := conv_own HO.out
   obtain ⟨A9, c9, rfl⟩ := own_slice' HO.out
   have hneg : (j : Int) - 1 - j = -1 := by omega
   rw [hneg]
   go_wp2_with fail
   go_ret
   exact ⟨rfl, hb⟩
theorem truth_any (b : Bool) (w : World) : Calls Tryz.prog 192 #[.bool b] w fun e w' => e = .returned (.string ⟨(truthL b).toArray⟩) ∧ Below w.heap.size w w' := by
 cases b
 ·go_enter Tryz.func192, Tryz.ntmps192
  go_wp2_with fail
  go_ret
  exact ⟨rfl, Below.refl _ _⟩
 ·go_enter Tryz.func192, Tryz.ntmps192
  go_wp2_with fail
  go_ret
  exact ⟨rfl, Below.refl _ _⟩
end Go.Proofs.YtabenhpjgjjgnaaGreatDoor
/- obj. -/
namespace Go.Proofs.YtabenhpjgjjgnaaGreatDoor
open Go.RowKit
set_option maxRecDepth 100000
theorem mods_one (w : World) (s : MS) (m : ModL) (hI : ModIn w s m) (T : TypeId) :
 Mods (w.alloc (.cells #[.string ⟨m.code.toArray⟩, .slice s.A1 m.procs.length s.c1, .slice none 0 0, .int .i64 m.data, .slice s.A3 m.init.length s.c3] T)) (some ⟨w.heap.size, 0, none⟩) [noImp m] := by
 refine .inr ⟨w.heap.size, 0, rfl, by simp, fun j hj => ?_⟩
 obtain rfl : j = 0 := by simp at hj; omega
 have hb := heap_alloc_new w (.cells #[.string ⟨m.code.toArray⟩, .slice s.A1 m.procs.length s.c1, .slice none 0 0, .int .i64 m.data, .slice s.A3 m.init.length s.c3] T)
 have hc : ∀ o, (w.alloc (.cells #[.string ⟨m.code.toArray⟩, .slice s.A1 m.procs.length s.c1, .slice none 0 0, .int .i64 m.data, .slice s.A3 m.init.length s.c3] T)).cell? ⟨w.heap.size, o, none⟩ = #[.string ⟨m.code.toArray⟩, .slice s.A1 m.procs.length s.c1, .slice none 0 0, .int .i64 m.data, .slice s.A3 m.init.length s.c3][o]? := fun o => by
  unfold World.cell?; rw [hb]; simp
 have hA := alloc_below w (.cells #[.string ⟨m.code.toArray⟩, .slice s.A1 m.procs.length s.c1, .slice none 0 0, .int .i64 m.data, .slice s.A3 m.init.length s.c3] T)
 refine ⟨⟨s.A1, s.c1, none, 0, s.A3, s.c3⟩, ⟨hI.procs.later hA (Nat.le_refl _), .inl rfl, hI.init.later hA (Nat.le_refl _), hI.code_le, hI.procs_le, Nat.zero_le _, hI.init_le⟩, hc 0, hc 1, hc 2, hc 3, hc 4⟩
set_option maxHeartbeats 1000000 in
theorem objModule_any (s : MS) (m : ModL) (w : World) (hI : ModIn w s m) : Calls Tryz.prog 190 #[modV s m] w (BoolEnd w (modOkB m)) := by
 have hil := hI.imports_le
 have hpl := hI.procs_le
 have hnl := hI.init_le
 have hcl := hI.code_le
 have HW := Lib.hid (alloc_below w (.cells #[.string ⟨m.code.toArray⟩, .slice s.A1 m.procs.length s.c1, .slice s.A2 m.imports.length s.c2, .int .i64 m.data, .slice s.A3 m.init.length s.c3] 68))
 have HI := Lib.hid hI
 clear hI
 unfold modV
 by_cases h1 : 255 < m.imports.length
 ·go_enter Tryz.func190, Tryz.ntmps190
  go_wp2_with fail
  go_ret
  exact boolEnd_false (modOkB_long h1) HW.out
 have H1 := Lib.hid h1
 go_enter Tryz.func190, Tryz.ntmps190
 go_wp2_with fail
 go_loopg [14] (m.imports.length) (fun g i wr => ∃ k : Nat, k + g = m.imports.length ∧ i = .int .i64 k ∧ (m.imports.take k).all (withinB · 0 63) = true ∧ wr = w.alloc (.cells #[.string ⟨m.code.toArray⟩, .slice s.A1 m.procs.length s.c1, .slice s.A2 m.imports.length s.c2, .int .i64 m.data, .slice s.A3 m.init.length s.c3] 68))
 case atStart => exact ⟨0, by omega, rfl, rfl, rfl⟩
 case round =>
  obtain ⟨k, hk, rfl, hall, rfl⟩ := hrel
  have HA := Lib.hid hall
  clear hall
  by_cases hlt : k < m.imports.length
  ·obtain ⟨b, off, hA2, hbl, c0⟩ := Each.at_ HI.out.imports hlt
   have HS := Lib.hid (all_take_succ (withinB · 0 63) m.imports k 0 hlt)
   have HF := Lib.hid (all_false_at (withinB · 0 63) m.imports k 0 hlt)
   generalize m.imports.getD k 0 = x at *
   obtain ⟨A1, cc1, A2, cc2, A3, cc3⟩ := s
   simp only at hA2 ⊢
   subst hA2
   have hkI : (k : Int) < (m.imports.length : Int) := by omega
   rw [Nat.mul_one] at c0
   by_cases hx0 : x < 0
   ·have hq := Lib.hid (show withinB x 0 63 = false by simp [withinB]; omega)
    go_wp2_with fail
    go_ret
    exact boolEnd_false (modOkB_imp (HF.out hq.out)) HW.out
   by_cases hx1 : 64 ≤ x
   ·have hq := Lib.hid (show withinB x 0 63 = false by simp [withinB]; omega)
    go_wp2_with fail
    go_ret
    exact boolEnd_false (modOkB_imp (HF.out hq.out)) HW.out
   have hq := Lib.hid (show withinB x 0 63 = true by simp [withinB]; omega)
   go_wp2_with fail
   go_roundg (gk - 1)
   case measure => omega
   case rel => exact ⟨k + 1, by omega, by go_num, by rw [HS.out, HA.out, hq.out]; rfl, rfl⟩
  ·obtain rfl : k = m.imports.length := by omega
   have HA1 := Lib.hid (show m.imports.all (withinB · 0 63) = true by have := HA.out; rwa [List.take_length] at this)
   have HR := Lib.hid (modOkB_rest H1.out HA1.out)
   clear HA
   have HAl := Lib.hid (alloc_below w (.cells #[.string ⟨m.code.toArray⟩, .slice s.A1 m.procs.length s.c1, .slice none 0 0, .int .i64 m.data, .slice s.A3 m.init.length s.c3] 68))
   go_wp2_with fail
   refine (check_any (some ⟨w.heap.size + 1, 0, none⟩) none 1 0 [noImp m] [] (by simp) (by simp) _ (by simpa using mods_one _ s m (HI.out.later HAl.out (Nat.le_refl _)) 68) (.inl rfl)).mono ?_
   rintro e w5 ⟨k5, rfl, hb5⟩
   have hb6 := HAl.out.trans ((box_below hb5).1.mono (by simp))
   clear hb5
   cases hq : checkB [noImp m] []
   ·rw [show errMod false = 200 from rfl]
    go_wp2_with fail
    go_ret
    exact boolEnd_of (by rw [HR.out, hq]) hb6
   ·rw [show errMod true = 0 from rfl]
    go_wp2_with fail
    go_ret
    exact boolEnd_of (by rw [HR.out, hq]) hb6
end Go.Proofs.YtabenhpjgjjgnaaGreatDoor
/- image. -/
namespace Go.Proofs.YtabenhpjgjjgnaaGreatDoor
open Go.RowKit
set_option maxRecDepth 100000
theorem name_any (s : List UInt8) (hs : s.length ≤ 140737488355328) (w : World) : Calls Tryz.prog 113 #[.string ⟨s.toArray⟩] w fun e w' => e = .returned (.bool (nameB s)) ∧ w = w' := by
 by_cases h : 1 ≤ s.length
 ·go_enter Tryz.func113, Tryz.ntmps113
  go_wp2_with fail
  go_ret
  exact ⟨ret1 (vbool (by unfold nameB; rw [decide_eq_true h, Bool.true_and, decide_eq_decide]; omega)), rfl⟩
 ·have h0 : s = [] := List.eq_nil_of_length_eq_zero (by omega)
  subst h0
  go_enter Tryz.func113, Tryz.ntmps113
  go_wp2_with fail
  go_ret
  exact ⟨rfl, rfl⟩
def OrdTo (o : List Int) (k : Nat) : Prop := ∀ j, j < k → o.getD j 0 = (j : Int)
theorem orderB_iff (o : List Int) : orderB o = true ↔ OrdTo o o.length := by
 unfold orderB OrdTo
 rw [decide_eq_true_iff]
 constructor
 ·intro h j hj
  rw [h]; simp [List.getD_eq_getElem?_getD]
  rw [List.getElem?_range (by simpa using hj)]; rfl
 ·intro h
  apply List.ext_getElem?
  intro j
  by_cases hj : j < o.length
  ·have := h j hj
   rw [List.getElem?_map, List.getElem?_range hj, List.getElem?_eq_getElem hj]
   simp [List.getD_eq_getElem?_getD, hj] at this
   simp [this]
  ·rw [List.getElem?_eq_none (by omega), List.getElem?_eq_none (by simpa using hj)]
theorem ordTo_succ {o : List Int} {k : Nat} (h : OrdTo o k) (hk : o.getD k 0 = (k : Int)) : OrdTo o (k + 1) := fun j hj => by
 rcases Nat.lt_succ_iff_lt_or_eq.1 hj with h1 | rfl
 ·exact h j h1
 ·exact hk
theorem not_ord {o : List Int} {k : Nat} (hk : k < o.length) (h : o.getD k 0 ≠ (k : Int)) : orderB o = false := by
 rw [Bool.eq_false_iff]; intro h2; exact h ((orderB_iff o).1 h2 k hk)
theorem imgB_check {i : ImgL} (h : checkB i.mods i.order = false) : imgB i = false := by unfold imgB; rw [h]; rfl
theorem imgB_len1 {i : ImgL} (h : i.names.length ≠ i.mods.length) : imgB i = false := by unfold imgB; rw [beq_eq_false_iff_ne.2 h]; simp
theorem imgB_len2 {i : ImgL} (h : i.order.length ≠ i.mods.length) : imgB i = false := by unfold imgB; rw [beq_eq_false_iff_ne.2 h]; simp
theorem imgB_name {i : ImgL} (h : i.names.all nameB = false) : imgB i = false := by unfold imgB; rw [h]; simp
theorem imgB_dup {i : ImgL} (h : ¬ i.names.Nodup) : imgB i = false := by unfold imgB; rw [decide_eq_false h]; simp
theorem imgB_ord {i : ImgL} (h : orderB i.order = false) : imgB i = false := by unfold imgB; rw [h]; simp
theorem imgB_ok {i : ImgL} (h1 : checkB i.mods i.order = true) (h2 : i.names.length = i.mods.length) (h3 : i.order.length = i.mods.length) (h4 : i.names.all nameB = true) (h5 : i.names.Nodup) (h6 : OrdTo i.order i.names.length) : imgB i = true := by
 unfold imgB; rw [h1, h4, decide_eq_true h5, (orderB_iff _).2 (by rw [h3, ← h2]; exact h6)]; simp [h2, h3]
def errArg (ok : Bool) : Int := if ok then 0 else 2
theorem errArg_false {ok : Bool} (h : ok = false) : errArg ok = 2 := by rw [h]; rfl
def IntEnd (w : World) (n : Int) (e : Ending) (w' : World) : Prop := e = .returned (.int .i64 n) ∧ Below w.heap.size w w'
theorem intEnd_of {w w' : World} {n m : Int} (h : n = m) (hb : Below w.heap.size w w') : IntEnd w n (.returned (.int .i64 m)) w' := ⟨by rw [h], hb⟩
theorem box32 {w w' : World} {a b c d e : Value} {t u : TypeId} (hb : Below (w.heap.size + 2) ((w.alloc (.cells #[a, b, c] t)).alloc (.cells #[d, e] u)) w') :
 w'.cell? ⟨w.heap.size, 0, none⟩ = some a ∧ w'.cell? ⟨w.heap.size, 1, none⟩ = some b ∧ w'.cell? ⟨w.heap.size, 2, none⟩ = some c ∧ w'.cell? ⟨w.heap.size + 1, 0, none⟩ = some d ∧ w'.cell? ⟨w.heap.size + 1, 1, none⟩ = some e ∧ Below w.heap.size w w' ∧ w.heap.size + 1 < w'.heap.size := by
 have h1 : ∀ i, w'.cell? ⟨w.heap.size, i, none⟩ = #[a, b, c][i]? := fun i => by
  rw [hb.cell (p := ⟨w.heap.size, i, none⟩) (by show w.heap.size < w.heap.size + 2; omega)]
  unfold World.cell?
  rw [Below.heap_alloc _ _ _ (by simp), heap_alloc_new]; simp
 have h2 : ∀ i, w'.cell? ⟨w.heap.size + 1, i, none⟩ = #[d, e][i]? := fun i => by
  rw [hb.cell (p := ⟨w.heap.size + 1, i, none⟩) (by show w.heap.size + 1 < w.heap.size + 2; omega)]
  unfold World.cell?
  have : w.heap.size + 1 = (w.alloc (.cells #[a, b, c] t)).heap.size := by simp
  simp only [this]
  rw [heap_alloc_new]; simp
 refine ⟨by rw [h1]; rfl, by rw [h1]; rfl, by rw [h1]; rfl, by rw [h2]; rfl, by rw [h2]; rfl, (((Below.refl _ _).alloc (Nat.le_refl _) _).alloc (by simp) _).trans (hb.mono (by omega)), by have := hb.size; simp at this; omega⟩
set_option maxHeartbeats 1000000 in
theorem imgCheck_any (s : IS) (i : ImgL) (w : World) (hI : ImgIn w s i) : Calls Tryz.prog 46 #[imgV s i] w (IntEnd w (errArg (imgB i))) := by
 obtain ⟨A1, c1, A2, c2, A3, c3⟩ := s
 have hn := hI.names_le
 have hm := hI.mods_le
 have ho := hI.order_le
 have HI := Lib.hid hI
 have HW := Lib.hid ((((Below.refl w.heap.size w).alloc (Nat.le_refl _) (.cells #[.slice A1 i.names.length c1, .slice A2 i.mods.length c2, .slice A3 i.order.length c3] 55)).alloc (by simp) (.cells #[.slice A2 i.mods.length c2, .slice A3 i.order.length c3] 25)))
 clear hI
 unfold imgV
 go_enter Tryz.func46, Tryz.ntmps46
 go_wp2_with fail
 refine (check_any A2 A3 c2 c3 i.mods i.order hm ho _ (HI.out.mods.later HW.out (Nat.le_refl _)) (HI.out.order.later HW.out (Nat.le_refl _))).mono ?_
 rintro e w1 ⟨k, rfl, hb⟩
 simp only [World.size_alloc] at hb
 obtain ⟨a0, a1, a2, p0, p1, hbw, hsz⟩ := box32 hb
 clear hb
 cases hq : checkB i.mods i.order
 ·have HX := Lib.hid (imgB_check hq)
  rw [show errMod false = 200 from rfl]
  go_wp2_with fail
  go_ret
  exact intEnd_of (errArg_false HX.out) hbw
 have HC := Lib.hid hq
 rw [show errMod true = 0 from rfl]
 clear hq
 by_cases h1 : i.names.length = i.mods.length
 case neg =>
  have HX := Lib.hid (imgB_len1 h1)
  have d1 : ((i.names.length : Int) == (i.mods.length : Int)) = false := by simp; omega
  have d2 : (i.names.length == i.mods.length) = false := by simpa using h1
  have d3 : ((i.names.length : Int) != (i.mods.length : Int)) = true := by simp; omega
  clear h1
  go_wp2_with fail
  go_ret
  exact intEnd_of (errArg_false HX.out) hbw
 by_cases h2 : i.order.length = i.mods.length
 case neg =>
  have HX := Lib.hid (imgB_len2 h2)
  have d1 : ((i.names.length : Int) == (i.mods.length : Int)) = true := by simp; omega
  have d2 : (i.names.length == i.mods.length) = true := by simpa using h1
  have d3 : ((i.names.length : Int) != (i.mods.length : Int)) = false := by simp; omega
  have e1 : ((i.order.length : Int) == (i.mods.length : Int)) = false := by simp; omega
  have e2 : (i.order.length == i.mods.length) = false := by simpa using h2
  have e3 : ((i.order.length : Int) != (i.mods.length : Int)) = true := by simp; omega
  clear h1 h2
  go_wp2_with fail
  go_ret
  exact intEnd_of (errArg_false HX.out) hbw
 have d1 : ((i.names.length : Int) == (i.mods.length : Int)) = true := by simp; omega
 have d2 : (i.names.length == i.mods.length) = true := by simpa using h1
 have d3 : ((i.names.length : Int) != (i.mods.length : Int)) = false := by simp; omega
 have e1 : ((i.order.length : Int) == (i.mods.length : Int)) = true := by simp; omega
 have e2 : (i.order.length == i.mods.length) = true := by simpa using h2
 have e3 : ((i.order.length : Int) != (i.mods.length : Int)) = false := by simp; omega
 have hle : i.names.length ≤ i.order.length := by omega
 have H1 := Lib.hid h1
 have H2 := Lib.hid h2
 clear h1 h2
 have hmm := @run_makeMap Tryz.prog
 have hsz0 : w.heap.size < w1.heap.size := by omega
 go_wp2_with fail
 clear hmm d1 d2 d3 e1 e2 e3
 have HNs := Lib.hid (HI.out.names.later hbw (Nat.le_refl _))
 have HOs := Lib.hid (HI.out.order.later hbw (Nat.le_refl _))
 go_loopg [40] (i.names.length) (fun g v wr => ∃ k : Nat, k + g = i.names.length ∧ v = .int .i64 k ∧ (i.names.take k).all nameB = true ∧ (i.names.take k).Nodup ∧ OrdTo i.order k ∧ SeenAt wr w1.heap.size strKey (i.names.take k) ∧ Below w1.heap.size w1 wr)
 case atStart => exact ⟨0, by omega, rfl, rfl, List.nodup_nil, fun j hj => by omega, SeenAt.new w1 strKey, alloc_below w1 _⟩
 case round =>
  obtain ⟨k, hk, rfl, hall, hnd, hord, hseen, hb2⟩ := hrel
  have HA := Lib.hid hall
  have HN := Lib.hid hnd
  have HR := Lib.hid hord
  have HSe := Lib.hid hseen
  have HB2 := Lib.hid hb2
  have HF2 := Lib.hid (hbw.trans (hb2.mono (by omega)))
  clear hall hnd hseen hord
  by_cases hlt : k < i.names.length
  ·obtain ⟨b, off, hA1, hbl, c0, hsl⟩ := Each.at_ (HNs.out.later hb2 (Nat.le_refl _)) hlt
   obtain ⟨b', off', hA3, hbl', c9⟩ := Each.at_ (HOs.out.later hb2 (Nat.le_refl _)) (j := k) (by omega)
   have f3 := (hb2.cell (p := ⟨w.heap.size + 1, 1, none⟩) (by show w.heap.size + 1 < w1.heap.size; omega)).trans p1
   clear a0 a1 a2 p0 p1 hb2
   have HS := Lib.hid (all_take_succ nameB i.names k [] hlt)
   have HF := Lib.hid (all_false_at nameB i.names k [] hlt)
   have HD := Lib.hid (not_nodup_at i.names k [] hlt)
   have HNN := Lib.hid (nodup_take_succ i.names k [] hlt)
   have HOr := Lib.hid (ordTo_succ (o := i.order) (k := k) HR.out)
   have HNo := Lib.hid (not_ord (o := i.order) (k := k) (by omega))
   have HTK := Lib.hid (show i.names.take (k + 1) = i.names.take k ++ [i.names.getD k []] by rw [List.take_succ_eq_append_getElem hlt]; simp [List.getD_eq_getElem?_getD, hlt])
   generalize i.names.getD k [] = x at *
   generalize i.order.getD k 0 = y at *
   subst hA1 hA3
   have hkI : (k : Int) < (i.names.length : Int) := by omega
   have hkI2 : (k : Int) < (i.order.length : Int) := by omega
   rw [Nat.mul_one] at c0 c9
   have hlook := look_str wr w1.heap.size (i.names.take k) HSe.out x
   cases hq : nameB x
   ·go_wp2_with (first | (go_at_call 113; refine (name_any _ hsl _).mono ?_; rintro e w' ⟨rfl, rfl⟩))
    go_ret
    exact intEnd_of (errArg_false (imgB_name (HF.out hq))) HF2.out
   by_cases hx : x ∈ i.names.take k
   ·rw [if_pos hx] at hlook
    have HX := Lib.hid hx
    clear hx
    go_wp2_with (first | (go_at_call 113; refine (name_any _ hsl _).mono ?_; rintro e w' ⟨rfl, rfl⟩))
    go_ret
    exact intEnd_of (errArg_false (imgB_dup (HD.out HX.out))) HF2.out
   rw [if_neg hx] at hlook
   have HX := Lib.hid hx
   by_cases hy : y = (k : Int)
   ·have d1 : (y == (k : Int)) = true := by simpa using hy
    have d2 : (y != (k : Int)) = false := by simpa using hy
    have hput := put_str wr w1.heap.size (i.names.take k) HSe.out x hx
    have HP := Lib.hid (seen_put_at HSe.out x)
    have HY := Lib.hid hy
    clear hx hy
    go_wp2_with (first | (go_at_call 113; refine (name_any _ hsl _).mono ?_; rintro e w' ⟨rfl, rfl⟩))
    go_roundg (gk - 1)
    case measure => omega
    case rel => exact ⟨k + 1, by omega, by go_num, by rw [HS.out, HA.out, hq]; rfl, HNN.out.2 ⟨HN.out, HX.out⟩, HOr.out HY.out, by rw [HTK.out]; exact HP.out, putSeen_below HB2.out (Nat.le_refl _)⟩
   ·have d1 : (y == (k : Int)) = false := by simpa using hy
    have d2 : (y != (k : Int)) = true := by simpa using hy
    have HY := Lib.hid hy
    clear hx hy
    go_wp2_with (first | (go_at_call 113; refine (name_any _ hsl _).mono ?_; rintro e w' ⟨rfl, rfl⟩))
    go_ret
    exact intEnd_of (errArg_false (imgB_ord (HNo.out HY.out))) HF2.out
  ·obtain rfl : k = i.names.length := by omega
   have HA2 := Lib.hid (show i.names.all nameB = true by have := HA.out; rwa [List.take_length] at this)
   have HN2 := Lib.hid (show i.names.Nodup by have := HN.out; rwa [List.take_length] at this)
   clear HA HN hb2
   go_wp2_with fail
   go_ret
   exact intEnd_of (by rw [imgB_ok HC.out H1.out H2.out HA2.out HN2.out HR.out]; rfl) HF2.out
end Go.Proofs.YtabenhpjgjjgnaaGreatDoor
