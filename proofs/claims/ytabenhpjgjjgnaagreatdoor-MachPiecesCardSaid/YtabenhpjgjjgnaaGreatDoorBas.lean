/- A new machine. -/
import Derived.Test.YtabenhpjgjjgnaaGreatDoorBar
namespace Go.Proofs.YtabenhpjgjjgnaaGreatDoor
open Go.RowKit
set_option maxRecDepth 100000
def dataL (a : Int) : List ModL → List Int
 | [] => []
 | m :: l => a :: dataL (a + m.data) l
def firstL (a : Int) : List ModL → List Int
 | [] => []
 | m :: l => a :: firstL (a + m.procs.length) l
def sumP : List ModL → Int
 | [] => 0
 | m :: l => m.procs.length + sumP l
theorem dataL_snoc (l : List ModL) (m : ModL) : ∀ a, dataL a (l ++ [m]) = dataL a l ++ [a + sumD l] := by
 induction l with
 | nil => intro a; simp [dataL, sumD]
 | cons x l ih => intro a; simp [dataL, sumD, ih, Int.add_assoc]
theorem firstL_snoc (l : List ModL) (m : ModL) : ∀ a, firstL a (l ++ [m]) = firstL a l ++ [a + sumP l] := by
 induction l with
 | nil => intro a; simp [firstL, sumP]
 | cons x l ih => intro a; simp [firstL, sumP, ih, Int.add_assoc]
theorem sumD_snoc (l : List ModL) (m : ModL) : sumD (l ++ [m]) = sumD l + m.data := by
 induction l with
 | nil => simp [sumD]
 | cons x l ih => simp [sumD, ih, Int.add_assoc]
theorem sumP_snoc (l : List ModL) (m : ModL) : sumP (l ++ [m]) = sumP l + m.procs.length := by
 induction l with
 | nil => simp [sumP]
 | cons x l ih => simp [sumP, ih, Int.add_assoc]
theorem dataL_len (l : List ModL) : ∀ a, (dataL a l).length = l.length := by
 induction l with
 | nil => intro a; rfl
 | cons x l ih => intro a; simp [dataL, ih]
theorem firstL_len (l : List ModL) : ∀ a, (firstL a l).length = l.length := by
 induction l with
 | nil => intro a; rfl
 | cons x l ih => intro a; simp [firstL, ih]
theorem take_nxt {α : Type} (l : List α) (d : α) (j : Nat) (h : j < l.length) : l.take (j + 1) = l.take j ++ [l.getD j d] := by
 rw [List.take_succ_eq_append_getElem h, List.getD_eq_getElem?_getD, List.getElem?_eq_getElem h, Option.getD_some]
theorem dataL_get : ∀ (l : List ModL) (j : Nat) (_ : j < l.length) (a : Int), (dataL a l).getD j 0 = a + sumD (l.take j)
 | [], j, h, _ => by simp at h
 | x :: l, 0, _, a => by simp [dataL, sumD]
 | x :: l, j + 1, h, a => by
   have := dataL_get l j (by simpa using h) (a + x.data)
   simp only [dataL, List.getD_cons_succ, List.take_succ_cons, sumD]
   omega
theorem sum_le {l : List ModL} (h : ∀ m ∈ l, (0 ≤ m.data ∧ m.data ≤ 65535) ∧ m.procs.length ≤ 1024) : (0 ≤ sumD l ∧ sumD l ≤ 65535 * l.length) ∧ (0 ≤ sumP l ∧ sumP l ≤ 1024 * l.length) := by
 induction l with
 | nil => simp [sumD, sumP]
 | cons x l ih =>
   obtain ⟨⟨h1, h2⟩, h3⟩ := h x (List.mem_cons_self ..)
   have := ih (fun m hm => h m (List.mem_cons_of_mem _ hm))
   simp only [sumD, sumP, List.length_cons]
   omega
theorem check_mods {ms : List ModL} {o : List Int} (h : checkB ms o = true) : (1 ≤ ms.length ∧ ms.length ≤ 64) ∧ ∀ m ∈ ms, ((0 ≤ m.data ∧ m.data ≤ 65535) ∧ m.procs.length ≤ 1024) ∧ m.imports.length ≤ 255 ∧ (m.init.length : Int) ≤ m.data := by
 unfold checkB at h
 simp only [Bool.and_eq_true] at h
 have h0 := h.1.1.1
 unfold withinB at h0
 simp only [Bool.and_eq_true, decide_eq_true_eq] at h0
 refine ⟨by omega, fun m hm => ?_⟩
 have h1 := List.all_eq_true.1 h.1.1.2 _ hm
 unfold modB headB withinB at h1
 simp only [Bool.and_eq_true, Bool.not_eq_true', decide_eq_false_iff_not, decide_eq_true_eq] at h1
 omega
def Dis (u v : Value) : Prop := u.ownBlock = none ∨ u.ownBlock ≠ v.ownBlock
theorem dis_symm' {u v : Value} (h : Dis u v) : v.ownBlock = none ∨ v.ownBlock ≠ u.ownBlock := by
 rcases h with h | h
 ·cases hv : v.ownBlock with
  | none => exact .inl rfl
  | some k => exact .inr (by rw [h]; simp)
 ·exact .inr (fun e => h e.symm)
theorem Dis.symm {u v : Value} (h : Dis u v) : v.ownBlock = none ∨ v.ownBlock ≠ u.ownBlock := dis_symm' h
theorem dis_place {u u' v : Value} {n : Nat} (h : Dis u v) (hp : u'.ownBlock = u.ownBlock ∨ u'.ownBlock = some n) (hv : ∀ k, v.ownBlock = some k → k < n) : Dis u' v := by
 rcases hp with e | e
 ·unfold Dis; rw [e]; exact h
 ·refine .inr (fun e' => ?_)
  have := hv n (by rw [← e', e])
  omega
theorem dis_place' {u v v' : Value} {n : Nat} (h : Dis u v) (hp : v'.ownBlock = v.ownBlock ∨ v'.ownBlock = some n) (hu : ∀ k, u.ownBlock = some k → k < n) : Dis u v' := by
 rcases hp with e | e
 ·unfold Dis; rw [e]; exact h
 ·refine .inr (fun e' => ?_)
  have := hu n (by rw [e', e])
  omega
theorem src_one8 {w : World} {g : Nat} (x : Int) (h : w.cell? ⟨g, 0, none⟩ = some (.int .i64 x)) : Src Tryz.prog 1 23 (.slice (some ⟨g, 0, none⟩) 1 1) 1 [.int .i64 x] w :=
 Src.ofSlice _ Tryz.underlying23 ⟨g, 0, none⟩ 1 1 [.int .i64 x] rfl (fun j u hj => by
  match j, hj with
  | 0, hj => cases hj; exact h
  | j + 1, hj => simp at hj) (fun u hu => by simp at hu; subst hu; rfl)
def mcellG (tm : Value) (A4 : Option Addr) (ml c4 : Nat) (A5 : Option Addr) (ol c5 : Nat) (me he d f : Value) (lo hi : Int) : Array Value := #[tm, .slice A4 ml c4, .slice A5 ol c5, me, he, d, f, .int .i64 lo, .int .i64 hi, .int .i64 0, .int .i64 0, .int .i64 0, .int .i64 0, .int .i64 0, .int .i64 0, .int .i64 0, .slice none 0 0, .int .i64 0, .int .u8 0, .int .u8 0, .int .i64 0]
def L1G (ms : List ModL) (o : List Int) (w3 : World) (b : Nat) (A4 : Option Addr) (c4 : Nat) (A5 : Option Addr) (c5 : Nat) (g : Nat) (x y z : Value) (wr : World) : Prop :=
 ∃ (j m : Nat) (vd vf : Value), x = .int .i64 (1 + sumD (ms.take j)) ∧ y = .int .i64 (1 + sumP (ms.take j)) ∧ z = .int .i64 (j : Nat) ∧ j + m = ms.length ∧ m ≤ g ∧ Below b w3 wr ∧
   Bx b (mcellG (.pointer none) A4 ms.length c4 A5 o.length c5 (.pointer none) (.pointer none) vd vf 0 0) 81 wr ∧
   wr.ownsRow (b + 1) 3 1 vd j ((dataL 1 (ms.take j)).flatMap intCells8) ∧ wr.ownsRow (b + 1) 3 1 vf j ((firstL 1 (ms.take j)).flatMap intCells8) ∧ Dis vd vf
set_option maxHeartbeats 8000000 in
theorem new_rows (bs0 : List Nat) (A2 A3 : Option Addr) (c2 c3 : Nat) (ms : List ModL) (o : List Int) (hck : checkB ms o = true) (hol : o.length ≤ 1000) (st hp out : Int) (hst0 : -9223372036854775808 ≤ st) (hst1 : st ≤ 9223372036854775807) (hhp0 : -9223372036854775808 ≤ hp) (hhp1 : hp ≤ 9223372036854775807) (hou0 : -9223372036854775808 ≤ out) (hou1 : out ≤ 9223372036854775807) (inp : List UInt8) (hil : inp.length ≤ 1000000) (W : World) (hb0 : ∀ x ∈ bs0, x < W.heap.size) (hMm : Mods (mask bs0 W) A2 ms) (hO : Ints W A3 o) (R : Ending → World → Prop)
 (hrest : ∀ e w', NewAll bs0 ms o (dataL 1 ms) (firstL 1 ms) st hp out inp W e w' → R e w') :
 Calls Tryz.prog 8 #[.agg #[.slice A2 ms.length c2, .slice A3 o.length c3], .agg #[.int .i64 st, .int .i64 hp, .int .i64 out], .string ⟨inp.toArray⟩] W R := by
 obtain ⟨⟨hms0, hms1⟩, hmm⟩ := check_mods hck
 have HB0 := Lib.hid (show Below W.heap.size W ((W.alloc (.cells #[.slice A2 ms.length c2, .slice A3 o.length c3] 25)).alloc (.cells #[.int .i64 st, .int .i64 hp, .int .i64 out] 27)) from ((Below.refl _ _).alloc (Nat.le_refl _) _).alloc (by simp) _)
 have HX0 := Lib.hid (Bx.grow (Bx.new W #[.slice A2 ms.length c2, .slice A3 o.length c3] 25) (alloc_below _ (.cells #[.int .i64 st, .int .i64 hp, .int .i64 out] 27)))
 have HY0 := Lib.hid (show Bx (W.heap.size + 1) #[.int .i64 st, .int .i64 hp, .int .i64 out] 27 ((W.alloc (.cells #[.slice A2 ms.length c2, .slice A3 o.length c3] 25)).alloc (.cells #[.int .i64 st, .int .i64 hp, .int .i64 out] 27)) by simpa using Bx.new (W.alloc (.cells #[.slice A2 ms.length c2, .slice A3 o.length c3] 25)) #[.int .i64 st, .int .i64 hp, .int .i64 out] 27)
 have hM : Mods W A2 ms := hMm.reads (mask_reads _ _)
 have HM := Lib.hid hM
 have HMM0 := Lib.hid hMm
 have HO := Lib.hid hO
 have HL0 := Lib.hid hb0
 have HRest := Lib.hid hrest
 clear hrest hMm hb0
 have HCK := Lib.hid hck
 have HMM := Lib.hid hmm
 clear hM hO hck hmm
 go_enter Tryz.func8, Tryz.ntmps8
 go_wp2_with fail
 generalize World.alloc _ _ = w0 at *
 refine (check_any _ A3 c2 c3 ms o (by omega) (by omega) _ (HM.out.later HB0.out (Nat.le_refl _)) (HO.out.later HB0.out (Nat.le_refl _))).mono ?_
 rintro e w1 ⟨k1, rfl, hb1⟩
 rw [show errMod (checkB ms o) = 0 by rw [HCK.out]; rfl]
 have HB1 := Lib.hid (HB0.out.trans (hb1.mono HB0.out.size))
 have HX1 := Lib.hid (HX0.out.grow hb1)
 have HY1 := Lib.hid (HY0.out.grow hb1)
 clear hb1 HB0 HX0 HY0
 have x0 : w1.cell? ⟨W.heap.size, 0, none⟩ = some (.slice A2 ms.length c2) := (HX1.out.cell 0).trans rfl
 have x1 : w1.cell? ⟨W.heap.size, 1, none⟩ = some (.slice A3 o.length c3) := (HX1.out.cell 1).trans rfl
 go_wp2_with fail
 refine (own_any bs0 _ A3 c2 c3 ms o hms1 hol (fun m hm => (HMM.out m hm).1.2) (fun m hm => (HMM.out m hm).2.1) _ (fun x hx => Nat.lt_of_lt_of_le (HL0.out x hx) HB1.out.size) (HMM0.out.later (mask_same HB1.out (Nat.le_refl _)) (by rw [mask_size]; exact Nat.le_refl _)) (HO.out.later HB1.out (Nat.le_refl _))).mono ?_
 rintro e w2 ⟨A4, c4, A5, c5, rfl, hM2, hO2, hb2⟩
 have HB2 := Lib.hid (HB1.out.trans (hb2.mono HB1.out.size))
 have HX2 := Lib.hid (HX1.out.grow hb2)
 have HY2 := Lib.hid (HY1.out.grow hb2)
 have HM2 := Lib.hid hM2
 have HO2 := Lib.hid hO2
 clear hb2 hM2 hO2 x0 x1 HB1 HX1 HY1 HO
 have x0 : w2.cell? ⟨W.heap.size, 0, none⟩ = some (.slice A2 ms.length c2) := (HX2.out.cell 0).trans rfl
 have xl := HX2.out.lt
 go_wp2_with fail
 have HQ3 := Lib.hid (Bx.new w2 (mcellG (.pointer none) A4 ms.length c4 A5 o.length c5 (.pointer none) (.pointer none) (.slice none 0 0) (.slice none 0 0) 0 0) 81)
 have HA3 := Lib.hid (alloc_below w2 (.cells (mcellG (.pointer none) A4 ms.length c4 A5 o.length c5 (.pointer none) (.pointer none) (.slice none 0 0) (.slice none 0 0) 0 0) 81))
 have HL3 := Lib.hid (show (w2.alloc (.cells (mcellG (.pointer none) A4 ms.length c4 A5 o.length c5 (.pointer none) (.pointer none) (.slice none 0 0) (.slice none 0 0) 0 0) 81)).heap.size = w2.heap.size + 1 by simp)
 have HB3 := Lib.hid (HB2.out.trans (HA3.out.mono HB2.out.size))
 have HX3 := Lib.hid (HX2.out.grow HA3.out)
 have HY3 := Lib.hid (HY2.out.grow HA3.out)
 have hYb : W.heap.size + 1 < w2.heap.size := HY2.out.lt
 have HB23 := Lib.hid HA3.out
 clear HA3 HX2 HY2 x0 HB2
 change Code.wp _ _ _ _ (w2.alloc (.cells (mcellG (.pointer none) A4 ms.length c4 A5 o.length c5 (.pointer none) (.pointer none) (.slice none 0 0) (.slice none 0 0) 0 0) 81))
 generalize w2.alloc _ = w3 at *
 generalize hS2 : w2.heap.size = b at *
 replace hS2 := Lib.hid hS2
 go_loopg [11, 12, 36] (ms.length) (L1G ms o w3 b A4 c4 A5 c5)
 case atStart => exact ⟨0, ms.length, _, _, rfl, rfl, rfl, by omega, Nat.le_refl _, Below.refl _ _, HQ3.out, ⟨rfl, .inl ⟨rfl, rfl⟩⟩, ⟨rfl, .inl ⟨rfl, rfl⟩⟩, .inl rfl⟩
 case round =>
  obtain ⟨j, m, vd, vf, rfl, rfl, rfl, hj, hmg, hbr, hq, hod, hof, hds⟩ := hrel
  cases m with
  | succ m =>
    have hjl : j < ms.length := by omega
    have d00 : (j : Int) < (ms.length : Int) := by omega
    have HBr := Lib.hid (HB3.out.trans (hbr.mono (by omega)))
    obtain ⟨b0, of, rfl, hb, s, hI, d0, d1, d2, d3, d4⟩ := HM.out.at_ (j := j) hjl
    have hmem := getD_mem' ms j default hjl
    have hmf := HMM.out _ hmem
    have HSD := Lib.hid (sum_le (l := ms.take j) (fun m hm => (HMM.out m (List.mem_of_mem_take hm)).1))
    have HTK := Lib.hid (show (ms.take j).length = j by rw [List.length_take]; omega)
    have HTN := Lib.hid (take_next ms j hjl)
    have HJ := Lib.hid hj
    have hjm : j ≤ 64 := by omega
    have HNX := Lib.hid (show 1 + sumD (ms.take (j + 1)) = 1 + sumD (ms.take j) + (ms.getD j default).data ∧ 1 + sumP (ms.take (j + 1)) = 1 + sumP (ms.take j) + (ms.getD j default).procs.length ∧ (dataL 1 (ms.take j) ++ [1 + sumD (ms.take j)]) = dataL 1 (ms.take (j + 1)) ∧ (firstL 1 (ms.take j) ++ [1 + sumP (ms.take j)]) = firstL 1 (ms.take (j + 1)) by
     rw [take_next ms j hjl, sumD_snoc, sumP_snoc, dataL_snoc, firstL_snoc]
     exact ⟨by omega, by omega, rfl, rfl⟩)
    generalize ms.getD j default = mj at *
    have HMD := Lib.hid hmf.1.1
    have HMP := Lib.hid (show (mj.procs.length : Int) ≤ 1024 by have := hmf.1.2; omega)
    have hb2 : b0 < w3.heap.size := by have := HB3.out.size; omega
    have HB3r := Lib.hid hbr
    have d0 := (HBr.out.cell (p := ⟨b0, of + j * 5, none⟩) hb).trans d0
    have d1 := (HBr.out.cell (p := ⟨b0, of + j * 5 + 1, none⟩) hb).trans d1
    have d2 := (HBr.out.cell (p := ⟨b0, of + j * 5 + 2, none⟩) hb).trans d2
    have d3 := (HBr.out.cell (p := ⟨b0, of + j * 5 + 3, none⟩) hb).trans d3
    have d4 := (HBr.out.cell (p := ⟨b0, of + j * 5 + 4, none⟩) hb).trans d4
    have ql := hq.lt
    have hb0r : b0 < wr.heap.size := by have := HBr.out.size; omega
    have HQ := Lib.hid hq
    have HVD := Lib.hid (fun k (hk : vd.ownBlock = some k) => (Own8.own_lt hod hk).2)
    have HVF := Lib.hid (fun k (hk : vf.ownBlock = some k) => (Own8.own_lt hof hk).2)
    have HOD := Lib.hid hod
    have HOF := Lib.hid hof
    have HDS := Lib.hid hds
    clear hq hbr hod hof hds hI hj hmf
    go_wp2_with fail
    have HAm := Lib.hid ((alloc_below wr (.cells #[.string ⟨mj.code.toArray⟩, .slice s.A1 mj.procs.length s.c1, .slice s.A2 mj.imports.length s.c2, .int .i64 mj.data, .slice s.A3 mj.init.length s.c3] 68)).trans ((drew_below (wr.alloc (.cells #[.string ⟨mj.code.toArray⟩, .slice s.A1 mj.procs.length s.c1, .slice s.A2 mj.imports.length s.c2, .int .i64 mj.data, .slice s.A3 mj.init.length s.c3] 68))).mono (by simp)))
    have HZ0 := Lib.hid (HQ.out.grow HAm.out)
    have HBc0 := Lib.hid (HB3r.out.trans (HAm.out.mono (by omega)))
    have HM0 := Lib.hid (show Bx wr.heap.size #[.string ⟨mj.code.toArray⟩, .slice s.A1 mj.procs.length s.c1, .slice s.A2 mj.imports.length s.c2, .int .i64 mj.data, .slice s.A3 mj.init.length s.c3] 68 (wr.alloc (.cells #[.string ⟨mj.code.toArray⟩, .slice s.A1 mj.procs.length s.c1, .slice s.A2 mj.imports.length s.c2, .int .i64 mj.data, .slice s.A3 mj.init.length s.c3] 68)).drew from (Bx.new wr _ _).grow (drew_below _))
    have HD0 := Lib.hid (K16.own_later HOD.out HAm.out)
    have HF0 := Lib.hid (K16.own_later HOF.out HAm.out)
    have HS0 := Lib.hid (show b < (wr.alloc (.cells #[.string ⟨mj.code.toArray⟩, .slice s.A1 mj.procs.length s.c1, .slice s.A2 mj.imports.length s.c2, .int .i64 mj.data, .slice s.A3 mj.init.length s.c3] 68)).drew.heap.size from HZ0.out.lt)
    have hqb : wr.heap.size ≠ b := by omega
    have HXD := Lib.hid (show 0 ≤ 1 + sumD (ms.take j) ∧ 1 + sumD (ms.take j) ≤ 10000000 by have := HSD.out; have := HTK.out; omega)
    have HXF := Lib.hid (show 0 ≤ 1 + sumP (ms.take j) ∧ 1 + sumP (ms.take j) ≤ 10000000 by have := HSD.out; have := HTK.out; omega)
    clear d0 d1 d2 d3 d4 ql HBr HB3r HQ HSD HTK
    generalize 1 + sumD (ms.take j) = xd at *
    generalize 1 + sumP (ms.take j) = xf at *
    refine wp_region_M (fun W => Bx b (mcellG (.pointer none) A4 ms.length c4 A5 o.length c5 (.pointer none) (.pointer none) vd vf 0 0) 81 W) (fun _ => True) [18, 21] (by kernel_rfl) ?_
    generalize (wr.alloc (.cells #[.string ⟨mj.code.toArray⟩, .slice s.A1 mj.procs.length s.c1, .slice s.A2 mj.imports.length s.c2, .int .i64 mj.data, .slice s.A3 mj.init.length s.c3] 68)).drew = W0 at *
    refine M_take2 (i := 0) (v := ?_) rfl (by kernel_rfl) (by kernel_rfl) (by kernel_rfl) (by kernel_rfl) (fun _ _ _ h => h) (Or.inl ⟨by rfl, ?_⟩) HZ0.out trivial ?_
    rotate_left 1
    ·intro w9 hS9
     go_simp
     try with_reducible rfl
    try simp only [Act.put]
    try simp only [List.setIfInBounds_toArray]
    refine M_take2 (i := 1) (v := ?_) rfl (by kernel_rfl) (by kernel_rfl) (by kernel_rfl) (by kernel_rfl) (fun _ _ _ h => h) (Or.inl ⟨by rfl, ?_⟩) HZ0.out trivial ?_
    rotate_left 1
    ·intro w9 hS9
     go_simp
     try with_reducible rfl
    try simp only [Act.put]
    try simp only [List.setIfInBounds_toArray]
    refine M_take2 (i := 2) (v := ?_) rfl (by kernel_rfl) (by kernel_rfl) (by kernel_rfl) (by kernel_rfl) (fun _ _ _ h => h) (Or.inl ⟨by rfl, ?_⟩) HZ0.out trivial ?_
    rotate_left 1
    ·intro w9 hS9
     go_simp
     try with_reducible rfl
    try simp only [Act.put]
    try simp only [List.setIfInBounds_toArray]
    refine M_take2 (i := 3) (v := ?_) rfl (by kernel_rfl) (by kernel_rfl) (by kernel_rfl) (by kernel_rfl) (fun _ _ _ h => h) (Or.inl ⟨by rfl, ?_⟩) HZ0.out trivial ?_
    rotate_left 1
    ·intro w9 hS9
     go_simp
     try with_reducible rfl
    try simp only [Act.put]
    try simp only [List.setIfInBounds_toArray]
    refine M_take2 (i := 4) (v := ?_) rfl (by kernel_rfl) (by kernel_rfl) (by kernel_rfl) (by kernel_rfl) (fun _ _ _ h => h) (Or.inl ⟨by rfl, ?_⟩) HZ0.out trivial ?_
    rotate_left 1
    ·intro w9 hS9
     go_simp
     try with_reducible rfl
    try simp only [Act.put]
    try simp only [List.setIfInBounds_toArray]
    refine M_take (i := 5) (v := ?_) rfl (by kernel_rfl) (by kernel_rfl) (by kernel_rfl) (by kernel_rfl) (by kernel_rfl) (fun _ _ _ h => h) (Or.inl ⟨by rfl, ?_⟩) HZ0.out trivial ?_
    rotate_left 1
    ·intro w9 hS9
     have l5 : w9.cell? ⟨b, 5, none⟩ = some vd := (Bx.cell hS9 5).trans rfl
     go_simp
     try with_reducible rfl
    try simp only [Act.put]
    try simp only [List.setIfInBounds_toArray]
    refine M_take2 (i := 6) (v := ?_) rfl (by kernel_rfl) (by kernel_rfl) (by kernel_rfl) (by kernel_rfl) (fun _ _ _ h => h) (Or.inl ⟨by rfl, ?_⟩) HZ0.out trivial ?_
    rotate_left 1
    ·intro w9 hS9
     go_simp
     try with_reducible rfl
    try simp only [Act.put]
    try simp only [List.setIfInBounds_toArray]
    refine M_take2 (i := 9) (v := ?_) rfl (by kernel_rfl) (by kernel_rfl) (by kernel_rfl) (by kernel_rfl) (fun _ _ _ h => h) (Or.inl ⟨by rfl, ?_⟩) HZ0.out trivial ?_
    rotate_left 1
    ·intro w9 hS9
     go_simp
     try with_reducible rfl
    try simp only [Act.put]
    try simp only [List.setIfInBounds_toArray]
    refine M_take2 (i := 10) (v := ?_) rfl (by kernel_rfl) (by kernel_rfl) (by kernel_rfl) (by kernel_rfl) (fun _ _ _ h => h) (Or.inl ⟨by rfl, ?_⟩) HZ0.out trivial ?_
    rotate_left 1
    ·intro w9 hS9
     go_simp
     try with_reducible rfl
    try simp only [Act.put]
    try simp only [List.setIfInBounds_toArray]
    refine M_take2 (i := 11) (v := ?_) rfl (by kernel_rfl) (by kernel_rfl) (by kernel_rfl) (by kernel_rfl) (fun _ _ _ h => h) (Or.inl ⟨by rfl, ?_⟩) HZ0.out trivial ?_
    rotate_left 1
    ·intro w9 hS9
     go_simp
     try with_reducible rfl
    try simp only [Act.put]
    try simp only [List.setIfInBounds_toArray]
    refine M_take (i := 12) (v := ?_) rfl (by kernel_rfl) (by kernel_rfl) (by kernel_rfl) (by kernel_rfl) (by kernel_rfl) (fun _ _ _ h => h) (Or.inl ⟨by rfl, ?_⟩) HZ0.out trivial ?_
    rotate_left 1
    ·intro w9 hS9
     have l5 : w9.cell? ⟨b, 6, none⟩ = some vf := (Bx.cell hS9 6).trans rfl
     go_simp
     try with_reducible rfl
    try simp only [Act.put]
    try simp only [List.setIfInBounds_toArray]
    refine M_take2 (i := 13) (v := ?_) rfl (by kernel_rfl) (by kernel_rfl) (by kernel_rfl) (by kernel_rfl) (fun _ _ _ h => h) (Or.inl ⟨by rfl, ?_⟩) HZ0.out trivial ?_
    rotate_left 1
    ·intro w9 hS9
     go_simp
     try with_reducible rfl
    try simp only [Act.put]
    try simp only [List.setIfInBounds_toArray]
    refine M_all (rs := [7, 14]) (by kernel_rfl) (by simp) ?_
    intro j' hj'
    simp only [List.mem_cons, List.not_mem_nil, or_false] at hj'
    rcases hj' with rfl | rfl
    ·refine M_step rfl (by rfl) (fun K' hK => ?_)
     go_simp
     have HA1 := Lib.hid (alloc_below W0 (.cells #[.int .i64 xd] 3))
     have HZ1 := Lib.hid (HZ0.out.grow HA1.out)
     have HBc1 := Lib.hid (HBc0.out.trans (HA1.out.mono (by have := HS0.out; omega)))
     have HY7x1 := Lib.hid (Bx.new W0 #[.int .i64 xd] 3)
     have HGk7 := Lib.hid (show wr.heap.size < W0.heap.size from HM0.out.lt)
     have HM1 := Lib.hid (HM0.out.grow HA1.out)
     have HD1 := Lib.hid (K16.own_later HD0.out HA1.out)
     have HF1 := Lib.hid (K16.own_later HF0.out HA1.out)
     have HS1 := Lib.hid (show b < (W0.alloc (.cells #[.int .i64 xd] 3)).heap.size from HZ1.out.lt)
     refine hK.out _ _ trivial HZ1.out ?_
     try simp only [Act.put]
     try simp only [List.setIfInBounds_toArray]
     clear hK K'
     generalize W0.alloc _ = W1 at *
     generalize W0.heap.size = g7 at *
     refine M_all (rs := [8, 14]) (by kernel_rfl) (by simp) ?_
     intro j' hj'
     simp only [List.mem_cons, List.not_mem_nil, or_false] at hj'
     rcases hj' with rfl | rfl
     ·refine M_step rfl (by rfl) (fun K' hK => ?_)
      refine step_app etInts8 (by rfl) _ _ (by rfl) (b + 1) vd j ((dataL 1 (ms.take j)).flatMap intCells8) (by rfl) HD1.out _ 1 _ (by rfl) (src_one8 xd ((HY7x1.out.cell 0).trans rfl)) (by omega) (by unfold maxLen; omega) HS1.out ?_
      intro v2 W2 hA2
      obtain ⟨A8, c8, hv2⟩ := own_slice' hA2.own
      subst hv2
      have hb2 : some b ≠ vd.ownBlock := fun e => by have := (Own8.own_lt HD1.out e.symm).1; omega
      have hm2 : some wr.heap.size ≠ vd.ownBlock := fun e => by have := HVD.out _ e.symm; omega
      have HZ2 := Lib.hid (show Bx b _ _ W2 from (hA2.grown.block b HS1.out hb2).trans HZ1.out)
      have HBc2 := Lib.hid (hA2.below HBc1.out (Nat.le_of_lt HS1.out) HD1.out (Nat.le_succ _))
      have HM2 := Lib.hid (show Bx wr.heap.size _ _ W2 from (hA2.grown.block _ HM1.out.lt hm2).trans HM1.out)
      have HF2 := Lib.hid (HF1.out.kept hA2.grown (HDS.out.symm))
      have HDS2 := Lib.hid (dis_place HDS.out hA2.place (fun k hk => by have := HVF.out k hk; have := HM1.out.lt; omega))
      have HD2 := Lib.hid hA2.own
      have HS2 := Lib.hid (show b < W2.heap.size from HZ2.out.lt)
      clear hA2 hb2 hm2
      refine hK.out _ _ trivial HZ2.out ?_
      try simp only [Act.put]
      try simp only [List.setIfInBounds_toArray]
      clear hK K'
      refine M_all (rs := [14]) (by kernel_rfl) (by simp) ?_
      intro j' hj'
      simp only [List.mem_cons, List.not_mem_nil, or_false] at hj'
      subst hj'
      refine M_step rfl (by rfl) (fun K' hK => ?_)
      go_simp
      have HA3 := Lib.hid (alloc_below W2 (.cells #[.int .i64 xf] 3))
      have HZ3 := Lib.hid (HZ2.out.grow HA3.out)
      have HBc3 := Lib.hid (HBc2.out.trans (HA3.out.mono (by have := HS2.out; omega)))
      have HY14x3 := Lib.hid (Bx.new W2 #[.int .i64 xf] 3)
      have HGk14 := Lib.hid (show wr.heap.size < W2.heap.size from HM2.out.lt)
      have HM3 := Lib.hid (HM2.out.grow HA3.out)
      have HD3 := Lib.hid (K16.own_later HD2.out HA3.out)
      have HF3 := Lib.hid (K16.own_later HF2.out HA3.out)
      have HS3 := Lib.hid (show b < (W2.alloc (.cells #[.int .i64 xf] 3)).heap.size from HZ3.out.lt)
      refine hK.out _ _ trivial HZ3.out ?_
      try simp only [Act.put]
      try simp only [List.setIfInBounds_toArray]
      clear hK K'
      generalize W2.alloc _ = W3 at *
      generalize W2.heap.size = g14 at *
      refine M_all (rs := [15]) (by kernel_rfl) (by simp) ?_
      intro j' hj'
      simp only [List.mem_cons, List.not_mem_nil, or_false] at hj'
      subst hj'
      refine M_step rfl (by rfl) (fun K' hK => ?_)
      refine step_app etInts8 (by rfl) _ _ (by rfl) (b + 1) vf j ((firstL 1 (ms.take j)).flatMap intCells8) (by rfl) HF3.out _ 1 _ (by rfl) (src_one8 xf ((HY14x3.out.cell 0).trans rfl)) (by omega) (by unfold maxLen; omega) HS3.out ?_
      intro v4 W4 hA4
      obtain ⟨A15, c15, hv4⟩ := own_slice' hA4.own
      subst hv4
      have hb4 : some b ≠ vf.ownBlock := fun e => by have := (Own8.own_lt HF3.out e.symm).1; omega
      have hm4 : some wr.heap.size ≠ vf.ownBlock := fun e => by have := HVF.out _ e.symm; omega
      have HZ4 := Lib.hid (show Bx b _ _ W4 from (hA4.grown.block b HS3.out hb4).trans HZ3.out)
      have HBc4 := Lib.hid (hA4.below HBc3.out (Nat.le_of_lt HS3.out) HF3.out (Nat.le_succ _))
      have HM4 := Lib.hid (show Bx wr.heap.size _ _ W4 from (hA4.grown.block _ HM3.out.lt hm4).trans HM3.out)
      have HD4 := Lib.hid (HD3.out.kept hA4.grown HDS2.out)
      have HDS3 := Lib.hid (dis_place' HDS2.out hA4.place (fun k hk => (Own8.own_lt HD3.out hk).2))
      have HF4 := Lib.hid hA4.own
      have HS4 := Lib.hid (show b < W4.heap.size from HZ4.out.lt)
      clear hA4 hb4 hm4
      refine hK.out _ _ trivial HZ4.out ?_
      try simp only [Act.put]
      try simp only [List.setIfInBounds_toArray]
      clear hK K'
      refine M_take2 (i := 16) (v := ?_) rfl (by kernel_rfl) (by kernel_rfl) (by kernel_rfl) (by kernel_rfl) (fun _ _ _ h => h) (Or.inl ⟨by rfl, ?_⟩) HZ4.out trivial ?_
      rotate_left 1
      ·intro w9 hS9
       go_simp
       try with_reducible rfl
      try simp only [Act.put]
      try simp only [List.setIfInBounds_toArray]
      refine M_take2 (i := 17) (v := ?_) rfl (by kernel_rfl) (by kernel_rfl) (by kernel_rfl) (by kernel_rfl) (fun _ _ _ h => h) (Or.inl ⟨by rfl, ?_⟩) HZ4.out trivial ?_
      rotate_left 1
      ·intro w9 hS9
       go_simp
       try with_reducible rfl
      try simp only [Act.put]
      try simp only [List.setIfInBounds_toArray]
      have z5 : W4.cell? ⟨b, 5, none⟩ = some vd := (HZ4.out.cell 5).trans rfl
      have z6 : W4.cell? ⟨b, 6, none⟩ = some vf := (HZ4.out.cell 6).trans rfl
      have zf := HZ4.out.frozen
      have zl := HZ4.out.lt
      refine M_all (rs := [18]) (by kernel_rfl) (by simp) ?_
      intro j' hj'
      simp only [List.mem_cons, List.not_mem_nil, or_false] at hj'
      subst hj'
      refine M_late rfl (by rfl) (fun K' hK => ?_)
      go_simp
      refine hK.out _ _ trivial ?_
      try simp only [Act.put]
      try simp only [List.setIfInBounds_toArray]
      clear hK K'
      refine wpAnyH_ready (rs := [19]) (by kernel_rfl) (by simp) ?_
      refine AllReadyH.cons rfl (fun K' hK => ?_) AllReadyH.nil
      go_simp
      refine hK.out _ _ trivial (fun _ => ?_)
      try simp only [Act.put]
      try simp only [List.setIfInBounds_toArray]
      clear hK K'
      refine wpAnyH_ready (rs := [20]) (by kernel_rfl) (by simp) ?_
      refine AllReadyH.cons rfl (fun K' hK => ?_) AllReadyH.nil
      go_simp
      refine hK.out _ _ trivial (fun _ => ?_)
      try simp only [Act.put]
      try simp only [List.setIfInBounds_toArray]
      clear hK K'
      refine wpAnyH_ready (rs := [21]) (by kernel_rfl) (by simp) ?_
      refine AllReadyH.cons rfl (fun K' hK => ?_) AllReadyH.nil
      go_simp
      refine hK.out _ _ trivial (fun _ => ?_)
      try simp only [Act.put]
      try simp only [List.setIfInBounds_toArray]
      clear hK K'
      refine wpAnyH_done (by kernel_rfl) ?_ _
      have HE := Lib.hid (show Bx b (mcellG (.pointer none) A4 ms.length c4 A5 o.length c5 (.pointer none) (.pointer none) (.slice A8 (j + 1) c8) (.slice A15 (j + 1) c15) 0 0) 81 _ from ((HZ4.out.set 5 (.slice A8 (j + 1) c8)).set 6 (.slice A15 (j + 1) c15)).to rfl)
      have HEb := Lib.hid ((HBc4.out.setCell (p := ⟨b, 5, none⟩) (Nat.le_refl _) (.slice A8 (j + 1) c8)).setCell (p := ⟨b, 6, none⟩) (Nat.le_refl _) (.slice A15 (j + 1) c15))
      have HE8 := Lib.hid (Own8.own_set (Own8.own_set HD4.out (Nat.lt_succ_self _) 5 (.slice A8 (j + 1) c8)) (Nat.lt_succ_self _) 6 (.slice A15 (j + 1) c15))
      have HE9 := Lib.hid (Own8.own_set (Own8.own_set HF4.out (Nat.lt_succ_self _) 5 (.slice A8 (j + 1) c8)) (Nat.lt_succ_self _) 6 (.slice A15 (j + 1) c15))
      have HEm := Lib.hid (HM4.out.far (a := ⟨b, 5, none⟩) hqb (.slice A8 (j + 1) c8) |>.far (a := ⟨b, 6, none⟩) hqb (.slice A15 (j + 1) c15))
      generalize World.setCell _ _ _ = we at *
      have m1 : we.cell? ⟨wr.heap.size, 1, none⟩ = some (.slice s.A1 mj.procs.length s.c1) := (HEm.out.cell 1).trans rfl
      have m3 : we.cell? ⟨wr.heap.size, 3, none⟩ = some (.int .i64 mj.data) := (HEm.out.cell 3).trans rfl
      have ml := HEm.out.lt
      obtain ⟨hx0, hx1⟩ := HXD.out
      obtain ⟨hx2, hx3⟩ := HXF.out
      have hdI0 : 0 ≤ mj.data := HMD.out.1
      have hdI : mj.data ≤ 65535 := HMD.out.2
      have hpI : (mj.procs.length : Int) ≤ 1024 := HMP.out
      clear z5 z6 zf zl
      go_wp2_with fail
      go_roundg m
      case measure => omega
      case rel =>
       have hj := HJ.out
       exact ⟨j + 1, m, _, _, HNX.out.1 ▸ rfl, HNX.out.2.1 ▸ rfl, rfl, by omega, Nat.le_refl _, HEb.out, HE.out, HNX.out.2.2.1 ▸ (by simpa [intCells8] using HE8.out), HNX.out.2.2.2 ▸ (by simpa [intCells8] using HE9.out), HDS3.out⟩
     ·refine M_step rfl (by rfl) (fun K' hK => ?_)
      go_simp
      have HA2 := Lib.hid (alloc_below W1 (.cells #[.int .i64 xf] 3))
      have HZ2 := Lib.hid (HZ1.out.grow HA2.out)
      have HBc2 := Lib.hid (HBc1.out.trans (HA2.out.mono (by have := HS1.out; omega)))
      have HY14x2 := Lib.hid (Bx.new W1 #[.int .i64 xf] 3)
      have HGk14 := Lib.hid (show wr.heap.size < W1.heap.size from HM1.out.lt)
      have HM2 := Lib.hid (HM1.out.grow HA2.out)
      have HD2 := Lib.hid (K16.own_later HD1.out HA2.out)
      have HF2 := Lib.hid (K16.own_later HF1.out HA2.out)
      have HS2 := Lib.hid (show b < (W1.alloc (.cells #[.int .i64 xf] 3)).heap.size from HZ2.out.lt)
      have HY7x2 := Lib.hid (HY7x1.out.grow HA2.out)
      refine hK.out _ _ trivial HZ2.out ?_
      try simp only [Act.put]
      try simp only [List.setIfInBounds_toArray]
      clear hK K'
      generalize W1.alloc _ = W2 at *
      generalize W1.heap.size = g14 at *
      refine M_all (rs := [8]) (by kernel_rfl) (by simp) ?_
      intro j' hj'
      simp only [List.mem_cons, List.not_mem_nil, or_false] at hj'
      subst hj'
      refine M_step rfl (by rfl) (fun K' hK => ?_)
      refine step_app etInts8 (by rfl) _ _ (by rfl) (b + 1) vd j ((dataL 1 (ms.take j)).flatMap intCells8) (by rfl) HD2.out _ 1 _ (by rfl) (src_one8 xd ((HY7x2.out.cell 0).trans rfl)) (by omega) (by unfold maxLen; omega) HS2.out ?_
      intro v3 W3 hA3
      obtain ⟨A8, c8, hv3⟩ := own_slice' hA3.own
      subst hv3
      have hb3 : some b ≠ vd.ownBlock := fun e => by have := (Own8.own_lt HD2.out e.symm).1; omega
      have hm3 : some wr.heap.size ≠ vd.ownBlock := fun e => by have := HVD.out _ e.symm; omega
      have HZ3 := Lib.hid (show Bx b _ _ W3 from (hA3.grown.block b HS2.out hb3).trans HZ2.out)
      have HBc3 := Lib.hid (hA3.below HBc2.out (Nat.le_of_lt HS2.out) HD2.out (Nat.le_succ _))
      have HM3 := Lib.hid (show Bx wr.heap.size _ _ W3 from (hA3.grown.block _ HM2.out.lt hm3).trans HM2.out)
      have HY14x3 := Lib.hid (show Bx g14 _ _ W3 from (hA3.grown.block _ HY14x2.out.lt (fun e => by have h1 := HVD.out _ e.symm; have h2 := HGk14.out; omega)).trans HY14x2.out)
      have HF3 := Lib.hid (HF2.out.kept hA3.grown (HDS.out.symm))
      have HDS2 := Lib.hid (dis_place HDS.out hA3.place (fun k hk => by have := HVF.out k hk; have := HM2.out.lt; omega))
      have HD3 := Lib.hid hA3.own
      have HS3 := Lib.hid (show b < W3.heap.size from HZ3.out.lt)
      clear hA3 hb3 hm3
      refine hK.out _ _ trivial HZ3.out ?_
      try simp only [Act.put]
      try simp only [List.setIfInBounds_toArray]
      clear hK K'
      refine M_all (rs := [15]) (by kernel_rfl) (by simp) ?_
      intro j' hj'
      simp only [List.mem_cons, List.not_mem_nil, or_false] at hj'
      subst hj'
      refine M_step rfl (by rfl) (fun K' hK => ?_)
      refine step_app etInts8 (by rfl) _ _ (by rfl) (b + 1) vf j ((firstL 1 (ms.take j)).flatMap intCells8) (by rfl) HF3.out _ 1 _ (by rfl) (src_one8 xf ((HY14x3.out.cell 0).trans rfl)) (by omega) (by unfold maxLen; omega) HS3.out ?_
      intro v4 W4 hA4
      obtain ⟨A15, c15, hv4⟩ := own_slice' hA4.own
      subst hv4
      have hb4 : some b ≠ vf.ownBlock := fun e => by have := (Own8.own_lt HF3.out e.symm).1; omega
      have hm4 : some wr.heap.size ≠ vf.ownBlock := fun e => by have := HVF.out _ e.symm; omega
      have HZ4 := Lib.hid (show Bx b _ _ W4 from (hA4.grown.block b HS3.out hb4).trans HZ3.out)
      have HBc4 := Lib.hid (hA4.below HBc3.out (Nat.le_of_lt HS3.out) HF3.out (Nat.le_succ _))
      have HM4 := Lib.hid (show Bx wr.heap.size _ _ W4 from (hA4.grown.block _ HM3.out.lt hm4).trans HM3.out)
      have HD4 := Lib.hid (HD3.out.kept hA4.grown HDS2.out)
      have HDS3 := Lib.hid (dis_place' HDS2.out hA4.place (fun k hk => (Own8.own_lt HD3.out hk).2))
      have HF4 := Lib.hid hA4.own
      have HS4 := Lib.hid (show b < W4.heap.size from HZ4.out.lt)
      clear hA4 hb4 hm4
      refine hK.out _ _ trivial HZ4.out ?_
      try simp only [Act.put]
      try simp only [List.setIfInBounds_toArray]
      clear hK K'
      refine M_take2 (i := 16) (v := ?_) rfl (by kernel_rfl) (by kernel_rfl) (by kernel_rfl) (by kernel_rfl) (fun _ _ _ h => h) (Or.inl ⟨by rfl, ?_⟩) HZ4.out trivial ?_
      rotate_left 1
      ·intro w9 hS9
       go_simp
       try with_reducible rfl
      try simp only [Act.put]
      try simp only [List.setIfInBounds_toArray]
      refine M_take2 (i := 17) (v := ?_) rfl (by kernel_rfl) (by kernel_rfl) (by kernel_rfl) (by kernel_rfl) (fun _ _ _ h => h) (Or.inl ⟨by rfl, ?_⟩) HZ4.out trivial ?_
      rotate_left 1
      ·intro w9 hS9
       go_simp
       try with_reducible rfl
      try simp only [Act.put]
      try simp only [List.setIfInBounds_toArray]
      have z5 : W4.cell? ⟨b, 5, none⟩ = some vd := (HZ4.out.cell 5).trans rfl
      have z6 : W4.cell? ⟨b, 6, none⟩ = some vf := (HZ4.out.cell 6).trans rfl
      have zf := HZ4.out.frozen
      have zl := HZ4.out.lt
      refine M_all (rs := [18]) (by kernel_rfl) (by simp) ?_
      intro j' hj'
      simp only [List.mem_cons, List.not_mem_nil, or_false] at hj'
      subst hj'
      refine M_late rfl (by rfl) (fun K' hK => ?_)
      go_simp
      refine hK.out _ _ trivial ?_
      try simp only [Act.put]
      try simp only [List.setIfInBounds_toArray]
      clear hK K'
      refine wpAnyH_ready (rs := [19]) (by kernel_rfl) (by simp) ?_
      refine AllReadyH.cons rfl (fun K' hK => ?_) AllReadyH.nil
      go_simp
      refine hK.out _ _ trivial (fun _ => ?_)
      try simp only [Act.put]
      try simp only [List.setIfInBounds_toArray]
      clear hK K'
      refine wpAnyH_ready (rs := [20]) (by kernel_rfl) (by simp) ?_
      refine AllReadyH.cons rfl (fun K' hK => ?_) AllReadyH.nil
      go_simp
      refine hK.out _ _ trivial (fun _ => ?_)
      try simp only [Act.put]
      try simp only [List.setIfInBounds_toArray]
      clear hK K'
      refine wpAnyH_ready (rs := [21]) (by kernel_rfl) (by simp) ?_
      refine AllReadyH.cons rfl (fun K' hK => ?_) AllReadyH.nil
      go_simp
      refine hK.out _ _ trivial (fun _ => ?_)
      try simp only [Act.put]
      try simp only [List.setIfInBounds_toArray]
      clear hK K'
      refine wpAnyH_done (by kernel_rfl) ?_ _
      have HE := Lib.hid (show Bx b (mcellG (.pointer none) A4 ms.length c4 A5 o.length c5 (.pointer none) (.pointer none) (.slice A8 (j + 1) c8) (.slice A15 (j + 1) c15) 0 0) 81 _ from ((HZ4.out.set 5 (.slice A8 (j + 1) c8)).set 6 (.slice A15 (j + 1) c15)).to rfl)
      have HEb := Lib.hid ((HBc4.out.setCell (p := ⟨b, 5, none⟩) (Nat.le_refl _) (.slice A8 (j + 1) c8)).setCell (p := ⟨b, 6, none⟩) (Nat.le_refl _) (.slice A15 (j + 1) c15))
      have HE8 := Lib.hid (Own8.own_set (Own8.own_set HD4.out (Nat.lt_succ_self _) 5 (.slice A8 (j + 1) c8)) (Nat.lt_succ_self _) 6 (.slice A15 (j + 1) c15))
      have HE9 := Lib.hid (Own8.own_set (Own8.own_set HF4.out (Nat.lt_succ_self _) 5 (.slice A8 (j + 1) c8)) (Nat.lt_succ_self _) 6 (.slice A15 (j + 1) c15))
      have HEm := Lib.hid (HM4.out.far (a := ⟨b, 5, none⟩) hqb (.slice A8 (j + 1) c8) |>.far (a := ⟨b, 6, none⟩) hqb (.slice A15 (j + 1) c15))
      generalize World.setCell _ _ _ = we at *
      have m1 : we.cell? ⟨wr.heap.size, 1, none⟩ = some (.slice s.A1 mj.procs.length s.c1) := (HEm.out.cell 1).trans rfl
      have m3 : we.cell? ⟨wr.heap.size, 3, none⟩ = some (.int .i64 mj.data) := (HEm.out.cell 3).trans rfl
      have ml := HEm.out.lt
      obtain ⟨hx0, hx1⟩ := HXD.out
      obtain ⟨hx2, hx3⟩ := HXF.out
      have hdI0 : 0 ≤ mj.data := HMD.out.1
      have hdI : mj.data ≤ 65535 := HMD.out.2
      have hpI : (mj.procs.length : Int) ≤ 1024 := HMP.out
      clear z5 z6 zf zl
      go_wp2_with fail
      go_roundg m
      case measure => omega
      case rel =>
       have hj := HJ.out
       exact ⟨j + 1, m, _, _, HNX.out.1 ▸ rfl, HNX.out.2.1 ▸ rfl, rfl, by omega, Nat.le_refl _, HEb.out, HE.out, HNX.out.2.2.1 ▸ (by simpa [intCells8] using HE8.out), HNX.out.2.2.2 ▸ (by simpa [intCells8] using HE9.out), HDS3.out⟩
    ·refine M_step rfl (by rfl) (fun K' hK => ?_)
     go_simp
     have HA1 := Lib.hid (alloc_below W0 (.cells #[.int .i64 xf] 3))
     have HZ1 := Lib.hid (HZ0.out.grow HA1.out)
     have HBc1 := Lib.hid (HBc0.out.trans (HA1.out.mono (by have := HS0.out; omega)))
     have HY14x1 := Lib.hid (Bx.new W0 #[.int .i64 xf] 3)
     have HGk14 := Lib.hid (show wr.heap.size < W0.heap.size from HM0.out.lt)
     have HM1 := Lib.hid (HM0.out.grow HA1.out)
     have HD1 := Lib.hid (K16.own_later HD0.out HA1.out)
     have HF1 := Lib.hid (K16.own_later HF0.out HA1.out)
     have HS1 := Lib.hid (show b < (W0.alloc (.cells #[.int .i64 xf] 3)).heap.size from HZ1.out.lt)
     refine hK.out _ _ trivial HZ1.out ?_
     try simp only [Act.put]
     try simp only [List.setIfInBounds_toArray]
     clear hK K'
     generalize W0.alloc _ = W1 at *
     generalize W0.heap.size = g14 at *
     refine M_all (rs := [7]) (by kernel_rfl) (by simp) ?_
     intro j' hj'
     simp only [List.mem_cons, List.not_mem_nil, or_false] at hj'
     subst hj'
     refine M_step rfl (by rfl) (fun K' hK => ?_)
     go_simp
     have HA2 := Lib.hid (alloc_below W1 (.cells #[.int .i64 xd] 3))
     have HZ2 := Lib.hid (HZ1.out.grow HA2.out)
     have HBc2 := Lib.hid (HBc1.out.trans (HA2.out.mono (by have := HS1.out; omega)))
     have HY7x2 := Lib.hid (Bx.new W1 #[.int .i64 xd] 3)
     have HGk7 := Lib.hid (show wr.heap.size < W1.heap.size from HM1.out.lt)
     have HM2 := Lib.hid (HM1.out.grow HA2.out)
     have HD2 := Lib.hid (K16.own_later HD1.out HA2.out)
     have HF2 := Lib.hid (K16.own_later HF1.out HA2.out)
     have HS2 := Lib.hid (show b < (W1.alloc (.cells #[.int .i64 xd] 3)).heap.size from HZ2.out.lt)
     have HY14x2 := Lib.hid (HY14x1.out.grow HA2.out)
     refine hK.out _ _ trivial HZ2.out ?_
     try simp only [Act.put]
     try simp only [List.setIfInBounds_toArray]
     clear hK K'
     generalize W1.alloc _ = W2 at *
     generalize W1.heap.size = g7 at *
     refine M_all (rs := [8]) (by kernel_rfl) (by simp) ?_
     intro j' hj'
     simp only [List.mem_cons, List.not_mem_nil, or_false] at hj'
     subst hj'
     refine M_step rfl (by rfl) (fun K' hK => ?_)
     refine step_app etInts8 (by rfl) _ _ (by rfl) (b + 1) vd j ((dataL 1 (ms.take j)).flatMap intCells8) (by rfl) HD2.out _ 1 _ (by rfl) (src_one8 xd ((HY7x2.out.cell 0).trans rfl)) (by omega) (by unfold maxLen; omega) HS2.out ?_
     intro v3 W3 hA3
     obtain ⟨A8, c8, hv3⟩ := own_slice' hA3.own
     subst hv3
     have hb3 : some b ≠ vd.ownBlock := fun e => by have := (Own8.own_lt HD2.out e.symm).1; omega
     have hm3 : some wr.heap.size ≠ vd.ownBlock := fun e => by have := HVD.out _ e.symm; omega
     have HZ3 := Lib.hid (show Bx b _ _ W3 from (hA3.grown.block b HS2.out hb3).trans HZ2.out)
     have HBc3 := Lib.hid (hA3.below HBc2.out (Nat.le_of_lt HS2.out) HD2.out (Nat.le_succ _))
     have HM3 := Lib.hid (show Bx wr.heap.size _ _ W3 from (hA3.grown.block _ HM2.out.lt hm3).trans HM2.out)
     have HY14x3 := Lib.hid (show Bx g14 _ _ W3 from (hA3.grown.block _ HY14x2.out.lt (fun e => by have h1 := HVD.out _ e.symm; have h2 := HGk14.out; omega)).trans HY14x2.out)
     have HF3 := Lib.hid (HF2.out.kept hA3.grown (HDS.out.symm))
     have HDS2 := Lib.hid (dis_place HDS.out hA3.place (fun k hk => by have := HVF.out k hk; have := HM2.out.lt; omega))
     have HD3 := Lib.hid hA3.own
     have HS3 := Lib.hid (show b < W3.heap.size from HZ3.out.lt)
     clear hA3 hb3 hm3
     refine hK.out _ _ trivial HZ3.out ?_
     try simp only [Act.put]
     try simp only [List.setIfInBounds_toArray]
     clear hK K'
     refine M_all (rs := [15]) (by kernel_rfl) (by simp) ?_
     intro j' hj'
     simp only [List.mem_cons, List.not_mem_nil, or_false] at hj'
     subst hj'
     refine M_step rfl (by rfl) (fun K' hK => ?_)
     refine step_app etInts8 (by rfl) _ _ (by rfl) (b + 1) vf j ((firstL 1 (ms.take j)).flatMap intCells8) (by rfl) HF3.out _ 1 _ (by rfl) (src_one8 xf ((HY14x3.out.cell 0).trans rfl)) (by omega) (by unfold maxLen; omega) HS3.out ?_
     intro v4 W4 hA4
     obtain ⟨A15, c15, hv4⟩ := own_slice' hA4.own
     subst hv4
     have hb4 : some b ≠ vf.ownBlock := fun e => by have := (Own8.own_lt HF3.out e.symm).1; omega
     have hm4 : some wr.heap.size ≠ vf.ownBlock := fun e => by have := HVF.out _ e.symm; omega
     have HZ4 := Lib.hid (show Bx b _ _ W4 from (hA4.grown.block b HS3.out hb4).trans HZ3.out)
     have HBc4 := Lib.hid (hA4.below HBc3.out (Nat.le_of_lt HS3.out) HF3.out (Nat.le_succ _))
     have HM4 := Lib.hid (show Bx wr.heap.size _ _ W4 from (hA4.grown.block _ HM3.out.lt hm4).trans HM3.out)
     have HD4 := Lib.hid (HD3.out.kept hA4.grown HDS2.out)
     have HDS3 := Lib.hid (dis_place' HDS2.out hA4.place (fun k hk => (Own8.own_lt HD3.out hk).2))
     have HF4 := Lib.hid hA4.own
     have HS4 := Lib.hid (show b < W4.heap.size from HZ4.out.lt)
     clear hA4 hb4 hm4
     refine hK.out _ _ trivial HZ4.out ?_
     try simp only [Act.put]
     try simp only [List.setIfInBounds_toArray]
     clear hK K'
     refine M_take2 (i := 16) (v := ?_) rfl (by kernel_rfl) (by kernel_rfl) (by kernel_rfl) (by kernel_rfl) (fun _ _ _ h => h) (Or.inl ⟨by rfl, ?_⟩) HZ4.out trivial ?_
     rotate_left 1
     ·intro w9 hS9
      go_simp
      try with_reducible rfl
     try simp only [Act.put]
     try simp only [List.setIfInBounds_toArray]
     refine M_take2 (i := 17) (v := ?_) rfl (by kernel_rfl) (by kernel_rfl) (by kernel_rfl) (by kernel_rfl) (fun _ _ _ h => h) (Or.inl ⟨by rfl, ?_⟩) HZ4.out trivial ?_
     rotate_left 1
     ·intro w9 hS9
      go_simp
      try with_reducible rfl
     try simp only [Act.put]
     try simp only [List.setIfInBounds_toArray]
     have z5 : W4.cell? ⟨b, 5, none⟩ = some vd := (HZ4.out.cell 5).trans rfl
     have z6 : W4.cell? ⟨b, 6, none⟩ = some vf := (HZ4.out.cell 6).trans rfl
     have zf := HZ4.out.frozen
     have zl := HZ4.out.lt
     refine M_all (rs := [18]) (by kernel_rfl) (by simp) ?_
     intro j' hj'
     simp only [List.mem_cons, List.not_mem_nil, or_false] at hj'
     subst hj'
     refine M_late rfl (by rfl) (fun K' hK => ?_)
     go_simp
     refine hK.out _ _ trivial ?_
     try simp only [Act.put]
     try simp only [List.setIfInBounds_toArray]
     clear hK K'
     refine wpAnyH_ready (rs := [19]) (by kernel_rfl) (by simp) ?_
     refine AllReadyH.cons rfl (fun K' hK => ?_) AllReadyH.nil
     go_simp
     refine hK.out _ _ trivial (fun _ => ?_)
     try simp only [Act.put]
     try simp only [List.setIfInBounds_toArray]
     clear hK K'
     refine wpAnyH_ready (rs := [20]) (by kernel_rfl) (by simp) ?_
     refine AllReadyH.cons rfl (fun K' hK => ?_) AllReadyH.nil
     go_simp
     refine hK.out _ _ trivial (fun _ => ?_)
     try simp only [Act.put]
     try simp only [List.setIfInBounds_toArray]
     clear hK K'
     refine wpAnyH_ready (rs := [21]) (by kernel_rfl) (by simp) ?_
     refine AllReadyH.cons rfl (fun K' hK => ?_) AllReadyH.nil
     go_simp
     refine hK.out _ _ trivial (fun _ => ?_)
     try simp only [Act.put]
     try simp only [List.setIfInBounds_toArray]
     clear hK K'
     refine wpAnyH_done (by kernel_rfl) ?_ _
     have HE := Lib.hid (show Bx b (mcellG (.pointer none) A4 ms.length c4 A5 o.length c5 (.pointer none) (.pointer none) (.slice A8 (j + 1) c8) (.slice A15 (j + 1) c15) 0 0) 81 _ from ((HZ4.out.set 5 (.slice A8 (j + 1) c8)).set 6 (.slice A15 (j + 1) c15)).to rfl)
     have HEb := Lib.hid ((HBc4.out.setCell (p := ⟨b, 5, none⟩) (Nat.le_refl _) (.slice A8 (j + 1) c8)).setCell (p := ⟨b, 6, none⟩) (Nat.le_refl _) (.slice A15 (j + 1) c15))
     have HE8 := Lib.hid (Own8.own_set (Own8.own_set HD4.out (Nat.lt_succ_self _) 5 (.slice A8 (j + 1) c8)) (Nat.lt_succ_self _) 6 (.slice A15 (j + 1) c15))
     have HE9 := Lib.hid (Own8.own_set (Own8.own_set HF4.out (Nat.lt_succ_self _) 5 (.slice A8 (j + 1) c8)) (Nat.lt_succ_self _) 6 (.slice A15 (j + 1) c15))
     have HEm := Lib.hid (HM4.out.far (a := ⟨b, 5, none⟩) hqb (.slice A8 (j + 1) c8) |>.far (a := ⟨b, 6, none⟩) hqb (.slice A15 (j + 1) c15))
     generalize World.setCell _ _ _ = we at *
     have m1 : we.cell? ⟨wr.heap.size, 1, none⟩ = some (.slice s.A1 mj.procs.length s.c1) := (HEm.out.cell 1).trans rfl
     have m3 : we.cell? ⟨wr.heap.size, 3, none⟩ = some (.int .i64 mj.data) := (HEm.out.cell 3).trans rfl
     have ml := HEm.out.lt
     obtain ⟨hx0, hx1⟩ := HXD.out
     obtain ⟨hx2, hx3⟩ := HXF.out
     have hdI0 : 0 ≤ mj.data := HMD.out.1
     have hdI : mj.data ≤ 65535 := HMD.out.2
     have hpI : (mj.procs.length : Int) ≤ 1024 := HMP.out
     clear z5 z6 zf zl
     go_wp2_with fail
     go_roundg m
     case measure => omega
     case rel =>
      have hj := HJ.out
      exact ⟨j + 1, m, _, _, HNX.out.1 ▸ rfl, HNX.out.2.1 ▸ rfl, rfl, by omega, Nat.le_refl _, HEb.out, HE.out, HNX.out.2.2.1 ▸ (by simpa [intCells8] using HE8.out), HNX.out.2.2.2 ▸ (by simpa [intCells8] using HE9.out), HDS3.out⟩
  | zero =>
    have hjm : j = ms.length := by omega
    subst hjm
    rw [List.take_length, flat_ints8, ← dataL_len ms 1] at hod
    rw [List.take_length, flat_ints8, ← firstL_len ms 1] at hof
    obtain ⟨A6, c6, rfl, h6, hc6⟩ := own_ints_mask8 hod (bs0 ++ [b]) (by intro x hx; rcases List.mem_append.1 hx with h | h; (have := HL0.out x h; omega); (simp at h; omega))
    obtain ⟨A7, c7, rfl, h7, hc7⟩ := own_ints_mask8 hof (bs0 ++ [b]) (by intro x hx; rcases List.mem_append.1 hx with h | h; (have := HL0.out x h; omega); (simp at h; omega))
    have hSD := sum_le (l := ms) (fun m hm => (HMM.out m hm).1)
    have i3a : 0 ≤ sumD ms := hSD.1.1
    have i3b : sumD ms ≤ 65535 * ms.length := hSD.1.2
    have i3c : sumD ms ≤ 5000000 := by omega
    clear hod hof hds hj hmg hSD i3b
    simp only [List.take_length]
    have HX4 := Lib.hid (show Bx W.heap.size #[.slice A2 ms.length c2, .slice A3 o.length c3] 25 wr from (hbr.block _ xl).trans HX3.out)
    have HY4 := Lib.hid (show Bx (W.heap.size + 1) #[.int .i64 st, .int .i64 hp, .int .i64 out] 27 wr from (hbr.block _ hYb).trans HY3.out)
    have HBr := Lib.hid hbr
    have HBe := Lib.hid (HB3.out.trans (hbr.mono (Nat.le_of_lt xl)))
    have HQ4 := Lib.hid hq
    have H6 := Lib.hid h6
    have H7 := Lib.hid h7
    clear hbr hq h6 h7 HX3 HY3
    rename World => wA
    have y0 : wA.cell? ⟨W.heap.size + 1, 0, none⟩ = some (.int .i64 st) := (HY4.out.cell 0).trans rfl
    have y1 : wA.cell? ⟨W.heap.size + 1, 1, none⟩ = some (.int .i64 hp) := (HY4.out.cell 1).trans rfl
    have y2 : wA.cell? ⟨W.heap.size + 1, 2, none⟩ = some (.int .i64 out) := (HY4.out.cell 2).trans rfl
    have ys := HY4.out.lt
    have HNE := Lib.hid (show newErr ms o st hp out inp = if st < 0 ∨ hp < 0 ∨ 65535 < st ∨ 65535 < hp ∨ 65535 < sumD ms + st + hp then 2 else termErr inp out by unfold newErr; rw [HCK.out]; rfl)
    by_cases e1 : st < 0
    ·have HR := Lib.hid (show newErr ms o st hp out inp = 2 by rw [HNE.out, if_pos (by omega)])
     go_wp2_with fail
     exact HRest.out _ _ (.inl ⟨2, by simp, HR.out, rfl, HBe.out⟩)
    by_cases e2 : hp < 0
    ·have HR := Lib.hid (show newErr ms o st hp out inp = 2 by rw [HNE.out, if_pos (by omega)])
     go_wp2_with fail
     exact HRest.out _ _ (.inl ⟨2, by simp, HR.out, rfl, HBe.out⟩)
    by_cases e3 : 65535 < st
    ·have HR := Lib.hid (show newErr ms o st hp out inp = 2 by rw [HNE.out, if_pos (by omega)])
     go_wp2_with fail
     exact HRest.out _ _ (.inl ⟨2, by simp, HR.out, rfl, HBe.out⟩)
    by_cases e4 : 65535 < hp
    ·have HR := Lib.hid (show newErr ms o st hp out inp = 2 by rw [HNE.out, if_pos (by omega)])
     go_wp2_with fail
     exact HRest.out _ _ (.inl ⟨2, by simp, HR.out, rfl, HBe.out⟩)
    by_cases e5 : 65535 < sumD ms + st + hp
    ·have HR := Lib.hid (show newErr ms o st hp out inp = 2 by rw [HNE.out, if_pos (by omega)])
     have e5 : 65535 < 1 + sumD ms - 1 + st + hp := by omega
     go_wp2_with fail
     exact HRest.out _ _ (.inl ⟨2, by simp, HR.out, rfl, HBe.out⟩)
    have HR := Lib.hid (show newErr ms o st hp out inp = termErr inp out by rw [HNE.out, if_neg (by omega)])
    have i0 : 0 ≤ st := by omega
    have i1 : st ≤ 65535 := by omega
    have i0' : 0 ≤ hp := by omega
    have i2 : hp ≤ 65535 := by omega
    have i3 : sumD ms ≤ 65535 := by omega
    have i4 : sumD ms + st + hp ≤ 65535 := by omega
    have n1 : decide (st < 0) = false := decide_eq_false (by omega)
    have n2 : decide (hp < 0) = false := decide_eq_false (by omega)
    have n3 : decide ((65535 : Int) < st) = false := decide_eq_false (by omega)
    have n4 : decide ((65535 : Int) < hp) = false := decide_eq_false (by omega)
    have n5 : decide ((65535 : Int) < 1 + sumD ms - 1 + st + hp) = false := decide_eq_false (by omega)
    clear e1 e2 e3 e4 e5 HNE
    go_wp2_with fail
    refine (termNew_all inp hil out _ hou0 hou1).mono ?_
    rintro e w4 (⟨x, hx, hte, rfl, rfl⟩ | ⟨⟨hte, ho0, ho1⟩, rfl, hT4, hb4⟩)
    ·have q0 : w4.cell? ⟨b, 0, none⟩ = some (.pointer none) := (HQ4.out.cell 0).trans rfl
     have qf := HQ4.out.frozen
     have ql := HQ4.out.lt
     have HR2 := Lib.hid (HR.out.trans hte)
     have HBx := Lib.hid (HBe.out.setCell (p := ⟨b, 0, none⟩) (by simp only; omega) (.pointer none))
     clear hte
     rcases hx with rfl | rfl
     ·go_wp2_with fail
      exact HRest.out _ _ (.inl ⟨5, by simp, HR2.out, rfl, HBx.out⟩)
     ·go_wp2_with fail
      exact HRest.out _ _ (.inl ⟨2, by simp, HR2.out, rfl, HBx.out⟩)
    have HR2 := Lib.hid (HR.out.trans hte)
    clear hte HR
    have HAb := Lib.hid hb4
    have hbA : b < wA.heap.size := HQ4.out.lt
    have hq5 := HQ4.out.grow hb4
    have HY5 := Lib.hid (HY4.out.grow hb4)
    have HX5 := Lib.hid (HX4.out.grow hb4)
    have HT4 := Lib.hid hT4
    have q0 : w4.cell? ⟨b, 0, none⟩ = some (.pointer none) := (hq5.cell 0).trans rfl
    have qf := hq5.frozen
    have ql := hq5.lt
    have HQ5 := Lib.hid ((hq5.set 0 (.pointer (some ⟨wA.heap.size, 0, none⟩))).to (ds := mcellG (.pointer (some ⟨wA.heap.size, 0, none⟩)) A4 ms.length c4 A5 o.length c5 (.pointer none) (.pointer none) (.slice A6 (dataL 1 ms).length c6) (.slice A7 (firstL 1 ms).length c7) 0 0) rfl)
    have HT5 := Lib.hid (HT4.out.far (a := ⟨b, 0, none⟩) (by simp only; omega) (.pointer (some ⟨wA.heap.size, 0, none⟩)))
    have hyb : W.heap.size + 1 ≠ b := by omega
    have hxb : W.heap.size ≠ b := by omega
    have HY6 := Lib.hid (HY5.out.far (a := ⟨b, 0, none⟩) hyb (.pointer (some ⟨wA.heap.size, 0, none⟩)))
    have HX6 := Lib.hid (HX5.out.far (a := ⟨b, 0, none⟩) hxb (.pointer (some ⟨wA.heap.size, 0, none⟩)))
    have OA := Lib.hid (show Only [b] wA (w4.setCell ⟨b, 0, none⟩ (.pointer (some ⟨wA.heap.size, 0, none⟩))) from (Only.of_below HAb.out).setCell (by simp) _)
    clear hT4 hq5 hb4 HQ4 HY4 HX4 HY5 HX5 HT4 HAb y0 y1 y2 n1 n2 n3 n4 n5
    go_upto_region 19 with (fail)
    generalize w4.setCell ⟨b, 0, none⟩ (.pointer (some ⟨wA.heap.size, 0, none⟩)) = w5 at *
    clear q0 qf ql
    have y0 : w5.cell? ⟨W.heap.size + 1, 0, none⟩ = some (.int .i64 st) := (HY6.out.cell 0).trans rfl
    have y1 : w5.cell? ⟨W.heap.size + 1, 1, none⟩ = some (.int .i64 hp) := (HY6.out.cell 1).trans rfl
    have ys := HY6.out.lt
    go_wp2_with fail
    refine (memNew_eq9 (n := (sumD ms + st + hp).toNat) (by omega) (by omega) _).mono ?_
    rintro e w6 ⟨rfl, hm6, hb6⟩
    have HAb := Lib.hid hb6
    have HM6 := Lib.hid hm6
    have hq6 := HQ5.out.grow hb6
    have q3 : w6.cell? ⟨b, 3, none⟩ = some (.pointer none) := (hq6.cell 3).trans rfl
    have qf := hq6.frozen
    have ql := hq6.lt
    have hb5 : b < w5.heap.size := HQ5.out.lt
    have hbt5 : wA.heap.size < w5.heap.size := HT5.out.lt
    have HQ6 := Lib.hid ((hq6.set 3 (.pointer (some ⟨w5.heap.size, 0, none⟩))).to (ds := mcellG (.pointer (some ⟨wA.heap.size, 0, none⟩)) A4 ms.length c4 A5 o.length c5 (.pointer (some ⟨w5.heap.size, 0, none⟩)) (.pointer none) (.slice A6 (dataL 1 ms).length c6) (.slice A7 (firstL 1 ms).length c7) 0 0) rfl)
    have HT6 := Lib.hid ((HT5.out.grow hb6).far (a := ⟨b, 3, none⟩) (by simp only; omega) (.pointer (some ⟨w5.heap.size, 0, none⟩)))
    have HY7 := Lib.hid ((HY6.out.grow hb6).far (a := ⟨b, 3, none⟩) hyb (.pointer (some ⟨w5.heap.size, 0, none⟩)))
    have HX7 := Lib.hid ((HX6.out.grow hb6).far (a := ⟨b, 3, none⟩) hxb (.pointer (some ⟨w5.heap.size, 0, none⟩)))
    have HM7 := Lib.hid (hm6.later (Below.heap_setCell w6 ⟨b, 3, none⟩ (.pointer (some ⟨w5.heap.size, 0, none⟩)) w5.heap.size (by simp only; omega)))
    have OB := Lib.hid (OA.out.trans (show Only [b] w5 (w6.setCell ⟨b, 3, none⟩ (.pointer (some ⟨w5.heap.size, 0, none⟩))) from (Only.of_below HAb.out).setCell (by simp) _))
    clear hm6 hq6 hb6 HM6 HQ5 HY6 HX6 HT5 HAb OA y0 y1
    go_upto_region 20 with (fail)
    generalize w6.setCell ⟨b, 3, none⟩ (.pointer (some ⟨w5.heap.size, 0, none⟩)) = w7 at *
    clear q3 qf ql
    generalize w5.heap.size = bm at *
    have y0 : w7.cell? ⟨W.heap.size + 1, 0, none⟩ = some (.int .i64 st) := (HY7.out.cell 0).trans rfl
    have q6 : w7.cell? ⟨b, 7, none⟩ = some (.int .i64 0) := (HQ6.out.cell 7).trans rfl
    have q7 : w7.cell? ⟨b, 8, none⟩ = some (.int .i64 0) := (HQ6.out.cell 8).trans rfl
    have qf := HQ6.out.frozen
    have ql := HQ6.out.lt
    have ys := HY7.out.lt
    have e1 : IntKind.i64.wrap (1 + sumD ms + (st : Int)) = 1 + sumD ms + st := IntWalk.i64_in _ (by omega)
    have hyb' : b ≠ W.heap.size + 1 := fun e => hyb e.symm
    go_region_held3 (fun W' => W'.cell? ⟨W.heap.size + 1, 0, none⟩ = some (.int .i64 st)) (first | exact ((HY7.out.far (a := ⟨b, 7, none⟩) hyb (.int .i64 (1 + sumD ms))).cell 0).trans rfl | exact (((HY7.out.far (a := ⟨b, 7, none⟩) hyb (.int .i64 (1 + sumD ms))).far (a := ⟨b, 8, none⟩) hyb (.int .i64 (1 + sumD ms + st))).cell 0).trans rfl | go_keep) (fail)
    clear e1 q6 q7 qf ql y0
    have HQ8 := Lib.hid (((((HQ6.out.set 7 (.int .i64 (1 + sumD ms))).set 8 (.int .i64 (1 + sumD ms + st))).to (ds := mcellG (.pointer (some ⟨wA.heap.size, 0, none⟩)) A4 ms.length c4 A5 o.length c5 (.pointer (some ⟨bm, 0, none⟩)) (.pointer none) (.slice A6 (dataL 1 ms).length c6) (.slice A7 (firstL 1 ms).length c7) (1 + sumD ms) (1 + sumD ms + st)) rfl)).grow (drew_below _))
    have HT8 := Lib.hid (((HT6.out.far (a := ⟨b, 7, none⟩) (by simp only; omega) (.int .i64 (1 + sumD ms))).far (a := ⟨b, 8, none⟩) (by simp only; omega) (.int .i64 (1 + sumD ms + st))).grow (drew_below _))
    have HY8 := Lib.hid (((HY7.out.far (a := ⟨b, 7, none⟩) hyb (.int .i64 (1 + sumD ms))).far (a := ⟨b, 8, none⟩) hyb (.int .i64 (1 + sumD ms + st))).grow (drew_below _))
    have HX8 := Lib.hid (((HX7.out.far (a := ⟨b, 7, none⟩) hxb (.int .i64 (1 + sumD ms))).far (a := ⟨b, 8, none⟩) hxb (.int .i64 (1 + sumD ms + st))).grow (drew_below _))
    have HM8 := Lib.hid ((HM7.out.later ((Below.heap_setCell (w7.setCell ⟨b, 7, none⟩ (.int .i64 (1 + sumD ms))) ⟨b, 8, none⟩ (.int .i64 (1 + sumD ms + st)) bm (by simp only; omega)).trans (Below.heap_setCell w7 ⟨b, 7, none⟩ (.int .i64 (1 + sumD ms)) bm (by simp only; omega)))).grow (drew_below _))
    have OC := Lib.hid (OB.out.trans ((((Only.refl [b] w7).setCell (a := ⟨b, 7, none⟩) (by simp) (.int .i64 (1 + sumD ms))).setCell (a := ⟨b, 8, none⟩) (by simp) (.int .i64 (1 + sumD ms + st))).trans (Only.of_below (drew_below _))))
    clear HQ6 HT6 HY7 HX7 HM7 OB
    go_upto_region 21 with (fail)
    generalize ((w7.setCell ⟨b, 7, none⟩ (.int .i64 (1 + sumD ms))).setCell ⟨b, 8, none⟩ (.int .i64 (1 + sumD ms + st))).drew = w8 at *
    have y1 : w8.cell? ⟨W.heap.size + 1, 1, none⟩ = some (.int .i64 hp) := (HY8.out.cell 1).trans rfl
    have q8 : w8.cell? ⟨b, 8, none⟩ = some (.int .i64 (1 + sumD ms + st)) := (HQ8.out.cell 8).trans rfl
    have q4 : w8.cell? ⟨b, 4, none⟩ = some (.pointer none) := (HQ8.out.cell 4).trans rfl
    have ql := HQ8.out.lt
    have HYd := Lib.hid (HY8.out.grow (drew_below w8))
    have HQd := Lib.hid (HQ8.out.grow (drew_below w8))
    refine wp_region_held_drew (S := (fun W' => (∃ he, Bx b (mcellG (.pointer (some ⟨wA.heap.size, 0, none⟩)) A4 ms.length c4 A5 o.length c5 (.pointer (some ⟨bm, 0, none⟩)) he (.slice A6 (dataL 1 ms).length c6) (.slice A7 (firstL 1 ms).length c7) (1 + sumD ms) (1 + sumD ms + st)) 81 W') ∧ Bx (W.heap.size + 1) #[.int .i64 st, .int .i64 hp, .int .i64 out] 27 W')) (by kernel_rfl) ⟨⟨_, HQd.out⟩, HYd.out⟩ (fun hHeld => ?_)
    refine wpAnyH_take (i := 0) (v := ?_) rfl (by kernel_rfl) (by kernel_rfl) (by kernel_rfl) (fun _ _ _ h => h) (Or.inl ⟨by rfl, ?_⟩) hHeld ?_
    rotate_left 1
    ·intro w9 hS9
     go_simp
     try with_reducible rfl
    try simp only [Act.put]
    try simp only [List.setIfInBounds_toArray]
    refine wpAnyH_take (i := 1) (v := ?_) rfl (by kernel_rfl) (by kernel_rfl) (by kernel_rfl) (fun _ _ _ h => h) (Or.inl ⟨by rfl, ?_⟩) hHeld ?_
    rotate_left 1
    ·intro w9 hS9
     go_simp
     try with_reducible rfl
    try simp only [Act.put]
    try simp only [List.setIfInBounds_toArray]
    refine wpAnyH_take (i := 2) (v := ?_) rfl (by kernel_rfl) (by kernel_rfl) (by kernel_rfl) (fun _ _ _ h => h) (Or.inl ⟨by rfl, ?_⟩) hHeld ?_
    rotate_left 1
    ·intro w9 hS9
     go_simp
     try with_reducible rfl
    try simp only [Act.put]
    try simp only [List.setIfInBounds_toArray]
    refine wpAnyH_take (i := 3) (v := ?_) rfl (by kernel_rfl) (by kernel_rfl) (by kernel_rfl) (fun _ _ _ h => h) (Or.inl ⟨by rfl, ?_⟩) hHeld ?_
    rotate_left 1
    ·intro w9 hS9
     go_simp
     try with_reducible rfl
    try simp only [Act.put]
    try simp only [List.setIfInBounds_toArray]
    refine wpAnyH_take (i := 4) (v := ?_) rfl (by kernel_rfl) (by kernel_rfl) (by kernel_rfl) (fun _ _ _ h => h) (Or.inl ⟨by rfl, ?_⟩) hHeld ?_
    rotate_left 1
    ·intro w9 hS9
     obtain ⟨⟨he, hq9⟩, hy9⟩ := hS9
     have l9 : w9.cell? ⟨b, 8, none⟩ = some (.int .i64 (1 + sumD ms + st)) := (hq9.cell 8).trans rfl
     go_simp
     try with_reducible rfl
    try simp only [Act.put]
    try simp only [List.setIfInBounds_toArray]
    refine wpAnyH_take (i := 5) (v := ?_) rfl (by kernel_rfl) (by kernel_rfl) (by kernel_rfl) (fun _ _ _ h => h) (Or.inl ⟨by rfl, ?_⟩) hHeld ?_
    rotate_left 1
    ·intro w9 hS9
     go_simp
     try with_reducible rfl
    try simp only [Act.put]
    try simp only [List.setIfInBounds_toArray]
    refine wpAnyH_take (i := 6) (v := ?_) rfl (by kernel_rfl) (by kernel_rfl) (by kernel_rfl) (fun _ _ _ h => h) (Or.inl ⟨by rfl, ?_⟩) hHeld ?_
    rotate_left 1
    ·intro w9 hS9
     obtain ⟨⟨he, hq9⟩, hy9⟩ := hS9
     have l9 : w9.cell? ⟨W.heap.size + 1, 1, none⟩ = some (.int .i64 hp) := (hy9.cell 1).trans rfl
     go_simp
     try with_reducible rfl
    try simp only [Act.put]
    try simp only [List.setIfInBounds_toArray]
    have OD := Lib.hid (OC.out.trans (Only.of_below (drew_below w8)))
    have HTd := Lib.hid (HT8.out.grow (drew_below w8))
    have HXd := Lib.hid (HX8.out.grow (drew_below w8))
    have HMd := Lib.hid (HM8.out.grow (drew_below w8))
    clear HT8 HX8 HM8 OC HQ8 HY8 q4 q8 y1
    generalize w8.drew = w9 at *
    refine wpAnyH_ready (rs := [7]) (by kernel_rfl) (by simp) ?_
    refine AllReadyH.cons rfl (fun K' hK => ?_) AllReadyH.nil
    go_simp
    refine (heapNew_all _ _ (by omega) (by omega) (by omega) (by omega) _).mono ?_
    rintro e w10 ⟨bh, bq, rfl, ⟨hh1, hh2, hh3⟩, hH10, hK10, hb10⟩
    have hbm9 : bm < w9.heap.size := HMd.out.lt
    have hbt9 : wA.heap.size < w9.heap.size := HTd.out.lt
    have HH10 := Lib.hid hH10
    have HK10 := Lib.hid hK10
    have hb9 : b < w9.heap.size := HQd.out.lt
    clear hH10 hK10
    have HQ10 := Lib.hid (HQd.out.grow hb10)
    have HY10 := Lib.hid (HYd.out.grow hb10)
    have HT10 := Lib.hid (HTd.out.grow hb10)
    have HX10 := Lib.hid (HXd.out.grow hb10)
    have HM10 := Lib.hid (HMd.out.grow hb10)
    have OE := Lib.hid (OD.out.trans (Only.of_below hb10))
    clear hb10 HQd HYd HTd HXd HMd OD hHeld
    refine hK.out _ _ ⟨⟨_, HQ10.out⟩, HY10.out⟩ (fun hHeld => ?_)
    clear hK K'
    try simp only [Act.put]
    try simp only [List.setIfInBounds_toArray]
    refine wpAnyH_take (i := 8) (v := ?_) rfl (by kernel_rfl) (by kernel_rfl) (by kernel_rfl) (fun _ _ _ h => h) (Or.inl ⟨by rfl, ?_⟩) hHeld ?_
    rotate_left 1
    ·intro w9 hS9
     go_simp
     try with_reducible rfl
    try simp only [Act.put]
    try simp only [List.setIfInBounds_toArray]
    refine wpAnyH_take (i := 9) (v := ?_) rfl (by kernel_rfl) (by kernel_rfl) (by kernel_rfl) (fun _ _ _ h => h) (Or.inl ⟨by rfl, ?_⟩) hHeld ?_
    rotate_left 1
    ·intro w9 hS9
     go_simp
     try with_reducible rfl
    try simp only [Act.put]
    try simp only [List.setIfInBounds_toArray]
    refine wpAnyH_take (i := 10) (v := ?_) rfl (by kernel_rfl) (by kernel_rfl) (by kernel_rfl) (fun _ _ _ h => h) (Or.inl ⟨by rfl, ?_⟩) hHeld ?_
    rotate_left 1
    ·intro w9 hS9
     go_simp
     try with_reducible rfl
    try simp only [Act.put]
    try simp only [List.setIfInBounds_toArray]
    refine wpAnyH_take (i := 11) (v := ?_) rfl (by kernel_rfl) (by kernel_rfl) (by kernel_rfl) (fun _ _ _ h => h) (Or.inl ⟨by rfl, ?_⟩) hHeld ?_
    rotate_left 1
    ·intro w9 hS9
     go_simp
     try with_reducible rfl
    try simp only [Act.put]
    try simp only [List.setIfInBounds_toArray]
    refine wpAnyH_take (i := 12) (v := ?_) rfl (by kernel_rfl) (by kernel_rfl) (by kernel_rfl) (fun _ _ _ h => h) (Or.inl ⟨by rfl, ?_⟩) hHeld ?_
    rotate_left 1
    ·intro w9 hS9
     go_simp
     try with_reducible rfl
    try simp only [Act.put]
    try simp only [List.setIfInBounds_toArray]
    have q4 : w10.cell? ⟨b, 4, none⟩ = some (.pointer none) := (HQ10.out.cell 4).trans rfl
    have qf := HQ10.out.frozen
    have ql := HQ10.out.lt
    refine wpAnyH_ready (rs := [13]) (by kernel_rfl) (by simp) ?_
    refine AllReadyH.cons rfl (fun K' hK => ?_) AllReadyH.nil
    go_simp
    have HQ11 := Lib.hid ((HQ10.out.set 4 (.pointer (some ⟨bh, 0, none⟩))).to (ds := mcellG (.pointer (some ⟨wA.heap.size, 0, none⟩)) A4 ms.length c4 A5 o.length c5 (.pointer (some ⟨bm, 0, none⟩)) (.pointer (some ⟨bh, 0, none⟩)) (.slice A6 (dataL 1 ms).length c6) (.slice A7 (firstL 1 ms).length c7) (1 + sumD ms) (1 + sumD ms + st)) rfl)
    have HY11 := Lib.hid (HY10.out.far (a := ⟨b, 4, none⟩) hyb (.pointer (some ⟨bh, 0, none⟩)))
    have HX11 := Lib.hid (HX10.out.far (a := ⟨b, 4, none⟩) hxb (.pointer (some ⟨bh, 0, none⟩)))
    have HT11 := Lib.hid (HT10.out.far (a := ⟨b, 4, none⟩) (by simp only; omega) (.pointer (some ⟨bh, 0, none⟩)))
    have HM11 := Lib.hid (HM10.out.later (Below.heap_setCell w10 ⟨b, 4, none⟩ (.pointer (some ⟨bh, 0, none⟩)) bm (by simp only; omega)))
    have HH11 := Lib.hid (HH10.out.far (a := ⟨b, 4, none⟩) (by simp only; omega) (.pointer (some ⟨bh, 0, none⟩)))
    have HK11 := Lib.hid (HK10.out.later (Below.heap_setCell w10 ⟨b, 4, none⟩ (.pointer (some ⟨bh, 0, none⟩)) bq (by simp only; omega)))
    have OF := Lib.hid (OE.out.setCell (a := ⟨b, 4, none⟩) (by simp) (.pointer (some ⟨bh, 0, none⟩)))
    refine hK.out _ _ ⟨⟨_, HQ11.out⟩, HY11.out⟩ (fun _ => ?_)
    clear hK K' hHeld
    try simp only [Act.put]
    try simp only [List.setIfInBounds_toArray]
    refine wpAnyH_done (by kernel_rfl) ?_ _
    clear HQ10 HY10 HX10 HT10 HM10 OE q4 qf ql
    generalize w10.setCell ⟨b, 4, none⟩ (.pointer (some ⟨bh, 0, none⟩)) = w11 at *
    have x0 : w11.cell? ⟨W.heap.size, 0, none⟩ = some (.slice A2 ms.length c2) := (HX11.out.cell 0).trans rfl
    have xs := HX11.out.lt
    have hbm : bm < w11.heap.size := HM11.out.lt
    have hbh : bh < w11.heap.size := HH11.out.lt
    have hbq : bq < w11.heap.size := HK11.out.lt
    have hbt : wA.heap.size < w11.heap.size := HT11.out.lt
    have hbb : b < w11.heap.size := HQ11.out.lt
    have HB11 := Lib.hid (HB3.out.trans ((HBr.out.mono (Nat.le_of_lt xl)).trans (OF.out.below (Nat.le_of_lt (by omega)) (by simp; omega))))
    have HBm := Lib.hid (HBr.out.trans (OF.out.below (B := b) (Nat.le_of_lt hbA) (by simp)))
    have HMs := Lib.hid (HM2.out.later (show Below b (mask bs0 w2) (mask (bs0 ++ [b, wA.heap.size, bm, bh, bq]) w11) from mask_wide (HB23.out.trans HBm.out) (by rw [hS2.out]; exact Nat.le_refl _) (by simp; omega)) (by rw [mask_size, hS2.out]; exact Nat.le_refl _))
    have HOs := Lib.hid (HO2.out.later (show Below b (mask bs0 w2) (mask (bs0 ++ [b, wA.heap.size, bm, bh, bq]) w11) from mask_wide (HB23.out.trans HBm.out) (by rw [hS2.out]; exact Nat.le_refl _) (by simp; omega)) (by rw [mask_size, hS2.out]; exact Nat.le_refl _))
    have HMo := Lib.hid (mask_more9 (bs0 := bs0) (bs := [b, wA.heap.size, bm, bh, bq]) OF.out (by simp) (by simp; omega))
    have HDs := Lib.hid (H6.out.later HMo.out (by rw [mask_size]; exact Nat.le_refl _))
    have HFs := Lib.hid (H7.out.later HMo.out (by rw [mask_size]; exact Nat.le_refl _))
    obtain ⟨K, hK⟩ : ∃ K : MK, K = ⟨[b, wA.heap.size, bm, bh, bq], b, wA.heap.size, bm, bh, (sumD ms + st + hp).toNat, ms, o, A4, c4, A5, c5, A6, c6, A7, c7, dataL 1 ms, firstL 1 ms, 1 + sumD ms, 1 + sumD ms + st, out, bq, hp⟩ := ⟨_, rfl⟩
    have HKo := Lib.hid (show KOk K by
     rw [hK]
     constructor <;> first | exact hms1 | exact HCK.out | (simp; done) | (simp only; omega))
    have HKn := Lib.hid (show NewG K ms o (dataL 1 ms) (firstL 1 ms) st hp out by rw [hK]; exact ⟨rfl, rfl, rfl, rfl, by simp only; omega, rfl, rfl, rfl, rfl⟩)
    have HAt := Lib.hid (show At { K with bs := bs0 ++ K.bs } (zeroG (fun _ => 0) inp) w11 by
     rw [hK]
     exact ⟨⟨none, 0, HQ11.out, .inl rfl, Nat.le_refl _⟩, ⟨0, 0, by decide, HT11.out⟩, HM11.out, ⟨HH11.out, HK11.out⟩, HMs.out, HOs.out, HDs.out, HFs.out, fun x hx => by
      rcases List.mem_append.1 hx with h | h
      ·have := HL0.out x h; have := HB11.out.size; omega
      ·simp at h; omega⟩)
    have HKb := Lib.hid (show K.b = b by rw [hK])
    have HKs := Lib.hid (show ∀ x ∈ K.bs, W.heap.size ≤ x by rw [hK]; simp; omega)
    have HKl := Lib.hid (show K.order.length = o.length by rw [hK])
    clear hK HQ11 HT11 HM11 HH11 HK11 HMs HOs HDs HFs HMo HBm OF HX11 HY11 H6 H7 HBr
    have HAs := Lib.hid (HAt.out.less)
    have HR3 := Lib.hid (HR2.out.trans rfl)
    have hDL := dataL_len ms 1
    have HDK := Lib.hid (show K.data = dataL 1 ms from HKn.out.data)
    have HKm := Lib.hid (HKo.out.hm)
    go_wp2_with fail
    go_loopg [154] (ms.length) (fun g x wr => ∃ (j r : Nat), x = .int .i64 (j : Nat) ∧ j + r = ms.length ∧ r ≤ g ∧ At K (zeroG (initAll K.n 1 (ms.take j) (fun _ => 0)) inp) wr ∧ Only K.bs w11 wr)
    case atStart => exact ⟨0, ms.length, rfl, by omega, Nat.le_refl _, HAs.out, Only.refl _ _⟩
    case round =>
     obtain ⟨j, r, rfl, hjr, hrg, hat, hon⟩ := hrel
     have HA := Lib.hid hat
     have HO9 := Lib.hid hon
     have HBw := Lib.hid (HB11.out.trans (hon.below HB11.out.size HKs.out))
     have HJR := Lib.hid hjr
     clear hat hon hjr
     cases r with
     | zero =>
       obtain rfl : j = ms.length := by have := HJR.out; omega
       rw [List.take_length] at HA
       have HG := Lib.hid (show zeroG (initAll K.n 1 ms (fun _ => 0)) inp = zeroG (initAll K.n 1 K.mods (fun _ => 0)) inp by rw [HKn.out.mods])
       have hol' : K.order.length ≤ 1000 := by rw [HKl.out]; exact hol
       clear HAs
       go_wp2_with fail
       rw [← HKb.out]
       refine (begins_any K HKo.out _ (Int.le_refl _) (Int.natCast_nonneg _) hol' _ (HG.out ▸ HA.out)).mono ?_
       rintro e w13 ⟨rfl, h13, o13⟩
       have HN := Lib.hid (show startG K inp = { trapG (beginsM K (zeroG (initAll K.n 1 K.mods (fun _ => 0)) inp)) with at_ := (trapG (beginsM K (zeroG (initAll K.n 1 K.mods (fun _ => 0)) inp))).next } from rfl)
       have HBk := Lib.hid (beginsG_keep (K := K) (zeroG (initAll K.n 1 K.mods (fun _ => 0)) inp))
       have HB13 := Lib.hid (HBw.out.trans (o13.below HBw.out.size HKs.out))
       have HO13 := Lib.hid (HO9.out.trans o13)
       have H13 := Lib.hid h13
       clear h13 o13 HA HO9 HBw
       have HKw := Lib.hid (show W.heap.size ≤ K.b from HKs.out _ HKo.out.hb)
       have HKb2 := Lib.hid HKo.out.hb
       have HZ0 := Lib.hid (show (zeroG (initAll K.n 1 K.mods (fun _ => 0)) inp).args = [] ∧ (zeroG (initAll K.n 1 K.mods (fun _ => 0)) inp).steps = 0 from ⟨rfl, rfl⟩)
       generalize zeroG (initAll K.n 1 K.mods (fun _ => 0)) inp = z0 at *
       generalize beginsM K z0 = rr at *
       obtain ⟨S1, tt⟩ := rr
       simp only at H13 HBk
       have c15 := H13.out.c15
       have c12 := H13.out.c12
       have fz := H13.out.fz
       have hl := H13.out.lt
       by_cases ht : tt = 0
       ·subst ht
        have HN1 := Lib.hid (show startG K inp = { S1 with at_ := S1.next } by rw [HN.out]; rfl)
        have HE := Lib.hid (H13.out.set_at_ HKo.out S1.next)
        have HEo := Lib.hid (HO13.out.setCell (a := ⟨K.b, 12, none⟩) HKb2.out (.int .i64 S1.next))
        clear HN
        go_wp2_with fail
        refine HRest.out _ _ (.inr ⟨HR3.out, K, rfl, HKo.out, HKn.out, ?_, HKs.out, HB13.out.setCell (p := ⟨K.b, 12, none⟩) HKw.out _⟩)
        rw [HN1.out]
        exact HAt.out.big HEo.out HE.out (HBk.out.2.2.2.trans HZ0.out.1)
       ·have d := bne_iff_ne.2 (show (tt : Int) ≠ 0 by omega)
        have HN1 := Lib.hid (show startG K inp = { S1 with kind := 2, trap := tt, at_ := S1.next } by rw [HN.out]; unfold trapG; rw [if_pos (by simpa using ht)])
        have c18 := H13.out.c18
        have c19 := H13.out.c19
        have c20 := H13.out.c20
        have HE := Lib.hid ((((H13.out.set_kind HKo.out 2).set_trap HKo.out tt).set_steps HKo.out 0).set_at_ HKo.out S1.next)
        have HEo := Lib.hid ((((HO13.out.setCell (a := ⟨K.b, 18, none⟩) HKb2.out (.int .u8 (2 : Nat))).setCell (a := ⟨K.b, 19, none⟩) HKb2.out (.int .u8 (tt : Nat))).setCell (a := ⟨K.b, 20, none⟩) HKb2.out (.int .i64 0)).setCell (a := ⟨K.b, 12, none⟩) HKb2.out (.int .i64 S1.next))
        have HBE := Lib.hid ((((HB13.out.setCell (p := ⟨K.b, 18, none⟩) HKw.out (.int .u8 (2 : Nat))).setCell (p := ⟨K.b, 19, none⟩) HKw.out (.int .u8 (tt : Nat))).setCell (p := ⟨K.b, 20, none⟩) HKw.out (.int .i64 0)).setCell (p := ⟨K.b, 12, none⟩) HKw.out (.int .i64 S1.next))
        clear HN
        go_wp2_with fail
        refine HRest.out _ _ (.inr ⟨HR3.out, K, rfl, HKo.out, HKn.out, ?_, HKs.out, HBE.out⟩)
        have hE := HAt.out.big HEo.out HE.out (HBk.out.2.2.2.trans HZ0.out.1)
        have hs : ({ S1 with kind := 2, trap := tt, at_ := S1.next } : St) = { S1 with kind := 2, trap := tt, steps := 0, at_ := S1.next } := by
         have := HBk.out.1.trans HZ0.out.2
         rw [← this]
        rw [HN1.out, hs]
        exact hE
     | succ r =>
       have hjl : j < ms.length := by have := HJR.out; omega
       have d00 : (j : Int) < (ms.length : Int) := by omega
       have hjI : (j : Int) ≤ 64 := by omega
       obtain ⟨b0, of, rfl, hb0', s, hI, d0, d1, d2, d3, d4⟩ := HM.out.at_ (j := j) hjl
       have hmem := getD_mem' ms j default hjl
       have hmf := HMM.out _ hmem
       have HTN := Lib.hid (take_next ms j hjl)
       have HSD := Lib.hid (sum_le (l := ms.take j) (fun m hm => (HMM.out m (List.mem_of_mem_take hm)).1))
       have HTK := Lib.hid (show (ms.take j).length = j by rw [List.length_take]; omega)
       have HDJ := Lib.hid (dataL_get ms j hjl 1)
       generalize ms.getD j default = mj at *
       have HIN := Lib.hid hI.init
       have HIL := Lib.hid hI.init_le
       have d0 := (HBw.out.cell (p := ⟨b0, of + j * 5, none⟩) hb0').trans d0
       have d1 := (HBw.out.cell (p := ⟨b0, of + j * 5 + 1, none⟩) hb0').trans d1
       have d2 := (HBw.out.cell (p := ⟨b0, of + j * 5 + 2, none⟩) hb0').trans d2
       have d3 := (HBw.out.cell (p := ⟨b0, of + j * 5 + 3, none⟩) hb0').trans d3
       have d4 := (HBw.out.cell (p := ⟨b0, of + j * 5 + 4, none⟩) hb0').trans d4
       have hb0r : b0 < wr.heap.size := Nat.lt_of_lt_of_le hb0' HBw.out.size
       clear hI
       generalize s.A3 = a3 at *
       generalize s.c3 = cc3 at *
       go_wp2_with fail
       have HAl := Lib.hid (alloc_below wr (.cells #[.string ⟨mj.code.toArray⟩, .slice s.A1 mj.procs.length s.c1, .slice s.A2 mj.imports.length s.c2, .int .i64 mj.data, .slice a3 mj.init.length cc3] 68))
       have HA1 := Lib.hid (HA.out.grow HAl.out)
       have HO1 := Lib.hid (HO9.out.trans (Only.of_below (bs := K.bs) HAl.out))
       generalize wr.alloc _ = wq at *
       have HXS := Lib.hid (show 0 ≤ 1 + sumD (ms.take j) ∧ 1 + sumD (ms.take j) ≤ 10000000 by have := HSD.out; have := HTK.out; omega)
       have HSN := Lib.hid (initAll_snoc K.n (ms.take j) mj 1 (fun _ => 0))
       rw [← HTN.out] at HSN
       clear d0 d1 d2 d3 d4 HSD HTK HA HO9 HAl HBw hb0r
       generalize 1 + sumD (ms.take j) = xd at *
       generalize initAll K.n 1 (ms.take j) (fun _ => 0) = ws0 at *
       go_loopg [162] (mj.init.length) (fun q y wz => ∃ (k u : Nat), y = .int .i64 (k : Nat) ∧ k + u = mj.init.length ∧ u ≤ q ∧ At K (zeroG (initRow K.n xd (mj.init.take k) ws0) inp) wz ∧ Only K.bs w11 wz)
       case atStart => exact ⟨0, mj.init.length, rfl, by omega, Nat.le_refl _, HA1.out, HO1.out⟩
       case round =>
        obtain ⟨k, u, rfl, hku, huq, hat, hon⟩ := hrel
        have HAz := Lib.hid hat
        have HOz := Lib.hid hon
        have HBz := Lib.hid (HB11.out.trans (hon.below HB11.out.size HKs.out))
        have HKU := Lib.hid hku
        clear hat hon hku HA1 HO1
        rename World => wz
        cases u with
        | zero =>
          obtain rfl : k = mj.init.length := by have := HKU.out; omega
          rw [List.take_length] at HAz
          go_wp2_with fail
          go_roundg r
          case measure => omega
          case rel => exact ⟨j + 1, r, rfl, by have := HJR.out; omega, Nat.le_refl _, HSN.out ▸ HAz.out, HOz.out⟩
        | succ u =>
          have hkl : k < mj.init.length := by have := HKU.out; omega
          have hklI : (k : Int) < (mj.init.length : Int) := by omega
          have hil := HIL.out
          have hkI : (k : Int) ≤ 10000000 := by omega
          obtain ⟨bi, oi, rfl, hbi, hci⟩ := HIN.out.at_ (j := k) hkl
          have hc0 := (HBz.out.cell (p := ⟨bi, oi + k * 1, none⟩) hbi).trans hci.1
          have HXB := Lib.hid hci.2
          have HTK := Lib.hid (take_nxt mj.init 0 k hkl)
          generalize mj.init.getD k 0 = xv at *
          have hbz : bi < wz.heap.size := Nat.lt_of_lt_of_le hbi HBz.out.size
          rw [Nat.mul_one] at hc0
          clear hci hil
          go_upto_region 28 with (fail)
          refine wp_region_tail 14 (by kernel_rfl) (by kernel_rfl) ?_
          have HAd := Lib.hid (HAz.out.grow (drew_below wz))
          have HOd := Lib.hid (HOz.out.trans (Only.of_below (bs := K.bs) (drew_below wz)))
          clear HAz HOz hc0 HBz
          generalize wz.drew = wd at *
          have c3 := HAd.out.c3
          have c5 := HAd.out.c5
          obtain ⟨bd, od, ed, hbd, hcd⟩ := Each.at_ (HAd.out.data.reads (mask_reads _ _)) (j := j) (by rw [HDK.out, dataL_len]; exact hjl)
          rw [HKb.out] at c3 c5
          rw [ed, HDK.out, dataL_len] at c5
          rw [Nat.mul_one, HDK.out, HDJ.out] at hcd
          have hxs := HXS.out
          have e1 : IntKind.i64.wrap (xd + (k : Int)) = xd + (k : Int) := IntWalk.i64_in _ (by omega)
          have hql : b < wd.heap.size := by have := HAd.out.lt; rw [HKb.out] at this; exact this
          simp only [List.take_succ_cons, List.take_zero, List.drop_succ_cons, List.drop_zero]
          repeat still_step
          refine wpStill_nil ?_
          go_wp2_with fail
          refine (store_any K.bs K.bm K.n HKm.out _ _ _ HXB.out _ HAd.out.mem).mono ?_
          rintro e wy ⟨rfl, hm, ho, hf⟩
          have HAy := Lib.hid (HAd.out.setMem HKo.out hm ho (fun q hq hne => hf q hq hne))
          have HOy := Lib.hid (HOd.out.trans ho)
          clear hm ho hf c3 c5 hcd e1 HAd HOd
          go_wp2_with fail
          go_roundg u
          case measure => omega
          case rel =>
           refine ⟨k + 1, u, by go_num, by have := HKU.out; omega, Nat.le_refl _, ?_, HOy.out⟩
           rw [HTK.out, initRow_snoc]
           have hl : (mj.init.take k).length = k := by rw [List.length_take]; omega
           rw [hl]
           exact HAy.out
end Go.Proofs.YtabenhpjgjjgnaaGreatDoor
