/- obj. obj. Condition: what lies in memory can lie there; what each theorem says. -/
import Derived.Test.YtabenhpjgjjgnaaGreatDoorCg
import Derived.Test.YtabenhpjgjjgnaaGreatDoorCe
import Derived.RegionTactic
import Derived.ChangeAlike
/- obj. -/
namespace Go.Proofs.YtabenhpjgjjgnaaGreatDoor
open Go.RowKit
set_option maxRecDepth 100000
theorem flat_at {α : Type} (f : α → List Value) (c : Nat) (h : ∀ x, (f x).length = c) (l : List α) (d : α) (j t : Nat) (hj : j < l.length) (ht : t < c) : (l.flatMap f)[j * c + t]? = (f (l.getD j d))[t]? := by
 induction l generalizing j with
 | nil => simp at hj
 | cons x l ih =>
   rw [List.flatMap_cons, List.getElem?_append]
   cases j with
   | zero => rw [if_pos (by rw [h]; omega)]; simp
   | succ j =>
     have e : (j + 1) * c + t = j * c + t + c := by rw [Nat.add_mul]; omega
     rw [if_neg (by rw [h]; omega), h, e, Nat.add_sub_cancel, ih j (by simpa using hj)]
     simp
theorem own_each {w : World} {B : Nat} {e : TypeId} {c : Nat} {A : Option Addr} {n cap : Nat} {α : Type} {f : α → List Value} {l : List α} (hc : ∀ x, (f x).length = c) (h : w.ownsRow B e c (.slice A n cap) l.length (l.flatMap f)) (d : α) {P : Nat → Nat → Nat → Prop}
 (hP : ∀ g j o, (∀ t u, (f (l.getD j d))[t]? = some u → w.cell? ⟨g, o + t, none⟩ = some u) → P j g o) : Each w A c l.length P := by
 have h' := h
 rcases h.2 with ⟨_, h0⟩ | ⟨g, cap', cur, he, _, hgg, _⟩
 ·exact .inl h0
 ·refine .inr ⟨g, 0, by injection he, lt_of_get hgg, fun j hj => hP g j _ fun t u htu => ?_⟩
  have ht : t < c := by have := (List.getElem?_eq_some_iff.1 htu).1; rwa [hc] at this
  have := h'.cells (g := g) (by rw [he]; rfl) (j * c + t) u (by rw [flat_at f c hc l d j t hj ht]; exact htu)
  have e2 : (⟨g, 0, none⟩ : Addr).add (j * c + t) = ⟨g, 0 + j * c + t, none⟩ := by unfold Addr.add; split <;> simp_all
  rw [e2] at this
  exact this
theorem own_procs {w : World} {B : Nat} {A : Option Addr} {n cap : Nat} {l : List ProcL} (h : w.ownsRow B 113 6 (.slice A n cap) l.length (l.flatMap cellsP)) : Procs w A l :=
 own_each (f := cellsP) (c := 6) (P := fun j b o => ProcAt w b o (l.getD j default)) (fun _ => rfl) h default fun _ _ _ hu => ⟨hu 0 _ rfl, hu 1 _ rfl, hu 2 _ rfl, hu 3 _ rfl, hu 4 _ rfl, hu 5 _ rfl⟩
theorem own_ints {w : World} {B : Nat} {A : Option Addr} {n cap : Nat} {l : List Int} (h : w.ownsRow B 3 1 (.slice A n cap) l.length (l.flatMap cellsI)) : Ints w A l :=
 own_each (f := cellsI) (c := 1) (P := fun j b o => w.cell? ⟨b, o, none⟩ = some (.int .i64 (l.getD j 0))) (fun _ => rfl) h 0 fun _ _ _ hu => hu 0 _ rfl
theorem own_words {w : World} {B : Nat} {A : Option Addr} {n cap : Nat} {l : List Nat} (hl : ∀ x ∈ l, x < 65536) (h : w.ownsRow B 50 1 (.slice A n cap) l.length (l.flatMap cellsW)) : Words w A l :=
 own_each (f := cellsW) (c := 1) (P := fun j b o => w.cell? ⟨b, o, none⟩ = some (.int .u16 (l.getD j 0)) ∧ l.getD j 0 < 65536) (fun _ => rfl) h 0 fun _ j _ hu => ⟨hu 0 _ rfl, by
  by_cases hj : j < l.length
  ·exact hl _ (by rw [List.getD_eq_getElem?_getD, List.getElem?_eq_getElem hj]; exact List.getElem_mem hj)
  ·rw [List.getD_eq_getElem?_getD, List.getElem?_eq_none (by omega)]; simp⟩
theorem words_lt (k : Nat) (q : Rs) : ∀ x ∈ (listTo wordR k q).1, x < 65536 := by
 induction k with
 | zero => intro x hx; simp [listTo] at hx
 | succ k ih =>
   cases h : (listTo wordR k q).2.bad
   ·rw [listTo_succ_ok _ _ _ h]
    intro x hx
    rcases List.mem_append.1 hx with hx | hx
    ·exact ih x hx
    ·rw [List.mem_singleton] at hx; rw [hx]; exact numV2_lt _
   ·rw [listTo_succ_bad _ _ _ h]; exact ih
theorem own_n {w : World} {B : Nat} {e : TypeId} {size : Nat} {A : Option Addr} {n m c : Nat} {xs : List Value} (h : w.ownsRow B e size (.slice A n c) m xs) : n = m := by
 rcases h.2 with ⟨h1, h2⟩ | ⟨g, cap, cur, h1, _⟩
 ·injection h1 with _ h3 _; omega
 ·injection h1 with _ h3 _
structure MI (w : World) (r : Nat) (cs : Array Value) (q : Rs) (W : World) : Prop where
 box : Box w.heap.size cs 68 W
 rd : RdAt r q W
 old : w.grownBy W (some r)
 ne : w.heap.size ≠ r
theorem MI.read {w : World} {r : Nat} {cs : Array Value} {q q' : Rs} {W W' : World} (h : MI w r cs q W) (h2 : RdAt r q' W') (hg : W.grownBy W' (some r)) : MI w r cs q' W' := ⟨h.box.other hg h.ne, h2, h.old.trans hg, h.ne⟩
theorem MI.set {w : World} {r : Nat} {cs ds : Array Value} {q : Rs} {W : World} (h : MI w r cs q W) (i : Nat) (v : Value) (e : cs.setIfInBounds i v = ds) : MI w r ds q (W.setCell ⟨w.heap.size, i, none⟩ v) :=
 ⟨(h.box.set i v).to e, h.rd.setOther h.ne i v, grown_setNew h.old (Nat.le_refl _) i v, h.ne⟩
theorem own_set {W : World} {e : TypeId} {size : Nat} {v : Value} {n : Nat} {xs : List Value} {B : Nat} (h : W.ownsRow B e size v n xs) {p : Nat} (hp : p < B) (i : Nat) (u : Value) : (W.setCell ⟨p, i, none⟩ u).ownsRow B e size v n xs := by
 refine ⟨h.1, ?_⟩
 rcases h.2 with hn | ⟨g, cap, cur, rfl, hB, hgg, rest⟩
 ·exact .inl hn
 ·exact .inr ⟨g, cap, cur, rfl, hB, (Below.heap_setCell _ _ _ _ (fun e => by have : g = p := e; omega)).trans hgg, rest⟩
theorem MI.bad {w : World} {r : Nat} {cs : Array Value} {s : List UInt8} {b : Bool} {W : World} (h : MI w r cs ⟨s, b⟩ W) (c : Bool) : MI w r cs ⟨s, c⟩ (W.setCell ⟨r, 1, none⟩ (.bool c)) :=
 ⟨h.box.setOther (fun e => h.ne e.symm) 1 _, Box.to (Box.set h.rd 1 (.bool c)) (by simp), grown_set h.old 1 _, h.ne⟩
theorem MI.grow {w : World} {r : Nat} {cs : Array Value} {q : Rs} {W W' : World} (h : MI w r cs q W) (hb : Below W.heap.size W W') : MI w r cs q W' := ⟨h.box.grow hb, h.rd.other hb, h.old.trans (grown_below hb), h.ne⟩
structure R3 (w : World) (A5 : Option Addr) (c5 : Nat) (mp : List ProcL) (A8 : Option Addr) (c8 : Nat) (mi : List Int) (Ad : Option Addr) (cd : Nat) (mt : List Nat) (W : World) : Prop where
 o1 : W.ownsRow (w.heap.size + 1) 113 6 (.slice A5 mp.length c5) mp.length (mp.flatMap cellsP)
 o2 : W.ownsRow (w.heap.size + 1) 3 1 (.slice A8 mi.length c8) mi.length (mi.flatMap cellsI)
 o3 : W.ownsRow (w.heap.size + 1) 50 1 (.slice Ad mt.length cd) mt.length (mt.flatMap cellsW)
theorem R3.set {w : World} {A5 : Option Addr} {c5 : Nat} {mp : List ProcL} {A8 : Option Addr} {c8 : Nat} {mi : List Int} {Ad : Option Addr} {cd : Nat} {mt : List Nat} {W : World} (h : R3 w A5 c5 mp A8 c8 mi Ad cd mt W) {p : Nat} (hp : p < w.heap.size + 1) (i : Nat) (v : Value) : R3 w A5 c5 mp A8 c8 mi Ad cd mt (W.setCell ⟨p, i, none⟩ v) :=
 ⟨own_set h.o1 hp i v, own_set h.o2 hp i v, own_set h.o3 hp i v⟩
theorem R3.grow {w : World} {A5 : Option Addr} {c5 : Nat} {mp : List ProcL} {A8 : Option Addr} {c8 : Nat} {mi : List Int} {Ad : Option Addr} {cd : Nat} {mt : List Nat} {W W' : World} (h : R3 w A5 c5 mp A8 c8 mi Ad cd mt W) (hb : Below W.heap.size W W') : R3 w A5 c5 mp A8 c8 mi Ad cd mt W' :=
 ⟨own_later h.o1 hb, own_later h.o2 hb, own_later h.o3 hb⟩
theorem R3.mod {w : World} {A5 : Option Addr} {c5 : Nat} {mp : List ProcL} {A8 : Option Addr} {c8 : Nat} {mi : List Int} {Ad : Option Addr} {cd : Nat} {mt : List Nat} {W : World} (h : R3 w A5 c5 mp A8 c8 mi Ad cd mt W) {code : List UInt8} {dat : Int} (hw : ∀ x ∈ mt, x < 65536) (h0 : code.length ≤ 140737488355328) (h1 : mp.length ≤ 140737488355328) (h2 : mi.length ≤ 140737488355328) (h3 : mt.length ≤ 140737488355328) : ModIn W ⟨A5, c5, A8, c8, Ad, cd⟩ ⟨code, mp, mi, dat, mt⟩ :=
 ⟨own_procs h.o1, own_ints h.o2, own_words hw h.o3, h0, h1, h2, h3⟩
structure Fresh (w : World) (s : MS) (m : ModL) (W : World) : Prop where
 rows : R3 w s.A1 s.c1 m.procs s.A2 s.c2 m.imports s.A3 s.c3 m.init W
 words : ∀ x ∈ m.init, x < 65536
 l0 : m.code.length ≤ 65535
 l1 : m.procs.length ≤ 65535
 l2 : m.imports.length ≤ 65535
 l3 : m.init.length ≤ 65535
theorem Fresh.set {w : World} {s : MS} {m : ModL} {W : World} (h : Fresh w s m W) {p : Nat} (hp : p < w.heap.size + 1) (i : Nat) (v : Value) : Fresh w s m (W.setCell ⟨p, i, none⟩ v) := ⟨h.rows.set hp i v, h.words, h.l0, h.l1, h.l2, h.l3⟩
theorem Fresh.grow {w : World} {s : MS} {m : ModL} {W W' : World} (h : Fresh w s m W) (hb : Below W.heap.size W W') : Fresh w s m W' := ⟨h.rows.grow hb, h.words, h.l0, h.l1, h.l2, h.l3⟩
theorem Fresh.mod {w : World} {s : MS} {m : ModL} {W : World} (h : Fresh w s m W) : ModIn W s m := by
 have h0 := h.l0
 have h1 := h.l1
 have h2 := h.l2
 have h3 := h.l3
 exact R3.mod h.rows h.words (by omega) (by omega) (by omega) (by omega)
def ModEnd (w : World) (r : Nat) (m : ModL) (q : Rs) (e : Ending) (w' : World) : Prop := ∃ s, e = .returned (modV s m) ∧ Fresh w s m w' ∧ RdAt r q w' ∧ w.grownBy w' (some r)
set_option maxHeartbeats 4000000 in
theorem rdModule_any (r : Nat) (q : Rs) (hs : q.s.length ≤ 140737488355328) (w : World) (hR : RdAt r q w) :
 Calls Tryz.prog 116 #[.pointer (some ⟨r, 0, none⟩)] w (ModEnd w r (modM q) (modS q)) := by
 have hrl := Box.lt hR
 have hne : w.heap.size ≠ r := by omega
 have HA := Lib.hid (alloc_below w (.cells #[.string ⟨#[]⟩, .slice none 0 0, .slice none 0 0, .int .i64 0, .slice none 0 0] 68))
 have HM := Lib.hid (show MI w r #[.string ⟨#[]⟩, .slice none 0 0, .slice none 0 0, .int .i64 0, .slice none 0 0] q (w.alloc (.cells #[.string ⟨#[]⟩, .slice none 0 0, .slice none 0 0, .int .i64 0, .slice none 0 0] 68)) from ⟨Box.new _ _ _ (by decide), hR.other HA.out, grown_below HA.out, hne⟩)
 have HMod := Lib.hid (show modM q = ⟨rawV (rawS q 2) (numV q 2), (ps q).1, (is q).1, numV (is q).2 2, (ts q).1⟩ from rfl)
 have HSt := Lib.hid (show modS q = ⟨(ts q).2.s, (ts q).2.bad || !modOkB (modM q)⟩ from rfl)
 have Hr2 := Lib.hid (show rawS (rawS q 2) (numV q 2) = r2 q from rfl)
 have Hps := Lib.hid (show listTo procR (numV (r2 q) 2) (rawS (r2 q) 2) = ps q from rfl)
 have His := Lib.hid (show listTo impR (numV (ps q).2 1) (rawS (ps q).2 1) = is q from rfl)
 have Hr7 := Lib.hid (show rawS (is q).2 2 = r7 q from rfl)
 have Hts := Lib.hid (show listTo wordR (numV (r7 q) 2) (rawS (r7 q) 2) = ts q from rfl)
 have z1 : (rawS q 2).s.length ≤ 140737488355328 := Nat.le_trans (rawS_len q 2) hs
 have z2 : (r2 q).s.length ≤ 140737488355328 := Nat.le_trans (rawS_len _ _) z1
 have z3 : (rawS (r2 q) 2).s.length ≤ 140737488355328 := Nat.le_trans (rawS_len _ _) z2
 have z4 : (ps q).2.s.length ≤ 140737488355328 := Nat.le_trans (listTo_s procR procR_len _ _) z3
 have z5 : (rawS (ps q).2 1).s.length ≤ 140737488355328 := Nat.le_trans (rawS_len _ _) z4
 have z6 : (is q).2.s.length ≤ 140737488355328 := Nat.le_trans (listTo_s impR (fun q => rawS_len q 1) _ _) z5
 have z7 : (r7 q).s.length ≤ 140737488355328 := Nat.le_trans (rawS_len _ _) z6
 have z8 : (rawS (r7 q) 2).s.length ≤ 140737488355328 := Nat.le_trans (rawS_len _ _) z7
 have y1 := numV2_lt q
 have y2 := numV2_lt (r2 q)
 have y3 := numV1_lt (ps q).2
 have y4 := numV2_lt (is q).2
 have y5 := numV2_lt (r7 q)
 have x0 := rawV_len (rawS q 2) (numV q 2)
 have x1 : (ps q).1.length ≤ numV (r2 q) 2 := listTo_len procR _ _
 have x2 : (is q).1.length ≤ numV (ps q).2 1 := listTo_len impR _ _
 have x3 : (ts q).1.length ≤ numV (r7 q) 2 := listTo_len wordR _ _
 have HW := Lib.hid (show ∀ x ∈ (ts q).1, x < 65536 from words_lt _ _)
 clear hR HA
 go_enter Tryz.func116, Tryz.ntmps116
 go_wp2_with fail
 generalize w.alloc (.cells #[.string ⟨#[]⟩, .slice none 0 0, .slice none 0 0, .int .i64 0, .slice none 0 0] 68) = w0 at *
 refine (two_any r q hs _ HM.out.rd).mono ?_
 rintro e w1 ⟨rfl, hr1, hg1⟩
 have HM1 := Lib.hid (HM.out.read hr1 hg1)
 clear hr1 hg1 HM
 go_wp2_with fail
 refine (raw_any r (rawS q 2) (numV q 2) (by omega) z1 _ HM1.out.rd).mono ?_
 rintro e w2 ⟨rfl, hr1, hg1⟩
 rw [Hr2.out] at hr1
 have HM2 := Lib.hid (HM1.out.read hr1 hg1)
 clear hr1 hg1 HM1
 generalize rawV (rawS q 2) (numV q 2) = code at *
 have c0 : w2.cell? ⟨w.heap.size, 0, none⟩ = some (.string ⟨#[]⟩) := (HM2.out.box.cell 0).trans rfl
 have f0 := HM2.out.box.frozen 0
 go_wp2_with fail
 have HM3 := Lib.hid (HM2.out.set 0 (.string ⟨code.toArray⟩) (ds := #[.string ⟨code.toArray⟩, .slice none 0 0, .slice none 0 0, .int .i64 0, .slice none 0 0]) (by simp))
 clear c0 f0 HM2
 generalize World.setCell w2 ⟨w.heap.size, 0, none⟩ (.string ⟨code.toArray⟩) = w3 at *
 refine (two_any r (r2 q) z2 _ HM3.out.rd).mono ?_
 rintro e w4 ⟨rfl, hr1, hg1⟩
 have HM4 := Lib.hid (HM3.out.read hr1 hg1)
 clear hr1 hg1 HM3
 go_wp2_with fail
 refine (listProcs r (rawS (r2 q) 2) (numV (r2 q) 2) (by omega) z3 _ HM4.out.rd).mono ?_
 rintro e w5 ⟨v5, rfl, ho5, hr1, hg1⟩
 rw [Hps.out] at ho5 hr1
 obtain ⟨A5, c5, rfl⟩ := own_slice' ho5
 have HM5 := Lib.hid (HM4.out.read hr1 hg1)
 have hb5 : w.heap.size < w4.heap.size := HM4.out.box.lt
 have HO5 := Lib.hid ho5
 clear hr1 hg1 HM4 ho5
 have c1 : w5.cell? ⟨w.heap.size, 1, none⟩ = some (.slice none 0 0) := (HM5.out.box.cell 1).trans rfl
 have f1 := HM5.out.box.frozen 1
 go_wp2_with fail
 have HM6 := Lib.hid (HM5.out.set 1 (.slice A5 (ps q).1.length c5) (ds := #[.string ⟨code.toArray⟩, .slice A5 (ps q).1.length c5, .slice none 0 0, .int .i64 0, .slice none 0 0]) (by simp))
 have HO6 := Lib.hid (own_lower (own_set HO5.out hb5 1 (.slice A5 (ps q).1.length c5)) (B' := w.heap.size + 1) hb5)
 clear c1 f1 HM5 HO5
 generalize World.setCell w5 ⟨w.heap.size, 1, none⟩ (.slice A5 (ps q).1.length c5) = w6 at *
 refine (one_any r (ps q).2 z4 _ HM6.out.rd).mono ?_
 rintro e w7 ⟨rfl, hr1, hg1⟩
 have HM7 := Lib.hid (HM6.out.read hr1 hg1)
 have HO7 := Lib.hid (own_other HO6.out hg1 (by omega))
 clear hr1 hg1 HM6 HO6
 go_wp2_with fail
 refine (listInts r (rawS (ps q).2 1) (numV (ps q).2 1) (by omega) z5 _ HM7.out.rd).mono ?_
 rintro e w8 ⟨v8, rfl, ho8, hr1, hg1⟩
 rw [His.out] at ho8 hr1
 obtain ⟨A8, c8, rfl⟩ := own_slice' ho8
 have HM8 := Lib.hid (HM7.out.read hr1 hg1)
 have HO8 := Lib.hid (own_other HO7.out hg1 (by omega))
 have hb8 : w.heap.size < w7.heap.size := HM7.out.box.lt
 have HI8 := Lib.hid ho8
 clear hr1 hg1 HM7 HO7 ho8
 have c2 : w8.cell? ⟨w.heap.size, 2, none⟩ = some (.slice none 0 0) := (HM8.out.box.cell 2).trans rfl
 have f2 := HM8.out.box.frozen 2
 go_wp2_with fail
 have HM9 := Lib.hid (HM8.out.set 2 (.slice A8 (is q).1.length c8) (ds := #[.string ⟨code.toArray⟩, .slice A5 (ps q).1.length c5, .slice A8 (is q).1.length c8, .int .i64 0, .slice none 0 0]) (by simp))
 have HO9 := Lib.hid (own_set HO8.out (Nat.lt_succ_self _) 2 (.slice A8 (is q).1.length c8))
 have HI9 := Lib.hid (own_lower (own_set HI8.out hb8 2 (.slice A8 (is q).1.length c8)) (B' := w.heap.size + 1) hb8)
 clear c2 f2 HM8 HO8 HI8
 generalize World.setCell w8 ⟨w.heap.size, 2, none⟩ (.slice A8 (is q).1.length c8) = w9 at *
 refine (two_any r (is q).2 z6 _ HM9.out.rd).mono ?_
 rintro e wa ⟨rfl, hr1, hg1⟩
 rw [Hr7.out] at hr1
 have HMa := Lib.hid (HM9.out.read hr1 hg1)
 have HOa := Lib.hid (own_other HO9.out hg1 (by omega))
 have HIa := Lib.hid (own_other HI9.out hg1 (by omega))
 clear hr1 hg1 HM9 HO9 HI9
 generalize numV (is q).2 2 = dat at *
 have c3 : wa.cell? ⟨w.heap.size, 3, none⟩ = some (.int .i64 0) := (HMa.out.box.cell 3).trans rfl
 have f3 := HMa.out.box.frozen 3
 go_wp2_with fail
 have HMb := Lib.hid (HMa.out.set 3 (.int .i64 dat) (ds := #[.string ⟨code.toArray⟩, .slice A5 (ps q).1.length c5, .slice A8 (is q).1.length c8, .int .i64 dat, .slice none 0 0]) (by simp))
 have HOb := Lib.hid (own_set HOa.out (Nat.lt_succ_self _) 3 (.int .i64 dat))
 have HIb := Lib.hid (own_set HIa.out (Nat.lt_succ_self _) 3 (.int .i64 dat))
 clear c3 f3 HMa HOa HIa
 generalize World.setCell wa ⟨w.heap.size, 3, none⟩ (.int .i64 dat) = wb at *
 refine (two_any r (r7 q) z7 _ HMb.out.rd).mono ?_
 rintro e wc ⟨rfl, hr1, hg1⟩
 have HMc := Lib.hid (HMb.out.read hr1 hg1)
 have HOc := Lib.hid (own_other HOb.out hg1 (by omega))
 have HIc := Lib.hid (own_other HIb.out hg1 (by omega))
 clear hr1 hg1 HMb HOb HIb
 go_wp2_with fail
 refine (listWords r (rawS (r7 q) 2) (numV (r7 q) 2) (by omega) z8 _ HMc.out.rd).mono ?_
 rintro e wd ⟨vd, rfl, hod, hr1, hg1⟩
 rw [Hts.out] at hod hr1
 obtain ⟨Ad, cd, rfl⟩ := own_slice' hod
 have HMd := Lib.hid (HMc.out.read hr1 hg1)
 have HOd := Lib.hid (own_other HOc.out hg1 (by omega))
 have HId := Lib.hid (own_other HIc.out hg1 (by omega))
 have hbd : w.heap.size < wc.heap.size := HMc.out.box.lt
 have HTd := Lib.hid hod
 clear hr1 hg1 HMc HOc HIc hod
 have c4 : wd.cell? ⟨w.heap.size, 4, none⟩ = some (.slice none 0 0) := (HMd.out.box.cell 4).trans rfl
 have f4 := HMd.out.box.frozen 4
 go_upto_region 6 with (fail)
 have HMe := Lib.hid (HMd.out.set 4 (.slice Ad (ts q).1.length cd) (ds := #[.string ⟨code.toArray⟩, .slice A5 (ps q).1.length c5, .slice A8 (is q).1.length c8, .int .i64 dat, .slice Ad (ts q).1.length cd]) (by simp))
 have HOe := Lib.hid (own_set HOd.out (Nat.lt_succ_self _) 4 (.slice Ad (ts q).1.length cd))
 have HIe := Lib.hid (own_set HId.out (Nat.lt_succ_self _) 4 (.slice Ad (ts q).1.length cd))
 have HTe := Lib.hid (own_lower (own_set HTd.out hbd 4 (.slice Ad (ts q).1.length cd)) (B' := w.heap.size + 1) hbd)
 clear c4 f4 HMd HOd HId HTd
 generalize World.setCell wd ⟨w.heap.size, 4, none⟩ (.slice Ad (ts q).1.length cd) = we at *
 have HRe := Lib.hid (show R3 w A5 c5 (ps q).1 A8 c8 (is q).1 Ad cd (ts q).1 we from ⟨HOe.out, HIe.out, HTe.out⟩)
 clear HOe HIe HTe
 generalize (ts q).2 = qt at *
 obtain ⟨st, bt⟩ := qt
 simp only at HSt
 have g1 : we.cell? ⟨r, 1, none⟩ = some (.bool bt) := (HMe.out.rd.cell 1).trans rfl
 have h1 := HMe.out.rd.frozen 1
 cases bt
 case true =>
  rw [Bool.true_or] at HSt
  go_upto_region 7 with (fail)
  have HMf := Lib.hid (HMe.out.bad true)
  have HRf := Lib.hid (HRe.out.set (p := r) (by omega) 1 (.bool true))
  clear g1 h1 HMe HRe
  generalize World.setCell we ⟨r, 1, none⟩ (.bool true) = wf at *
  have c0 : wf.cell? ⟨w.heap.size, 0, none⟩ = some (.string ⟨code.toArray⟩) := (HMf.out.box.cell 0).trans rfl
  have f0 := HMf.out.box.frozen 0
  have c1 : wf.cell? ⟨w.heap.size, 1, none⟩ = some (.slice A5 (ps q).1.length c5) := (HMf.out.box.cell 1).trans rfl
  have f1 := HMf.out.box.frozen 1
  have c2 : wf.cell? ⟨w.heap.size, 2, none⟩ = some (.slice A8 (is q).1.length c8) := (HMf.out.box.cell 2).trans rfl
  have f2 := HMf.out.box.frozen 2
  have c3 : wf.cell? ⟨w.heap.size, 3, none⟩ = some (.int .i64 dat) := (HMf.out.box.cell 3).trans rfl
  have f3 := HMf.out.box.frozen 3
  have c4 : wf.cell? ⟨w.heap.size, 4, none⟩ = some (.slice Ad (ts q).1.length cd) := (HMf.out.box.cell 4).trans rfl
  have f4 := HMf.out.box.frozen 4
  go_wp2_with fail
  have HMg0 := Lib.hid (HMf.out.set 0 (.string ⟨code.toArray⟩) (ds := #[.string ⟨code.toArray⟩, .slice A5 (ps q).1.length c5, .slice A8 (is q).1.length c8, .int .i64 dat, .slice Ad (ts q).1.length cd]) (by simp))
  have HRg0 := Lib.hid (HRf.out.set (Nat.lt_succ_self _) 0 (.string ⟨code.toArray⟩))
  have HMg1 := Lib.hid (HMg0.out.set 1 (.slice A5 (ps q).1.length c5) (ds := #[.string ⟨code.toArray⟩, .slice A5 (ps q).1.length c5, .slice A8 (is q).1.length c8, .int .i64 dat, .slice Ad (ts q).1.length cd]) (by simp))
  have HRg1 := Lib.hid (HRg0.out.set (Nat.lt_succ_self _) 1 (.slice A5 (ps q).1.length c5))
  have HMg2 := Lib.hid (HMg1.out.set 2 (.slice A8 (is q).1.length c8) (ds := #[.string ⟨code.toArray⟩, .slice A5 (ps q).1.length c5, .slice A8 (is q).1.length c8, .int .i64 dat, .slice Ad (ts q).1.length cd]) (by simp))
  have HRg2 := Lib.hid (HRg1.out.set (Nat.lt_succ_self _) 2 (.slice A8 (is q).1.length c8))
  have HMg3 := Lib.hid (HMg2.out.set 3 (.int .i64 dat) (ds := #[.string ⟨code.toArray⟩, .slice A5 (ps q).1.length c5, .slice A8 (is q).1.length c8, .int .i64 dat, .slice Ad (ts q).1.length cd]) (by simp))
  have HRg3 := Lib.hid (HRg2.out.set (Nat.lt_succ_self _) 3 (.int .i64 dat))
  have HMg4 := Lib.hid (HMg3.out.set 4 (.slice Ad (ts q).1.length cd) (ds := #[.string ⟨code.toArray⟩, .slice A5 (ps q).1.length c5, .slice A8 (is q).1.length c8, .int .i64 dat, .slice Ad (ts q).1.length cd]) (by simp))
  have HRg4 := Lib.hid (HRg3.out.set (Nat.lt_succ_self _) 4 (.slice Ad (ts q).1.length cd))
  clear c0 f0 c1 f1 c2 f2 c3 f3 c4 f4 HMf HRf HMg0 HMg1 HMg2 HMg3 HRg0 HRg1 HRg2 HRg3
  generalize World.setCell (World.setCell (World.setCell (World.setCell (World.setCell wf ⟨w.heap.size, 0, none⟩ (.string ⟨code.toArray⟩)) ⟨w.heap.size, 1, none⟩ (.slice A5 (ps q).1.length c5)) ⟨w.heap.size, 2, none⟩ (.slice A8 (is q).1.length c8)) ⟨w.heap.size, 3, none⟩ (.int .i64 dat)) ⟨w.heap.size, 4, none⟩ (.slice Ad (ts q).1.length cd) = wz at *
  have c0 : wz.cell? ⟨w.heap.size, 0, none⟩ = some (.string ⟨code.toArray⟩) := (HMg4.out.box.cell 0).trans rfl
  have c1 : wz.cell? ⟨w.heap.size, 1, none⟩ = some (.slice A5 (ps q).1.length c5) := (HMg4.out.box.cell 1).trans rfl
  have c2 : wz.cell? ⟨w.heap.size, 2, none⟩ = some (.slice A8 (is q).1.length c8) := (HMg4.out.box.cell 2).trans rfl
  have c3 : wz.cell? ⟨w.heap.size, 3, none⟩ = some (.int .i64 dat) := (HMg4.out.box.cell 3).trans rfl
  have c4 : wz.cell? ⟨w.heap.size, 4, none⟩ = some (.slice Ad (ts q).1.length cd) := (HMg4.out.box.cell 4).trans rfl
  refine bodyPost_ret (v := .agg #[.string ⟨code.toArray⟩, .slice A5 (ps q).1.length c5, .slice A8 (is q).1.length c8, .int .i64 dat, .slice Ad (ts q).1.length cd]) (by simp [results, Tryz.results116, go_sem, c0, c1, c2, c3, c4]) rfl ?_
  rw [HMod.out, HSt.out]
  exact ⟨⟨A5, c5, A8, c8, Ad, cd⟩, rfl, ⟨HRg4.out, HW.out, by simp only; omega, by simp only; omega, by simp only; omega, by simp only; omega⟩, HMg4.out.rd, HMg4.out.old⟩
 case false =>
  rw [Bool.false_or, HMod.out] at HSt
  have e0 : we.cell? ⟨w.heap.size, 0, none⟩ = some (.string ⟨code.toArray⟩) := (HMe.out.box.cell 0).trans rfl
  have e1 : we.cell? ⟨w.heap.size, 1, none⟩ = some (.slice A5 (ps q).1.length c5) := (HMe.out.box.cell 1).trans rfl
  have e2 : we.cell? ⟨w.heap.size, 2, none⟩ = some (.slice A8 (is q).1.length c8) := (HMe.out.box.cell 2).trans rfl
  have e3 : we.cell? ⟨w.heap.size, 3, none⟩ = some (.int .i64 dat) := (HMe.out.box.cell 3).trans rfl
  have e4 : we.cell? ⟨w.heap.size, 4, none⟩ = some (.slice Ad (ts q).1.length cd) := (HMe.out.box.cell 4).trans rfl
  go_wp2_with fail
  refine (objModule_any ⟨A5, c5, A8, c8, Ad, cd⟩ ⟨code, (ps q).1, (is q).1, dat, (ts q).1⟩ _ (HRe.out.mod HW.out (by omega) (by omega) (by omega) (by omega))).mono ?_
  rintro e wf0 ⟨rfl, hbf⟩
  have HM0 := Lib.hid (HMe.out.grow hbf)
  have HR0 := Lib.hid (HRe.out.grow hbf)
  clear hbf e0 e1 e2 e3 e4 g1 h1 HMe HRe
  generalize modOkB ⟨code, (ps q).1, (is q).1, dat, (ts q).1⟩ = ok at *
  have g1 : wf0.cell? ⟨r, 1, none⟩ = some (.bool false) := (HM0.out.rd.cell 1).trans rfl
  have h1 := HM0.out.rd.frozen 1
  go_upto_region 7 with (fail)
  have HMf := Lib.hid (HM0.out.bad (!ok))
  have HRf := Lib.hid (HR0.out.set (p := r) (by omega) 1 (.bool (!ok)))
  clear g1 h1 HM0 HR0
  generalize World.setCell wf0 ⟨r, 1, none⟩ (.bool (!ok)) = wf at *
  have c0 : wf.cell? ⟨w.heap.size, 0, none⟩ = some (.string ⟨code.toArray⟩) := (HMf.out.box.cell 0).trans rfl
  have f0 := HMf.out.box.frozen 0
  have c1 : wf.cell? ⟨w.heap.size, 1, none⟩ = some (.slice A5 (ps q).1.length c5) := (HMf.out.box.cell 1).trans rfl
  have f1 := HMf.out.box.frozen 1
  have c2 : wf.cell? ⟨w.heap.size, 2, none⟩ = some (.slice A8 (is q).1.length c8) := (HMf.out.box.cell 2).trans rfl
  have f2 := HMf.out.box.frozen 2
  have c3 : wf.cell? ⟨w.heap.size, 3, none⟩ = some (.int .i64 dat) := (HMf.out.box.cell 3).trans rfl
  have f3 := HMf.out.box.frozen 3
  have c4 : wf.cell? ⟨w.heap.size, 4, none⟩ = some (.slice Ad (ts q).1.length cd) := (HMf.out.box.cell 4).trans rfl
  have f4 := HMf.out.box.frozen 4
  go_wp2_with fail
  have HMg0 := Lib.hid (HMf.out.set 0 (.string ⟨code.toArray⟩) (ds := #[.string ⟨code.toArray⟩, .slice A5 (ps q).1.length c5, .slice A8 (is q).1.length c8, .int .i64 dat, .slice Ad (ts q).1.length cd]) (by simp))
  have HRg0 := Lib.hid (HRf.out.set (Nat.lt_succ_self _) 0 (.string ⟨code.toArray⟩))
  have HMg1 := Lib.hid (HMg0.out.set 1 (.slice A5 (ps q).1.length c5) (ds := #[.string ⟨code.toArray⟩, .slice A5 (ps q).1.length c5, .slice A8 (is q).1.length c8, .int .i64 dat, .slice Ad (ts q).1.length cd]) (by simp))
  have HRg1 := Lib.hid (HRg0.out.set (Nat.lt_succ_self _) 1 (.slice A5 (ps q).1.length c5))
  have HMg2 := Lib.hid (HMg1.out.set 2 (.slice A8 (is q).1.length c8) (ds := #[.string ⟨code.toArray⟩, .slice A5 (ps q).1.length c5, .slice A8 (is q).1.length c8, .int .i64 dat, .slice Ad (ts q).1.length cd]) (by simp))
  have HRg2 := Lib.hid (HRg1.out.set (Nat.lt_succ_self _) 2 (.slice A8 (is q).1.length c8))
  have HMg3 := Lib.hid (HMg2.out.set 3 (.int .i64 dat) (ds := #[.string ⟨code.toArray⟩, .slice A5 (ps q).1.length c5, .slice A8 (is q).1.length c8, .int .i64 dat, .slice Ad (ts q).1.length cd]) (by simp))
  have HRg3 := Lib.hid (HRg2.out.set (Nat.lt_succ_self _) 3 (.int .i64 dat))
  have HMg4 := Lib.hid (HMg3.out.set 4 (.slice Ad (ts q).1.length cd) (ds := #[.string ⟨code.toArray⟩, .slice A5 (ps q).1.length c5, .slice A8 (is q).1.length c8, .int .i64 dat, .slice Ad (ts q).1.length cd]) (by simp))
  have HRg4 := Lib.hid (HRg3.out.set (Nat.lt_succ_self _) 4 (.slice Ad (ts q).1.length cd))
  clear c0 f0 c1 f1 c2 f2 c3 f3 c4 f4 HMf HRf HMg0 HMg1 HMg2 HMg3 HRg0 HRg1 HRg2 HRg3
  generalize World.setCell (World.setCell (World.setCell (World.setCell (World.setCell wf ⟨w.heap.size, 0, none⟩ (.string ⟨code.toArray⟩)) ⟨w.heap.size, 1, none⟩ (.slice A5 (ps q).1.length c5)) ⟨w.heap.size, 2, none⟩ (.slice A8 (is q).1.length c8)) ⟨w.heap.size, 3, none⟩ (.int .i64 dat)) ⟨w.heap.size, 4, none⟩ (.slice Ad (ts q).1.length cd) = wz at *
  have c0 : wz.cell? ⟨w.heap.size, 0, none⟩ = some (.string ⟨code.toArray⟩) := (HMg4.out.box.cell 0).trans rfl
  have c1 : wz.cell? ⟨w.heap.size, 1, none⟩ = some (.slice A5 (ps q).1.length c5) := (HMg4.out.box.cell 1).trans rfl
  have c2 : wz.cell? ⟨w.heap.size, 2, none⟩ = some (.slice A8 (is q).1.length c8) := (HMg4.out.box.cell 2).trans rfl
  have c3 : wz.cell? ⟨w.heap.size, 3, none⟩ = some (.int .i64 dat) := (HMg4.out.box.cell 3).trans rfl
  have c4 : wz.cell? ⟨w.heap.size, 4, none⟩ = some (.slice Ad (ts q).1.length cd) := (HMg4.out.box.cell 4).trans rfl
  refine bodyPost_ret (v := .agg #[.string ⟨code.toArray⟩, .slice A5 (ps q).1.length c5, .slice A8 (is q).1.length c8, .int .i64 dat, .slice Ad (ts q).1.length cd]) (by simp [results, Tryz.results116, go_sem, c0, c1, c2, c3, c4]) rfl ?_
  rw [HMod.out, HSt.out]
  exact ⟨⟨A5, c5, A8, c8, Ad, cd⟩, rfl, ⟨HRg4.out, HW.out, by simp only; omega, by simp only; omega, by simp only; omega, by simp only; omega⟩, HMg4.out.rd, HMg4.out.old⟩
end Go.Proofs.YtabenhpjgjjgnaaGreatDoor
/- obj. -/
namespace Go.Proofs.YtabenhpjgjjgnaaGreatDoor
open Go.RowKit
set_option maxRecDepth 100000
def UnEnd (w : World) (o : Option (ModL × List UInt8)) (e : Ending) (w' : World) : Prop :=
 Below w.heap.size w w' ∧ match o with
 | none => e = .returned (.tuple #[.agg #[.string ⟨#[]⟩, .slice none 0 0, .slice none 0 0, .int .i64 0, .slice none 0 0], .string ⟨#[]⟩, .int .i64 7])
 | some (m, t) => ∃ s w0, e = .returned (.tuple #[modV s m, .string ⟨t.toArray⟩, .int .i64 0]) ∧ w.heap.size ≤ w0.heap.size ∧ Fresh w0 s m w'
theorem unEnd_none {w w' : World} {o : Option (ModL × List UInt8)} (h : o = none) (hb : Below w.heap.size w w') : UnEnd w o (.returned (.tuple #[.agg #[.string ⟨#[]⟩, .slice none 0 0, .slice none 0 0, .int .i64 0, .slice none 0 0], .string ⟨#[]⟩, .int .i64 7])) w' := by
 subst h; exact ⟨hb, rfl⟩
theorem unEnd_some {w w' : World} {o : Option (ModL × List UInt8)} {m : ModL} {t : List UInt8} {s : MS} {w0 : World} (h : o = some (m, t)) (hb : Below w.heap.size w w') (hl : w.heap.size ≤ w0.heap.size) (hI : Fresh w0 s m w') : UnEnd w o (.returned (.tuple #[modV s m, .string ⟨t.toArray⟩, .int .i64 0])) w' := by
 subst h; exact ⟨hb, s, w0, rfl, hl, hI⟩
theorem unpackL_none {s : List UInt8} (h : (modS ⟨s, false⟩).bad = true) : unpackL s = none := by unfold unpackL; rw [h]; rfl
theorem unpackL_some {s : List UInt8} (h : (modS ⟨s, false⟩).bad = false) : unpackL s = some (modM ⟨s, false⟩, (modS ⟨s, false⟩).s) := by unfold unpackL; rw [h]; rfl
set_option maxHeartbeats 2000000 in
theorem unpack_any (s : List UInt8) (hs : s.length ≤ 140737488355328) (w : World) : Calls Tryz.prog 49 #[.string ⟨s.toArray⟩] w (UnEnd w (unpackL s)) := by
 have HB0 := Lib.hid (((Below.refl w.heap.size w).alloc (Nat.le_refl _) (.cells #[.string ⟨#[]⟩, .slice none 0 0, .slice none 0 0, .int .i64 0, .slice none 0 0] 68)).alloc (by simp) (.cells #[.string ⟨s.toArray⟩, .bool false] 169))
 have HX0 := Lib.hid ((Box.new w #[.string ⟨#[]⟩, .slice none 0 0, .slice none 0 0, .int .i64 0, .slice none 0 0] 68 (by decide)).grow (alloc_below _ (.cells #[.string ⟨s.toArray⟩, .bool false] 169)))
 have HR0 := Lib.hid (show RdAt (w.heap.size + 1) ⟨s, false⟩ ((w.alloc (.cells #[.string ⟨#[]⟩, .slice none 0 0, .slice none 0 0, .int .i64 0, .slice none 0 0] 68)).alloc (.cells #[.string ⟨s.toArray⟩, .bool false] 169)) by
  have := Box.new (w.alloc (.cells #[.string ⟨#[]⟩, .slice none 0 0, .slice none 0 0, .int .i64 0, .slice none 0 0] 68)) #[.string ⟨s.toArray⟩, .bool false] 169 (by decide)
  unfold RdAt
  simpa using this)
 have HN := Lib.hid (unpackL_none (s := s))
 have HS := Lib.hid (unpackL_some (s := s))
 go_enter Tryz.func49, Tryz.ntmps49
 go_wp2_with fail
 generalize (w.alloc (.cells #[.string ⟨#[]⟩, .slice none 0 0, .slice none 0 0, .int .i64 0, .slice none 0 0] 68)).alloc (.cells #[.string ⟨s.toArray⟩, .bool false] 169) = w0 at *
 refine (rdModule_any (w.heap.size + 1) ⟨s, false⟩ hs _ HR0.out).mono ?_
 rintro e w1 ⟨ms, rfl, hF, hR, hg⟩
 have HX1 := Lib.hid (HX0.out.other hg (by omega))
 have HB1 := Lib.hid (HB0.out.grown hg HB0.out.size (fun k hk => by injection hk with hk; omega))
 have HF1 := Lib.hid hF
 have HR1 := Lib.hid hR
 have hwl : w.heap.size < w0.heap.size := HX0.out.lt
 have hrl : w.heap.size + 1 < w0.heap.size := Box.lt HR0.out
 clear hF hR hg HX0 HB0 HR0
 generalize modM ⟨s, false⟩ = m at *
 generalize modS ⟨s, false⟩ = q at *
 obtain ⟨t, bad⟩ := q
 simp only at HN HS
 unfold modV
 have HA := Lib.hid (alloc_below w1 (.cells (modCells ms m) 68))
 have g1 : w1.cell? ⟨w.heap.size + 1, 1, none⟩ = some (.bool bad) := (HR1.out.cell 1).trans rfl
 have g0 : w1.cell? ⟨w.heap.size + 1, 0, none⟩ = some (.string ⟨t.toArray⟩) := (HR1.out.cell 0).trans rfl
 have hlt1 := HX1.out.lt
 have hlt2 := Box.lt HR1.out
 have HX2 := Lib.hid (HX1.out.grow HA.out)
 have HB2 := Lib.hid (HB1.out.trans (HA.out.mono (Nat.le_of_lt hlt1)))
 have HF2 := Lib.hid (HF1.out.grow HA.out)
 have HR2 := Lib.hid (HR1.out.other HA.out)
 have HM2 := Lib.hid (Box.new w1 (modCells ms m) 68 (by decide))
 unfold modCells at HX2 HB2 HF2 HR2 HM2
 go_upto_region 3 with (fail)
 generalize w1.alloc (.cells #[.string ⟨m.code.toArray⟩, .slice ms.A1 m.procs.length ms.c1, .slice ms.A2 m.imports.length ms.c2, .int .i64 m.data, .slice ms.A3 m.init.length ms.c3] 68) = w2 at *
 have hq1 : w1.heap.size ≠ w.heap.size := by omega
 generalize w1.heap.size = q at *
 clear g1 g0 HA HX1 HB1 HF1 HR1
 have g1 : w2.cell? ⟨w.heap.size + 1, 1, none⟩ = some (.bool bad) := (HR2.out.cell 1).trans rfl
 have g0 : w2.cell? ⟨w.heap.size + 1, 0, none⟩ = some (.string ⟨t.toArray⟩) := (HR2.out.cell 0).trans rfl
 have c0 : w2.cell? ⟨w.heap.size, 0, none⟩ = some (.string ⟨#[]⟩) := (HX2.out.cell 0).trans rfl
 have fc0 := HX2.out.frozen 0
 have c1 : w2.cell? ⟨w.heap.size, 1, none⟩ = some (.slice none 0 0) := (HX2.out.cell 1).trans rfl
 have fc1 := HX2.out.frozen 1
 have c2 : w2.cell? ⟨w.heap.size, 2, none⟩ = some (.slice none 0 0) := (HX2.out.cell 2).trans rfl
 have fc2 := HX2.out.frozen 2
 have c3 : w2.cell? ⟨w.heap.size, 3, none⟩ = some (.int .i64 0) := (HX2.out.cell 3).trans rfl
 have fc3 := HX2.out.frozen 3
 have c4 : w2.cell? ⟨w.heap.size, 4, none⟩ = some (.slice none 0 0) := (HX2.out.cell 4).trans rfl
 have fc4 := HX2.out.frozen 4
 cases bad
 case true =>
  go_wp2_with fail
  have X0 := Lib.hid ((HX2.out.set 0 (.string ⟨#[]⟩)).to (ds := #[.string ⟨#[]⟩, .slice none 0 0, .slice none 0 0, .int .i64 0, .slice none 0 0]) (by simp))
  have B0 := Lib.hid (HB2.out.setCell (p := ⟨w.heap.size, 0, none⟩) (Nat.le_refl _) (.string ⟨#[]⟩))
  have F0 := Lib.hid (HF2.out.set (p := w.heap.size) (by omega) 0 (.string ⟨#[]⟩))
  have X1 := Lib.hid ((X0.out.set 1 (.slice none 0 0)).to (ds := #[.string ⟨#[]⟩, .slice none 0 0, .slice none 0 0, .int .i64 0, .slice none 0 0]) (by simp))
  have B1 := Lib.hid (B0.out.setCell (p := ⟨w.heap.size, 1, none⟩) (Nat.le_refl _) (.slice none 0 0))
  have F1 := Lib.hid (F0.out.set (p := w.heap.size) (by omega) 1 (.slice none 0 0))
  have X2 := Lib.hid ((X1.out.set 2 (.slice none 0 0)).to (ds := #[.string ⟨#[]⟩, .slice none 0 0, .slice none 0 0, .int .i64 0, .slice none 0 0]) (by simp))
  have B2 := Lib.hid (B1.out.setCell (p := ⟨w.heap.size, 2, none⟩) (Nat.le_refl _) (.slice none 0 0))
  have F2 := Lib.hid (F1.out.set (p := w.heap.size) (by omega) 2 (.slice none 0 0))
  have X3 := Lib.hid ((X2.out.set 3 (.int .i64 0)).to (ds := #[.string ⟨#[]⟩, .slice none 0 0, .slice none 0 0, .int .i64 0, .slice none 0 0]) (by simp))
  have B3 := Lib.hid (B2.out.setCell (p := ⟨w.heap.size, 3, none⟩) (Nat.le_refl _) (.int .i64 0))
  have F3 := Lib.hid (F2.out.set (p := w.heap.size) (by omega) 3 (.int .i64 0))
  have X4 := Lib.hid ((X3.out.set 4 (.slice none 0 0)).to (ds := #[.string ⟨#[]⟩, .slice none 0 0, .slice none 0 0, .int .i64 0, .slice none 0 0]) (by simp))
  have B4 := Lib.hid (B3.out.setCell (p := ⟨w.heap.size, 4, none⟩) (Nat.le_refl _) (.slice none 0 0))
  have F4 := Lib.hid (F3.out.set (p := w.heap.size) (by omega) 4 (.slice none 0 0))
  clear c0 c1 c2 c3 c4 fc0 fc1 fc2 fc3 fc4 g0 g1 HX2 HB2 HF2 HR2 HM2
  generalize World.setCell (World.setCell (World.setCell (World.setCell (World.setCell w2 ⟨w.heap.size, 0, none⟩ (.string ⟨#[]⟩)) ⟨w.heap.size, 1, none⟩ (.slice none 0 0)) ⟨w.heap.size, 2, none⟩ (.slice none 0 0)) ⟨w.heap.size, 3, none⟩ (.int .i64 0)) ⟨w.heap.size, 4, none⟩ (.slice none 0 0) = wz at *
  have c0 : wz.cell? ⟨w.heap.size, 0, none⟩ = some (.string ⟨#[]⟩) := (X4.out.cell 0).trans rfl
  have c1 : wz.cell? ⟨w.heap.size, 1, none⟩ = some (.slice none 0 0) := (X4.out.cell 1).trans rfl
  have c2 : wz.cell? ⟨w.heap.size, 2, none⟩ = some (.slice none 0 0) := (X4.out.cell 2).trans rfl
  have c3 : wz.cell? ⟨w.heap.size, 3, none⟩ = some (.int .i64 0) := (X4.out.cell 3).trans rfl
  have c4 : wz.cell? ⟨w.heap.size, 4, none⟩ = some (.slice none 0 0) := (X4.out.cell 4).trans rfl
  refine bodyPost_ret (v := .tuple #[.agg #[.string ⟨#[]⟩, .slice none 0 0, .slice none 0 0, .int .i64 0, .slice none 0 0], .string ⟨#[]⟩, .int .i64 7]) (by simp [results, Tryz.results49, go_sem, c0, c1, c2, c3, c4]) rfl ?_
  exact unEnd_none (HN.out (by first | rfl | trivial)) B4.out
 case false =>
  have m0 : w2.cell? ⟨q, 0, none⟩ = some (.string ⟨m.code.toArray⟩) := (HM2.out.cell 0).trans rfl
  have m1 : w2.cell? ⟨q, 1, none⟩ = some (.slice ms.A1 m.procs.length ms.c1) := (HM2.out.cell 1).trans rfl
  have m2 : w2.cell? ⟨q, 2, none⟩ = some (.slice ms.A2 m.imports.length ms.c2) := (HM2.out.cell 2).trans rfl
  have m3 : w2.cell? ⟨q, 3, none⟩ = some (.int .i64 m.data) := (HM2.out.cell 3).trans rfl
  have m4 : w2.cell? ⟨q, 4, none⟩ = some (.slice ms.A3 m.init.length ms.c3) := (HM2.out.cell 4).trans rfl
  go_wp2_with fail
  go_region
  have X0 := Lib.hid ((HX2.out.set 0 (.string ⟨m.code.toArray⟩)).to (ds := #[.string ⟨m.code.toArray⟩, .slice none 0 0, .slice none 0 0, .int .i64 0, .slice none 0 0]) (by simp))
  have B0 := Lib.hid (HB2.out.setCell (p := ⟨w.heap.size, 0, none⟩) (Nat.le_refl _) (.string ⟨m.code.toArray⟩))
  have F0 := Lib.hid (HF2.out.set (p := w.heap.size) (by omega) 0 (.string ⟨m.code.toArray⟩))
  have X1 := Lib.hid ((X0.out.set 1 (.slice ms.A1 m.procs.length ms.c1)).to (ds := #[.string ⟨m.code.toArray⟩, .slice ms.A1 m.procs.length ms.c1, .slice none 0 0, .int .i64 0, .slice none 0 0]) (by simp))
  have B1 := Lib.hid (B0.out.setCell (p := ⟨w.heap.size, 1, none⟩) (Nat.le_refl _) (.slice ms.A1 m.procs.length ms.c1))
  have F1 := Lib.hid (F0.out.set (p := w.heap.size) (by omega) 1 (.slice ms.A1 m.procs.length ms.c1))
  have X2 := Lib.hid ((X1.out.set 2 (.slice ms.A2 m.imports.length ms.c2)).to (ds := #[.string ⟨m.code.toArray⟩, .slice ms.A1 m.procs.length ms.c1, .slice ms.A2 m.imports.length ms.c2, .int .i64 0, .slice none 0 0]) (by simp))
  have B2 := Lib.hid (B1.out.setCell (p := ⟨w.heap.size, 2, none⟩) (Nat.le_refl _) (.slice ms.A2 m.imports.length ms.c2))
  have F2 := Lib.hid (F1.out.set (p := w.heap.size) (by omega) 2 (.slice ms.A2 m.imports.length ms.c2))
  have X3 := Lib.hid ((X2.out.set 3 (.int .i64 m.data)).to (ds := #[.string ⟨m.code.toArray⟩, .slice ms.A1 m.procs.length ms.c1, .slice ms.A2 m.imports.length ms.c2, .int .i64 m.data, .slice none 0 0]) (by simp))
  have B3 := Lib.hid (B2.out.setCell (p := ⟨w.heap.size, 3, none⟩) (Nat.le_refl _) (.int .i64 m.data))
  have F3 := Lib.hid (F2.out.set (p := w.heap.size) (by omega) 3 (.int .i64 m.data))
  have X4 := Lib.hid ((X3.out.set 4 (.slice ms.A3 m.init.length ms.c3)).to (ds := #[.string ⟨m.code.toArray⟩, .slice ms.A1 m.procs.length ms.c1, .slice ms.A2 m.imports.length ms.c2, .int .i64 m.data, .slice ms.A3 m.init.length ms.c3]) (by simp))
  have B4 := Lib.hid (B3.out.setCell (p := ⟨w.heap.size, 4, none⟩) (Nat.le_refl _) (.slice ms.A3 m.init.length ms.c3))
  have F4 := Lib.hid (F3.out.set (p := w.heap.size) (by omega) 4 (.slice ms.A3 m.init.length ms.c3))
  clear c0 c1 c2 c3 c4 fc0 fc1 fc2 fc3 fc4 g0 g1 m0 m1 m2 m3 m4 HX2 HB2 HF2 HR2 HM2
  generalize World.setCell (World.setCell (World.setCell (World.setCell (World.setCell w2 ⟨w.heap.size, 0, none⟩ (.string ⟨m.code.toArray⟩)) ⟨w.heap.size, 1, none⟩ (.slice ms.A1 m.procs.length ms.c1)) ⟨w.heap.size, 2, none⟩ (.slice ms.A2 m.imports.length ms.c2)) ⟨w.heap.size, 3, none⟩ (.int .i64 m.data)) ⟨w.heap.size, 4, none⟩ (.slice ms.A3 m.init.length ms.c3) = wz at *
  have c0 : wz.cell? ⟨w.heap.size, 0, none⟩ = some (.string ⟨m.code.toArray⟩) := (X4.out.cell 0).trans rfl
  have c1 : wz.cell? ⟨w.heap.size, 1, none⟩ = some (.slice ms.A1 m.procs.length ms.c1) := (X4.out.cell 1).trans rfl
  have c2 : wz.cell? ⟨w.heap.size, 2, none⟩ = some (.slice ms.A2 m.imports.length ms.c2) := (X4.out.cell 2).trans rfl
  have c3 : wz.cell? ⟨w.heap.size, 3, none⟩ = some (.int .i64 m.data) := (X4.out.cell 3).trans rfl
  have c4 : wz.cell? ⟨w.heap.size, 4, none⟩ = some (.slice ms.A3 m.init.length ms.c3) := (X4.out.cell 4).trans rfl
  go_wp2_with fail
  refine bodyPost_ret (v := .tuple #[.agg #[.string ⟨m.code.toArray⟩, .slice ms.A1 m.procs.length ms.c1, .slice ms.A2 m.imports.length ms.c2, .int .i64 m.data, .slice ms.A3 m.init.length ms.c3], .string ⟨t.toArray⟩, .int .i64 0]) (by simp [results, Tryz.results49, go_sem, c0, c1, c2, c3, c4]) rfl ?_
  exact unEnd_some (s := ms) (HS.out (by first | rfl | trivial)) (B4.out.trans ((drew_below wz).mono B4.out.size)) (Nat.le_of_lt hwl) (F4.out.grow (drew_below wz))
end Go.Proofs.YtabenhpjgjjgnaaGreatDoor
