/- A machine's own copy of a program of one module. A new memory of words: all are 0. mach.within, mach.may. Condition: what lies in memory can lie there; what each theorem says. -/
import Derived.Test.YtpfcojnkflcnoaaGreatDoorBe
import Derived.Test.YtpfcojnkflcnoaaGreatDoorBa
import Derived.Deep.DeepCutAuto
import Derived.LoopN
import Derived.IntWalk
import Derived.Deep.LoopGhost
/- A machine's own copy of a program of one module. Condition: what lies in memory can lie there. -/
namespace Go.Proofs.YtpfcojnkflcnoaaGreatDoor
open Go.RowKit
set_option maxRecDepth 100000

def procCells8 (p : ProcL) : List Value := [.int .i64 p.at_, .int .i64 p.params, .int .i64 p.locals, .int .i64 p.depth, .int .i64 p.level, .bool p.fn]
def intCells8 (i : Int) : List Value := [.int .i64 i]
theorem etProcs8 : ET Tryz.prog 70 69 6 48 := et_of (z := .agg #[.int .i64 0, .int .i64 0, .int .i64 0, .int .i64 0, .int .i64 0, .bool false]) Tryz.underlying70 (by kernel_rfl) rfl (by omega)
theorem etInts8 : ET Tryz.prog 29 3 1 8 := et_of (z := .int .i64 0) Tryz.underlying29 (by kernel_rfl) rfl (by omega)
theorem etMods8 : ET Tryz.prog 28 73 5 96 := et_of (z := .agg #[.string ⟨#[]⟩, .slice none 0 0, .slice none 0 0, .int .i64 0, .slice none 0 0]) Tryz.underlying28 (by kernel_rfl) rfl (by omega)
theorem flat8 {α : Type} (f : α → List Value) (c : Nat) (h : ∀ x, (f x).length = c) (l : List α) (d : α) (j t : Nat) (hj : j < l.length) (ht : t < c) : (l.flatMap f)[j * c + t]? = (f (l.getD j d))[t]? := by
  induction l generalizing j with
  | nil => simp at hj
  | cons x l ih =>
    rw [List.flatMap_cons, List.getElem?_append]
    cases j with
    | zero => rw [if_pos (by rw [h]; omega)]; simp
    | succ j =>
      have e : (j + 1) * c + t = j * c + t + c := by rw [Nat.add_mul]; omega
      rw [if_neg (by rw [h]; omega), h, e, Nat.add_sub_cancel, ih j (by simpa using hj)]
      simp
theorem len8 {α : Type} (f : α → List Value) (c : Nat) (h : ∀ x, (f x).length = c) (l : List α) : (l.flatMap f).length = l.length * c := by
  induction l with
  | nil => simp
  | cons x l ih => rw [List.flatMap_cons, List.length_append, h, ih, List.length_cons, Nat.add_mul]; omega
theorem lt_of_get8 {w : World} {k : Nat} {o : Obj} (h : w.heap[k]? = some o) : k < w.heap.size := by
  rcases Nat.lt_or_ge k w.heap.size with h' | h'
  · exact h'
  · rw [Array.getElem?_eq_none h'] at h; cases h
theorem own8 {w : World} {B : Nat} {e : TypeId} {c : Nat} {A : Option Addr} {n cap : Nat} {α : Type} {f : α → List Value} {l : List α} (hc : ∀ x, (f x).length = c) (h : w.ownsRow B e c (.slice A n cap) l.length (l.flatMap f)) (d : α) {P : Nat → Nat → Nat → Prop}
    (hP : ∀ g j o, (∀ t u, (f (l.getD j d))[t]? = some u → w.cell? ⟨g, o + t, none⟩ = some u) → P j g o) : Each w A c l.length P := by
  have h' := h
  rcases h.2 with ⟨_, h0⟩ | ⟨g, cap', cur, he, _, hgg, _⟩
  · exact .inl h0
  · refine .inr ⟨g, 0, by injection he, lt_of_get8 hgg, fun j hj => hP g j _ fun t u htu => ?_⟩
    have ht : t < c := by have := (List.getElem?_eq_some_iff.1 htu).1; rwa [hc] at this
    have := h'.cells (g := g) (by rw [he]; rfl) (j * c + t) u (by rw [flat8 f c hc l d j t hj ht]; exact htu)
    rw [WideShapes.add_plain] at this
    rw [Nat.add_assoc]; exact this
theorem own_procs8 {w : World} {B : Nat} {A : Option Addr} {n cap : Nat} {l : List ProcL} (h : w.ownsRow B 69 6 (.slice A n cap) l.length (l.flatMap procCells8)) : Procs w A l :=
  own8 (f := procCells8) (c := 6) (P := fun j b o => ProcAt w b o (l.getD j default)) (fun _ => rfl) h default fun _ _ _ hu => ⟨hu 0 _ rfl, hu 1 _ rfl, hu 2 _ rfl, hu 3 _ rfl, hu 4 _ rfl, hu 5 _ rfl⟩
theorem own_ints8 {w : World} {B : Nat} {A : Option Addr} {n cap : Nat} {l : List Int} (h : w.ownsRow B 3 1 (.slice A n cap) l.length (l.flatMap intCells8)) : Ints w A l :=
  own8 (f := intCells8) (c := 1) (P := fun j b o => w.cell? ⟨b, o, none⟩ = some (.int .i64 (l.getD j 0))) (fun _ => rfl) h 0 fun _ _ _ hu => hu 0 _ rfl
/-- Rows as what is appended. -/
theorem src8 {α : Type} {tx e' : TypeId} {f : α → List Value} {c : Nat} (hk : Tryz.prog.underlying tx = some (.slice e')) (hc0 : 0 < c) (hc : ∀ x, (f x).length = c) (h1 : ∀ x, ∀ u ∈ f x, u.oneCell' = true) (d : α) {w : World} {A : Option Addr} {cap : Nat} {l : List α}
    (h : Each w A c l.length fun j b o => ∀ t u, (f (l.getD j d))[t]? = some u → w.cell? ⟨b, o + t, none⟩ = some u) (hA : A = none → l = []) : Src Tryz.prog c tx (.slice A l.length cap) l.length (l.flatMap f) w := by
  have hlen : (l.flatMap f).length = l.length * c :=
     len8 f c hc l
  cases A with
  | none => obtain rfl := hA rfl; exact Src.ofNil w hk cap
  | some a =>
    refine Src.ofSlice w hk a l.length cap _ hlen (fun j u hj => ?_) ?_
    · have hjl : j < l.length * c := by rw [← hlen]; exact (List.getElem?_eq_some_iff.1 hj).1
      have hq : j / c < l.length := Nat.div_lt_of_lt_mul (by rw [Nat.mul_comm]; exact hjl)
      obtain ⟨b, off, e, _, hcell⟩ := h.at_ hq
      cases e
      rw [WideShapes.add_plain]
      have e : j = j / c * c + j % c := by rw [Nat.mul_comm]; exact (Nat.div_add_mod j c).symm
      have := hcell (j % c) u (by rw [← flat8 f c hc l d (j / c) (j % c) hq (Nat.mod_lt _ hc0), ← e]; exact hj)
      rw [Nat.add_assoc, ← e] at this
      exact this
    · intro u hu
      obtain ⟨x, _, hx⟩ := List.mem_flatMap.1 hu
      exact h1 x u hx
theorem src_procs8 {w : World} {A : Option Addr} {cap : Nat} {l : List ProcL} (h : Procs w A l) (hA : A = none → l = []) : Src Tryz.prog 6 70 (.slice A l.length cap) l.length (l.flatMap procCells8) w :=
  src8 (f := procCells8) (c := 6) Tryz.underlying70 (by omega) (fun _ => rfl) (fun x u hu => by simp [procCells8] at hu; rcases hu with rfl | rfl | rfl | rfl | rfl | rfl <;> rfl) default
    (Each.reads h ⟨fun _ _ _ h => h, Nat.le_refl _⟩ fun j b o hp t u hu => by
      obtain ⟨h0, h1, h2, h3, h4, h5⟩ := hp
      match t, hu with
      | 0, hu => cases hu; exact h0
      | 1, hu => cases hu; exact h1
      | 2, hu => cases hu; exact h2
      | 3, hu => cases hu; exact h3
      | 4, hu => cases hu; exact h4
      | 5, hu => cases hu; exact h5
      | n + 6, hu => simp [procCells8] at hu) hA
theorem src_ints8 {w : World} {A : Option Addr} {cap : Nat} {l : List Int} (h : Ints w A l) (hA : A = none → l = []) : Src Tryz.prog 1 29 (.slice A l.length cap) l.length (l.flatMap intCells8) w :=
  src8 (f := intCells8) (c := 1) Tryz.underlying29 (by omega) (fun _ => rfl) (fun x u hu => by simp [intCells8] at hu; subst hu; rfl) 0
    (Each.reads h ⟨fun _ _ _ h => h, Nat.le_refl _⟩ fun j b o hp t u hu => by
      match t, hu with
      | 0, hu => cases hu; exact hp
      | n + 1, hu => simp [intCells8] at hu) hA
theorem each_none {w : World} {c n : Nat} {P : Nat → Nat → Nat → Prop} (h : Each w none c n P) : n = 0 := by
  rcases h with h | ⟨_, _, e, _⟩
  · exact h
  · cases e
/-- .. of the call's own, seen though some blocks are emptied that are none of its. -/
theorem own8m {w : World} {B : Nat} {e : TypeId} {c : Nat} {A : Option Addr} {n cap : Nat} {α : Type} {f : α → List Value} {l : List α} (bs : List Nat) (hb : ∀ b ∈ bs, b < B ∨ w.heap.size ≤ b) (hc : ∀ x, (f x).length = c) (h : w.ownsRow B e c (.slice A n cap) l.length (l.flatMap f)) (d : α) {P : Nat → Nat → Nat → Prop}
    (hP : ∀ g j o, j < l.length → (∀ t u, (f (l.getD j d))[t]? = some u → (mask bs w).cell? ⟨g, o + t, none⟩ = some u) → P j g o) : Each (mask bs w) A c l.length P := by
  have h' := h
  rcases h.2 with ⟨_, h0⟩ | ⟨g, cap', cur, he, hBg, hgg, _⟩
  · exact .inl h0
  · have hlt := lt_of_get8 hgg
    have hn : g ∉ bs := fun hm => by have := hb g hm; omega
    refine .inr ⟨g, 0, by injection he, by rw [mask_size]; exact hlt, fun j hj => hP g j _ hj fun t u htu => ?_⟩
    have ht : t < c := by have := (List.getElem?_eq_some_iff.1 htu).1; rwa [hc] at this
    have := h'.cells (g := g) (by rw [he]; rfl) (j * c + t) u (by rw [flat8 f c hc l d j t hj ht]; exact htu)
    rw [WideShapes.add_plain] at this
    have hcc : (mask bs w).cell? ⟨g, 0 + j * c + t, none⟩ = w.cell? ⟨g, 0 + j * c + t, none⟩ := by
      unfold World.cell?
      rw [mask_at _ _ hn]
    rw [hcc, Nat.add_assoc]; exact this
theorem own_procs8m {w : World} {B : Nat} {A : Option Addr} {n cap : Nat} {l : List ProcL} (bs : List Nat) (hb : ∀ b ∈ bs, b < B ∨ w.heap.size ≤ b) (h : w.ownsRow B 69 6 (.slice A n cap) l.length (l.flatMap procCells8)) : Procs (mask bs w) A l :=
  own8m (f := procCells8) (c := 6) (P := fun j b o => ProcAt (mask bs w) b o (l.getD j default)) bs hb (fun _ => rfl) h default fun _ _ _ _ hu => ⟨hu 0 _ rfl, hu 1 _ rfl, hu 2 _ rfl, hu 3 _ rfl, hu 4 _ rfl, hu 5 _ rfl⟩
theorem own_ints8m {w : World} {B : Nat} {A : Option Addr} {n cap : Nat} {l : List Int} (bs : List Nat) (hb : ∀ b ∈ bs, b < B ∨ w.heap.size ≤ b) (h : w.ownsRow B 3 1 (.slice A n cap) l.length (l.flatMap intCells8)) : Ints (mask bs w) A l :=
  own8m (f := intCells8) (c := 1) (P := fun j b o => (mask bs w).cell? ⟨b, o, none⟩ = some (.int .i64 (l.getD j 0))) bs hb (fun _ => rfl) h 0 fun _ _ _ _ hu => hu 0 _ rfl
theorem mask_below {B : Nat} {w w' : World} (h : Below B w w') (bs : List Nat) (hb : ∀ b ∈ bs, B ≤ b) : Below B w (mask bs w') :=
  ⟨h.os, h.tape, h.output, by rw [mask_size]; exact h.size, fun k hk => by rw [mask_at _ _ (fun hm => by have := hb k hm; omega)]; exact h.block k hk⟩
theorem Procs.only {bs : List Nat} {W W' : World} {A : Option Addr} {l : List ProcL} (h : Procs (mask bs W) A l) (ho : Only bs W W') : Procs (mask bs W') A l := h.later ho (by rw [mask_size]; exact Nat.le_refl _)
theorem Ints.only8 {bs : List Nat} {W W' : World} {A : Option Addr} {l : List Int} (h : Ints (mask bs W) A l) (ho : Only bs W W') : Ints (mask bs W') A l := h.later ho (by rw [mask_size]; exact Nat.le_refl _)
theorem Words.only8 {bs : List Nat} {W W' : World} {A : Option Addr} {l : List Nat} (h : Words (mask bs W) A l) (ho : Only bs W W') : Words (mask bs W') A l := h.later ho (by rw [mask_size]; exact Nat.le_refl _)
def modCells8 (m : ModL) (s : MS) : List Value := [.string ⟨m.code.toArray⟩, .slice s.A1 m.procs.length s.c1, .slice s.A2 m.imports.length s.c2, .int .i64 m.data, .slice s.A3 m.init.length s.c3]
theorem own_mod8m {w : World} {B : Nat} {A : Option Addr} {n cap : Nat} {m : ModL} {s : MS} (bs : List Nat) (hb : ∀ b ∈ bs, b < B ∨ w.heap.size ≤ b) (h : w.ownsRow B 73 5 (.slice A n cap) 1 (modCells8 m s)) (hI : ModIn (mask bs w) s m) : Mods (mask bs w) A [m] :=
  own8m (α := Unit) (l := [()]) (f := fun _ => modCells8 m s) (c := 5) (P := fun j b o => ModAt (mask bs w) b o ([m].getD j default)) bs hb (fun _ => rfl) (by simpa using h) () fun g j o hj hu => by
    obtain rfl : j = 0 := by simpa using hj
    exact ⟨s, hI, hu 0 _ rfl, hu 1 _ rfl, hu 2 _ rfl, hu 3 _ rfl, hu 4 _ rfl⟩
theorem src_mod8 (w : World) (k : Nat) (hk : w.heap.size = k) (a b c d e : Value) (ha : a.oneCell' = true := by rfl) (hb : b.oneCell' = true := by rfl) (hc : c.oneCell' = true := by rfl) (hd : d.oneCell' = true := by rfl) (he : e.oneCell' = true := by rfl) :
    Src Tryz.prog 5 28 (.slice (some ⟨k, 0, none⟩) 1 1) 1 [a, b, c, d, e] (w.alloc (.cells #[a, b, c, d, e] 73)) := by
  rw [← hk]
  exact src_new etMods8 w #[a, b, c, d, e] 73 1 1 rfl (by intro u hu; simp at hu; rcases hu with rfl | rfl | rfl | rfl | rfl <;> assumption)
/-- How the copy ends. -/
def OwnEnd (W : World) (ms : List ModL) (o : List Int) (e : Ending) (w' : World) : Prop := ∃ A c A' c', e = .returned (.agg #[.slice A ms.length c, .slice A' o.length c']) ∧ Mods w' A ms ∧ Ints w' A' o ∧ Below W.heap.size W w'
set_option maxHeartbeats 2000000 in
theorem own_one (A2 A3 : Option Addr) (c2 c3 : Nat) (m : ModL) (o : List Int) (ho : o.length ≤ 1000) (hp : m.procs.length ≤ 1024) (hi : m.imports.length ≤ 255) (W : World) (hM : Mods W A2 [m]) (hO : Ints W A3 o) :
    Calls Tryz.prog 26 #[.agg #[.slice A2 1 c2, .slice A3 o.length c3]] W (OwnEnd W [m] o) := by
  have HB0 := Lib.hid (show Below W.heap.size W ((W.alloc (.cells #[.slice A2 1 c2, .slice A3 o.length c3] 31)).alloc (.cells #[.slice none 0 0, .slice none 0 0] 31)) from ((Below.refl _ _).alloc (Nat.le_refl _) _).alloc (by simp) _)
  have HX0 := Lib.hid (Bx.grow (Bx.new W #[.slice A2 1 c2, .slice A3 o.length c3] 31) (alloc_below _ (.cells #[.slice none 0 0, .slice none 0 0] 31)))
  have HY0 := Lib.hid (show Bx (W.heap.size + 1) #[.slice none 0 0, .slice none 0 0] 31 ((W.alloc (.cells #[.slice A2 1 c2, .slice A3 o.length c3] 31)).alloc (.cells #[.slice none 0 0, .slice none 0 0] 31)) by simpa using Bx.new (W.alloc (.cells #[.slice A2 1 c2, .slice A3 o.length c3] 31)) #[.slice none 0 0, .slice none 0 0] 31)
  have HM0 := Lib.hid (hM.later HB0.out (Nat.le_refl _))
  have HSo := Lib.hid (src_ints8 (cap := c3) (hO.later HB0.out (Nat.le_refl _)) (fun e => List.eq_nil_of_length_eq_zero (each_none (e ▸ hO))))
  obtain ⟨b, of, rfl, hb, s, hI, d0, d1, d2, d3, d4⟩ := hM.at_ (j := 0) (by simp)
  simp only [Nat.zero_mul, Nat.add_zero, List.getD_cons_zero] at d0 d1 d2 d3 d4
  have HI := Lib.hid (show ModIn W s m from hI)
  have D0 := Lib.hid d0
  have D1 := Lib.hid d1
  have D2 := Lib.hid d2
  have D3 := Lib.hid d3
  have D4 := Lib.hid d4
  clear hM hO hI d0 d1 d2 d3 d4
  go_enter Tryz.func26, Tryz.ntmps26
  go_wp2_with (
    at_builtin
    refine wpList_app etInts8 rfl _ _ rfl (W.heap.size + 1 + 1) (.slice none 0 0) 0 [] rfl (World.ownsRow_nil _ _ _ _) _ o.length (o.flatMap intCells8) rfl HSo.out (by omega) (by unfold maxLen; omega) (by simp) ?_
    intro v9 w9 hA9
    obtain ⟨A9, c9, hv9⟩ := own_slice' hA9.own
    subst hv9
    have ho9 := hA9.own
    simp only [Nat.zero_add, List.nil_append] at ho9
    have HO9 := Lib.hid ho9
    clear ho9
    have HG9 := Lib.hid (hA9.below (Below.refl (W.heap.size + 1 + 1) _) (by simp) (World.ownsRow_nil _ _ 3 1) (Nat.le_refl _))
    clear hA9
    have HX9 := Lib.hid (show Bx W.heap.size _ _ w9 from (HG9.out.block _ (by omega)).trans HX0.out)
    have HY9 := Lib.hid (show Bx (W.heap.size + 1) _ _ w9 from (HG9.out.block _ (by omega)).trans HY0.out)
    have hx0 : w9.cell? ⟨W.heap.size, 0, none⟩ = some (.slice (some ⟨b, of, none⟩) 1 c2) := (HX9.out.cell 0).trans rfl
    have hxl := HX9.out.lt)
  have HB9 := Lib.hid (HB0.out.trans (HG9.out.mono (by omega)))
  have hq9 : W.heap.size + 1 < w9.heap.size := HY9.out.lt
  have HQ10 := Lib.hid (Bx.new w9 #[.slice none 0 0, .slice A9 o.length c9] 31)
  have HA10 := Lib.hid (alloc_below w9 (.cells #[.slice none 0 0, .slice A9 o.length c9] 31))
  have HY10 := Lib.hid (HY9.out.grow HA10.out)
  clear HX0 HY0 HM0 HSo HX9 HY9 HG9 hx0 hxl HB0
  have HL10 := Lib.hid (show (w9.alloc (.cells #[.slice none 0 0, .slice A9 o.length c9] 31)).heap.size = w9.heap.size + 1 by simp)
  generalize w9.alloc (.cells #[.slice none 0 0, .slice A9 o.length c9] 31) = w10 at *
  have HB10 := Lib.hid (HB9.out.trans (HA10.out.mono (by omega)))
  have d0 := (HB10.out.cell (p := ⟨b, of, none⟩) hb).trans D0.out
  have d1 := (HB10.out.cell (p := ⟨b, of + 1, none⟩) hb).trans D1.out
  have d2 := (HB10.out.cell (p := ⟨b, of + 2, none⟩) hb).trans D2.out
  have d3 := (HB10.out.cell (p := ⟨b, of + 3, none⟩) hb).trans D3.out
  have d4 := (HB10.out.cell (p := ⟨b, of + 4, none⟩) hb).trans D4.out
  have hb10 : b < w10.heap.size := by have := HL10.out; omega
  clear D0 D1 D2 D3 D4
  have HB11 := Lib.hid (alloc_below w10 (.cells #[.string ⟨m.code.toArray⟩, .slice s.A1 m.procs.length s.c1, .slice s.A2 m.imports.length s.c2, .int .i64 m.data, .slice s.A3 m.init.length s.c3] 73))
  have HX11 := Lib.hid (Bx.new w10 #[.string ⟨m.code.toArray⟩, .slice s.A1 m.procs.length s.c1, .slice s.A2 m.imports.length s.c2, .int .i64 m.data, .slice s.A3 m.init.length s.c3] 73)
  have HSp := Lib.hid (src_procs8 (cap := s.c1) (HI.out.procs.later (HB10.out.trans (HB11.out.mono HB10.out.size)) (Nat.le_refl _)) (fun e => List.eq_nil_of_length_eq_zero (each_none (e ▸ HI.out.procs))))
  refine wp_loop_rounds 3 ?_
  rw [rounds_succ]
  go_wp2_with (
    at_builtin
    first
    | (refine wpList_app etProcs8 rfl _ _ rfl (w10.heap.size + 1) (.slice none 0 0) 0 [] rfl (World.ownsRow_nil _ _ _ _) _ m.procs.length (m.procs.flatMap procCells8) rfl HSp.out (by omega) (by unfold maxLen; omega) (by simp) ?_
       intro v12 w12 hA12
       obtain ⟨A12, c12, hv12⟩ := own_slice' hA12.own
       subst hv12
       have ho12 := hA12.own
       simp only [Nat.zero_add, List.nil_append] at ho12
       have HO12 := Lib.hid ho12
       clear ho12
       have HG12 := Lib.hid (hA12.below (Below.refl (w10.heap.size + 1) _) (by simp) (World.ownsRow_nil _ _ 69 6) (Nat.le_refl _))
       clear hA12
       have HX12 := Lib.hid (show Bx w10.heap.size _ _ w12 from (HG12.out.block _ (by omega)).trans HX11.out)
       have HB12 := Lib.hid (HB11.out.trans (HG12.out.mono (by omega)))
       have hx12f := HX12.out.frozen
       have hx12l := HX12.out.lt
       have hx1 : w12.cell? ⟨w10.heap.size, 1, none⟩ = some (.slice s.A1 m.procs.length s.c1) := (HX12.out.cell 1).trans rfl
       have hx2 : w12.cell? ⟨w10.heap.size, 2, none⟩ = some (.slice s.A2 m.imports.length s.c2) := (HX12.out.cell 2).trans rfl
       have HSi := Lib.hid (src_ints8 (cap := s.c2) (HI.out.imports.later ((HB10.out.trans (HB12.out.mono HB10.out.size)).setCell (p := ⟨w10.heap.size, 1, none⟩) HB10.out.size (.slice A12 m.procs.length c12)) (Nat.le_refl _)) (fun e => List.eq_nil_of_length_eq_zero (each_none (e ▸ HI.out.imports)))))
    | (refine wpList_app etInts8 rfl _ _ rfl w12.heap.size (.slice none 0 0) 0 [] rfl (World.ownsRow_nil _ _ _ _) _ m.imports.length (m.imports.flatMap intCells8) rfl HSi.out (by omega) (by unfold maxLen; omega) (by simp) ?_
       intro v13 w13 hA13
       obtain ⟨A13, c13, hv13⟩ := own_slice' hA13.own
       subst hv13
       have ho13 := hA13.own
       simp only [Nat.zero_add, List.nil_append] at ho13
       have HO13 := Lib.hid ho13
       clear ho13
       have HG13 := Lib.hid (hA13.below (Below.refl w12.heap.size _) (by simp) (World.ownsRow_nil _ _ 3 1) (Nat.le_refl _))
       clear hA13
       have HX13 := Lib.hid (show Bx w10.heap.size _ _ w13 from (HG13.out.block _ hx12l).trans (HX12.out.set 1 (.slice A12 m.procs.length c12)))
       have hx13f := HX13.out.frozen
       have hx13l := HX13.out.lt
       have hy0 : w13.cell? ⟨w10.heap.size, 0, none⟩ = some (.string ⟨m.code.toArray⟩) := (HX13.out.cell 0).trans rfl
       have hy1 : w13.cell? ⟨w10.heap.size, 1, none⟩ = some (.slice A12 m.procs.length c12) := (HX13.out.cell 1).trans rfl
       have hy2 : w13.cell? ⟨w10.heap.size, 2, none⟩ = some (.slice s.A2 m.imports.length s.c2) := (HX13.out.cell 2).trans rfl
       have hy3 : w13.cell? ⟨w10.heap.size, 3, none⟩ = some (.int .i64 m.data) := (HX13.out.cell 3).trans rfl
       have hy4 : w13.cell? ⟨w10.heap.size, 4, none⟩ = some (.slice s.A3 m.init.length s.c3) := (HX13.out.cell 4).trans rfl
       have HQ13 := Lib.hid (show Bx w9.heap.size _ _ w13 from (HG13.out.block _ (by have := HL10.out; omega)).trans (((HQ10.out.grow HB12.out)).far (a := ⟨w10.heap.size, 1, none⟩) (by have := HL10.out; simp only; omega) (.slice A12 m.procs.length c12)))
       have hz0 : w13.cell? ⟨w9.heap.size, 0, none⟩ = some (.slice none 0 0) := (HQ13.out.cell 0).trans rfl
       have hz1 : w13.cell? ⟨w9.heap.size, 1, none⟩ = some (.slice A9 o.length c9) := (HQ13.out.cell 1).trans rfl
       have hzf := HQ13.out.frozen
       have hzl := HQ13.out.lt
       have hne : w9.heap.size ≠ w10.heap.size := by have := HL10.out; omega)
    | (refine wpList_app etMods8 rfl _ _ rfl (w13.heap.size + 1) (.slice none 0 0) 0 [] rfl (World.ownsRow_nil _ _ _ _) _ 1 _ rfl (src_mod8 (w13.setCell ⟨w10.heap.size, 2, none⟩ (.slice A13 m.imports.length c13)) w13.heap.size (setCell_size _ _ _) _ _ _ _ _) (by omega) (by unfold maxLen; omega) (by simp) ?_
       intro v14 w14 hA14
       obtain ⟨A14, c14, hv14⟩ := own_slice' hA14.own
       subst hv14
       have ho14 := hA14.own
       simp only [Nat.zero_add, List.nil_append] at ho14
       have HO14 := Lib.hid ho14
       clear ho14
       have HG14 := Lib.hid (hA14.below (Below.refl (w13.heap.size + 1) _) (by simp) (World.ownsRow_nil _ _ 73 5) (Nat.le_refl _))
       clear hA14
       have HQ14 := Lib.hid (show Bx w9.heap.size _ _ w14 from (HG14.out.block _ (by omega)).trans (Bx.grow (HQ13.out.far (a := ⟨w10.heap.size, 2, none⟩) hne (.slice A13 m.imports.length c13)) (alloc_below _ _)))
       have hu0 : w14.cell? ⟨w9.heap.size, 0, none⟩ = some (.slice none 0 0) := (HQ14.out.cell 0).trans rfl
       have hu1 : w14.cell? ⟨w9.heap.size, 1, none⟩ = some (.slice A9 o.length c9) := (HQ14.out.cell 1).trans rfl
       have huf := HQ14.out.frozen
       have hul := HQ14.out.lt))
  have HXQ := Lib.hid (HQ14.out.set 0 (.slice A14 1 c14))
  have hrx : W.heap.size + 1 ≠ w10.heap.size := by have := HL10.out; omega
  have hrq : W.heap.size + 1 ≠ w9.heap.size := by omega
  have HY13 := Lib.hid (show Bx (W.heap.size + 1) _ _ w13 from (HG13.out.block _ (by have := HY10.out.lt; omega)).trans ((HY10.out.grow HB12.out).far (a := ⟨w10.heap.size, 1, none⟩) hrx (.slice A12 m.procs.length c12)))
  have HY14 := Lib.hid (show Bx (W.heap.size + 1) _ _ w14 from (HG14.out.block _ (by have := HY13.out.lt; omega)).trans (Bx.grow (HY13.out.far (a := ⟨w10.heap.size, 2, none⟩) hrx (.slice A13 m.imports.length c13)) (alloc_below _ _)))
  have HYQ := Lib.hid (HY14.out.far (a := ⟨w9.heap.size, 0, none⟩) hrq (.slice A14 1 c14))
  have HBs := Lib.hid (show ∀ b ∈ [w10.heap.size, w9.heap.size, W.heap.size + 1], W.heap.size ≤ b by have := HL10.out; intro b hb; simp at hb; omega)
  have O13 := Lib.hid (show Only [w10.heap.size, w9.heap.size, W.heap.size + 1] w12 w13 from ((Only.refl _ w12).setCell (a := ⟨w10.heap.size, 1, none⟩) (by simp) (.slice A12 m.procs.length c12)).trans (Only.of_below (by rw [setCell_size]; exact HG13.out)))
  have O14 := Lib.hid (show Only [w10.heap.size, w9.heap.size, W.heap.size + 1] w13 w14 from (((Only.refl _ w13).setCell (a := ⟨w10.heap.size, 2, none⟩) (by simp) (.slice A13 m.imports.length c13)).trans (Only.of_below (alloc_below _ (.cells #[.string ⟨m.code.toArray⟩, .slice A12 m.procs.length c12, .slice A13 m.imports.length c13, .int .i64 m.data, .slice s.A3 m.init.length s.c3] 73)))).trans (Only.of_below (by have h14 := HG14.out; rw [show w13.heap.size + 1 = ((w13.setCell ⟨w10.heap.size, 2, none⟩ (.slice A13 m.imports.length c13)).alloc (.cells #[.string ⟨m.code.toArray⟩, .slice A12 m.procs.length c12, .slice A13 m.imports.length c13, .int .i64 m.data, .slice s.A3 m.init.length s.c3] 73)).heap.size by simp] at h14; exact h14)))
  have OQ := Lib.hid (show Only [w10.heap.size, w9.heap.size, W.heap.size + 1] w14 (w14.setCell ⟨w9.heap.size, 0, none⟩ (.slice A14 1 c14)) from (Only.refl _ w14).setCell (by simp) _)
  have R9 := Lib.hid (own_ints8m [w10.heap.size, w9.heap.size, W.heap.size + 1] (by have := HL10.out; intro b hb; simp at hb; omega) HO9.out)
  have R12 := Lib.hid (own_procs8m [w10.heap.size, w9.heap.size, W.heap.size + 1] (by have := HL10.out; intro b hb; simp at hb; omega) HO12.out)
  have R13 := Lib.hid (own_ints8m [w10.heap.size, w9.heap.size, W.heap.size + 1] (by have := HL10.out; intro b hb; simp at hb; omega) HO13.out)
  have HB14 := Lib.hid (show Below W.heap.size W w14 from (((((HB10.out.trans (HB12.out.mono HB10.out.size)).setCell (p := ⟨w10.heap.size, 1, none⟩) HB10.out.size _).trans (HG13.out.mono (by have := HB10.out.size; omega))).setCell (p := ⟨w10.heap.size, 2, none⟩) HB10.out.size _).alloc (by rw [setCell_size]; have := HB10.out.size; omega) _).trans (HG14.out.mono (by have := HB10.out.size; omega)))
  have hI14 : ModIn (mask [w10.heap.size, w9.heap.size, W.heap.size + 1] w14) ⟨A12, c12, A13, c13, s.A3, s.c3⟩ m := ⟨R12.out.only (O13.out.trans O14.out), R13.out.only8 O14.out, HI.out.init.later (mask_below HB14.out _ HBs.out) (Nat.le_refl _), HI.out.code_le, HI.out.procs_le, HI.out.imports_le, HI.out.init_le⟩
  have R14 := Lib.hid (own_mod8m [w10.heap.size, w9.heap.size, W.heap.size + 1] (by have := HL10.out; intro b hb; simp at hb; omega) (s := ⟨A12, c12, A13, c13, s.A3, s.c3⟩) HO14.out hI14)
  have hp0 : (w14.setCell ⟨w9.heap.size, 0, none⟩ (.slice A14 1 c14)).cell? ⟨w9.heap.size, 0, none⟩ = some (.slice A14 1 c14) := (HXQ.out.cell 0).trans rfl
  have hp1 : (w14.setCell ⟨w9.heap.size, 0, none⟩ (.slice A14 1 c14)).cell? ⟨w9.heap.size, 1, none⟩ = some (.slice A9 o.length c9) := (HXQ.out.cell 1).trans rfl
  have hv0 : (w14.setCell ⟨w9.heap.size, 0, none⟩ (.slice A14 1 c14)).cell? ⟨W.heap.size + 1, 0, none⟩ = some (.slice none 0 0) := (HYQ.out.cell 0).trans rfl
  have hv1 : (w14.setCell ⟨w9.heap.size, 0, none⟩ (.slice A14 1 c14)).cell? ⟨W.heap.size + 1, 1, none⟩ = some (.slice none 0 0) := (HYQ.out.cell 1).trans rfl
  have hvf := HYQ.out.frozen
  have hvl := HYQ.out.lt
  have HBQ := Lib.hid (HB14.out.setCell (p := ⟨w9.heap.size, 0, none⟩) (by simp only; omega) (.slice A14 1 c14))
  have RQ := Lib.hid (R14.out.later OQ.out (by rw [mask_size]; exact Nat.le_refl _))
  have OA := Lib.hid ((((Only.of_below HA10.out).trans (Only.of_below HB12.out)).trans (O13.out.trans O14.out)).trans OQ.out)
  have RO := Lib.hid (R9.out.only8 OA.out)
  rw [rounds_succ]
  generalize w14.setCell ⟨w9.heap.size, 0, none⟩ (.slice A14 1 c14) = wq at *
  clear d0 d1 d2 d3 d4 hx12f hx12l hx1 hx2 hx13f hx13l hy0 hy1 hy2 hy3 hy4 hz0 hz1 hzf hzl hu0 hu1 huf hul HSp HSi HX11 HX12 HX13 HQ10 HQ13 HQ14 HO9 HO12 HO13 HO14 R9 R12 R13 R14 OA O13 O14 OQ hI14 HY10 HY13 HY14 HG12 HG13 HG14 HB9 HB10 HB11 HB12 HB14 HA10 hb10 HI
  go_wp2_with fail
  have HYE := Lib.hid ((HYQ.out.set 0 (.slice A14 1 c14)).set 1 (.slice A9 o.length c9))
  have HBE := Lib.hid ((HBQ.out.setCell (p := ⟨W.heap.size + 1, 0, none⟩) (by simp only; omega) (.slice A14 1 c14)).setCell (p := ⟨W.heap.size + 1, 1, none⟩) (by simp only; omega) (.slice A9 o.length c9))
  have OE := Lib.hid (((Only.refl [w10.heap.size, w9.heap.size, W.heap.size + 1] wq).setCell (a := ⟨W.heap.size + 1, 0, none⟩) (by simp) (.slice A14 1 c14)).setCell (a := ⟨W.heap.size + 1, 1, none⟩) (by simp) (.slice A9 o.length c9))
  have RM := Lib.hid ((RQ.out.later OE.out (by rw [mask_size]; exact Nat.le_refl _)).reads (mask_reads _ _))
  have RI := Lib.hid ((RO.out.only8 OE.out).reads (mask_reads _ _))
  generalize World.setCell _ _ _ = we at *
  have y0 : we.cell? ⟨W.heap.size + 1, 0, none⟩ = some (.slice A14 1 c14) := (HYE.out.cell 0).trans rfl
  have y1 : we.cell? ⟨W.heap.size + 1, 1, none⟩ = some (.slice A9 o.length c9) := (HYE.out.cell 1).trans rfl
  refine bodyPost_ret (v := .agg #[.slice A14 1 c14, .slice A9 o.length c9]) ?_ rfl ⟨A14, c14, A9, c9, rfl, RM.out, RI.out, HBE.out⟩
  simp [results, Tryz.results26, go_sem, y0, y1]
end Go.Proofs.YtpfcojnkflcnoaaGreatDoor
/- A new memory of words: all are 0. Condition: it is as great as may be. -/
namespace Go.Proofs.YtpfcojnkflcnoaaGreatDoor
open Go.RowKit
set_option maxRecDepth 100000

/-- So many zeros (a power of 2) taken off a row. -/
def eat : Nat → List Value → Option (List Value)
  | 0, .int .u16 (.ofNat 0) :: t => some t
  | 0, _ => none
  | k + 1, l => match eat k l with
    | some t => eat k t
    | none => none
theorem eat_sound : ∀ (k : Nat) (l t : List Value), eat k l = some t → l = List.replicate (2 ^ k) (.int .u16 0) ++ t
  | 0, l, t, h => by
    match l, h with
    | .int .u16 (.ofNat 0) :: t', h => have e : t' = t := Option.some.inj h; rw [e]; rfl
  | k + 1, l, t, h => by
    simp only [eat] at h
    cases h1 : eat k l with
    | none => rw [h1] at h; cases h
    | some t1 =>
      rw [h1] at h
      have e1 := eat_sound k l t1 h1
      have e2 := eat_sound k t1 t h
      rw [e1, e2, ← List.append_assoc, List.replicate_append_replicate, show 2 ^ k + 2 ^ k = 2 ^ (k + 1) by omega]
def eatAll : List Nat → List Value → Option (List Value)
  | [], l => some l
  | k :: ks, l => match eat k l with
    | some t => eatAll ks t
    | none => none
theorem eatAll_sound : ∀ (ks : List Nat) (l t : List Value), eatAll ks l = some t → l = List.replicate ((ks.map (2 ^ ·)).sum) (.int .u16 0) ++ t
  | [], l, t, h => by simp [eatAll] at h; simp [h]
  | k :: ks, l, t, h => by
    simp only [eatAll] at h
    cases h1 : eat k l with
    | none => rw [h1] at h; cases h
    | some t1 =>
      rw [h1] at h
      have e1 := eat_sound k l t1 h1
      have e2 := eatAll_sound ks t1 t h
      rw [e1, e2, ← List.append_assoc, List.replicate_append_replicate, List.map_cons, List.sum_cons]
def endB : Option (List Value) → Bool
  | some [.int .i64 (.ofNat 0), .bool false] => true
  | _ => false
theorem endB_sound {o : Option (List Value)} (h : endB o = true) : o = some [.int .i64 0, .bool false] := by
  unfold endB at h
  split at h
  · rfl
  · cases h
set_option maxHeartbeats 4000000 in
/-- The cells of a memory that was not made. -/
theorem memZero_eats : endB (eatAll [15, 14, 13, 12, 11, 10, 9, 8, 7, 6, 5, 4, 3, 2, 1, 0] Tryz.zeroCells111.toList) = true := by kernel_rfl
theorem memZero_eq : Tryz.zeroCells111.toList = List.replicate 65535 (.int .u16 0) ++ [.int .i64 0, .bool false] := eatAll_sound _ _ _ (endB_sound memZero_eats)
theorem memZero_size : Tryz.zeroCells111.size = 65537 := by rw [← Array.length_toList, memZero_eq, List.length_append, List.length_replicate]; rfl
theorem memAt_new (n : Nat) (hn : n ≤ 65535) (w : World) : MemAt w.heap.size n (fun _ => 0) (w.alloc (.cells ((Tryz.zeroCells111.setIfInBounds 65535 (.int .i64 n)).setIfInBounds 65536 (.bool true)) 111)) := by
  have hx := Bx.new w ((Tryz.zeroCells111.setIfInBounds 65535 (.int .i64 n)).setIfInBounds 65536 (.bool true)) 111
  have hs := memZero_size
  have he := memZero_eq
  generalize Tryz.zeroCells111 = Z at *
  refine ⟨⟨_, hx, by simp [hs]⟩, fun i hi => ?_, fun _ => by decide, ?_, ?_, hn⟩
  · rw [hx.cell, Array.getElem?_setIfInBounds_ne (by omega), Array.getElem?_setIfInBounds_ne (by omega), ← Array.getElem?_toList, he, List.getElem?_append_left (by rw [List.length_replicate]; exact hi), List.getElem?_replicate, if_pos hi]
    rfl
  · rw [hx.cell, Array.getElem?_setIfInBounds_ne (by omega), Array.getElem?_setIfInBounds_self_of_lt (by omega)]
  · rw [hx.cell, Array.getElem?_setIfInBounds_self_of_lt (by simp; omega)]
def MemEnd (n : Nat) (w : World) (e : Ending) (w' : World) : Prop := e = .returned (.tuple #[.pointer (some ⟨w.heap.size, 0, none⟩), .int .i64 0]) ∧ MemAt w.heap.size n (fun _ => 0) w' ∧ Below w.heap.size w w'
theorem memNew_any (n : Nat) (hn : n ≤ 65535) (w : World) : Calls Tryz.prog 28 #[.int .i64 n] w (MemEnd n w) := by
  have hnI : (n : Int) ≤ 65535 := by omega
  have HM := Lib.hid (memAt_new n hn w)
  have HB := Lib.hid (alloc_below w (.cells ((Tryz.zeroCells111.setIfInBounds 65535 (.int .i64 n)).setIfInBounds 65536 (.bool true)) 111))
  go_enter Tryz.func28, Tryz.ntmps28
  go_wp2_with fail
  go_ret2
  exact ⟨rfl, HM.out, HB.out⟩
def TermEnd (i : List UInt8) (most : Int) (w : World) (e : Ending) (w' : World) : Prop := e = .returned (.tuple #[.pointer (some ⟨w.heap.size, 0, none⟩), .int .i64 0]) ∧ Bx w.heap.size #[.string ⟨i.toArray⟩, .string ⟨#[]⟩, .int .i64 most, .complex .f64 0 0, .bool true] 108 w' ∧ Below w.heap.size w w'
theorem termNew_any (i : List UInt8) (hi : i.length ≤ 16384) (most : Int) (h0 : 0 ≤ most) (h1 : most ≤ 16384) (w : World) : Calls Tryz.prog 27 #[.string ⟨i.toArray⟩, .int .i64 most] w (TermEnd i most w) := by
  have hI : (i.length : Int) ≤ 16384 := by omega
  go_enter Tryz.func27, Tryz.ntmps27
  go_wp2_with fail
  go_ret2
  exact ⟨rfl, Bx.new w _ _, alloc_below w _⟩
def HeapEnd (w : World) (e : Ending) (w' : World) : Prop := (∃ b, e = .returned (.tuple #[.pointer (some ⟨b, 0, none⟩), .int .i64 0]) ∧ w.heap.size ≤ b ∧ b < w'.heap.size) ∧ Below w.heap.size w w'
theorem heapNew_any (a n : Int) (h0 : 1 ≤ a) (h1 : a ≤ 65536) (h2 : 0 ≤ n) (h3 : n ≤ 65536 - a) (w : World) : Calls Tryz.prog 29 #[.int .i64 a, .int .i64 n] w (HeapEnd w) := by
  have hmm := @run_makeMap Tryz.prog
  go_enter Tryz.func29, Tryz.ntmps29
  go_wp2_with fail
  go_ret2
  exact ⟨⟨_, rfl, by simp, by simp⟩, (((Below.refl _ _).alloc (Nat.le_refl _) _).alloc (by simp) _)⟩
end Go.Proofs.YtpfcojnkflcnoaaGreatDoor
/- mach.within, mach.may. No condition. -/
namespace Go.Proofs.YtpfcojnkflcnoaaGreatDoor
open Go.RowKit
set_option maxRecDepth 100000

theorem within_any (n lo hi : Int) (w : World) : Calls Tryz.prog 44 #[.int .i64 n, .int .i64 lo, .int .i64 hi] w fun e w' => e = .returned (.bool (withinB n lo hi)) ∧ w = w' := by
  by_cases h : lo ≤ n
  · have h1 : decide (lo ≤ n) = true := by simpa using h
    go_enter Tryz.func44, Tryz.ntmps44
    go_wp2_with fail
    go_ret
    exact ⟨by unfold withinB; rw [h1]; rfl, rfl⟩
  · have h1 : decide (lo ≤ n) = false := by simpa using h
    go_enter Tryz.func44, Tryz.ntmps44
    go_wp2_with fail
    go_ret
    exact ⟨by unfold withinB; rw [h1]; rfl, rfl⟩

set_option maxHeartbeats 1000000 in
theorem may_any (p : ProcL) (s : MS) (m : ModL) (_hm : m.code.length ≤ 140737488355328) (w : World) : Calls Tryz.prog 105 #[procV p, modV s m] w (BoolEnd w (mayB p m.code.length)) := by
  have HB := Lib.hid (((Below.refl w.heap.size w).alloc (Nat.le_refl _) (.cells #[.int .i64 p.at_, .int .i64 p.params, .int .i64 p.locals, .int .i64 p.depth, .int .i64 p.level, .bool p.fn] 69)).alloc (by simp) (.cells #[.string ⟨m.code.toArray⟩, .slice s.A1 m.procs.length s.c1, .slice s.A2 m.imports.length s.c2, .int .i64 m.data, .slice s.A3 m.init.length s.c3] 73))
  obtain ⟨pa, pp, pl, pd, pv, pf⟩ := p
  unfold procV modV mayB
  simp only at HB ⊢
  cases h1 : withinB pp 0 65535
  · go_enter Tryz.func105, Tryz.ntmps105
    go_wp2_with (first | (go_at_call 44; refine (within_any _ _ _ _).mono ?_; rintro e w' ⟨rfl, rfl⟩))
    go_ret
    exact ⟨rfl, HB.out⟩
  cases h2 : withinB pl 0 65535
  · go_enter Tryz.func105, Tryz.ntmps105
    go_wp2_with (first | (go_at_call 44; refine (within_any _ _ _ _).mono ?_; rintro e w' ⟨rfl, rfl⟩))
    go_ret
    exact ⟨rfl, HB.out⟩
  cases h3 : withinB pd 0 65535
  · go_enter Tryz.func105, Tryz.ntmps105
    go_wp2_with (first | (go_at_call 44; refine (within_any _ _ _ _).mono ?_; rintro e w' ⟨rfl, rfl⟩))
    go_ret
    exact ⟨rfl, HB.out⟩
  cases h4 : withinB pa 0 m.code.length
  · go_enter Tryz.func105, Tryz.ntmps105
    go_wp2_with (first | (go_at_call 44; refine (within_any _ _ _ _).mono ?_; rintro e w' ⟨rfl, rfl⟩))
    go_ret
    exact ⟨rfl, HB.out⟩
  cases h5 : withinB pv 1 16
  · go_enter Tryz.func105, Tryz.ntmps105
    go_wp2_with (first | (go_at_call 44; refine (within_any _ _ _ _).mono ?_; rintro e w' ⟨rfl, rfl⟩))
    go_ret
    exact ⟨rfl, HB.out⟩
  · go_enter Tryz.func105, Tryz.ntmps105
    go_wp2_with (first | (go_at_call 44; refine (within_any _ _ _ _).mono ?_; rintro e w' ⟨rfl, rfl⟩))
    go_ret
    exact ⟨rfl, HB.out⟩
end Go.Proofs.YtpfcojnkflcnoaaGreatDoor
