/- Rows of modules that a call gathers. A machine's own copy of a program. A new memory of words. mach. Condition: what lies in memory can lie there; what each theorem says. -/
import Derived.Test.YtabenhpjgjjgnaaGreatDoorBap
import Derived.Test.YtabenhpjgjjgnaaGreatDoorBal
import Derived.Test.YtabenhpjgjjgnaaGreatDoorBah
import Derived.Test.YtabenhpjgjjgnaaGreatDoorBae
import Derived.Test.YtabenhpjgjjgnaaGreatDoorBaa
import Derived.Deep.DeepCutAuto
import Derived.IntWalk
import Derived.Deep.LoopGhost
/- Rows of modules that a call gathers. -/
namespace Go.Proofs.YtabenhpjgjjgnaaGreatDoor
open Go.RowKit
set_option maxRecDepth 100000
namespace Own8
def Off (X : Option Nat) (A : Option Addr) (n : Nat) : Prop := n = 0 ∨ ∀ b off, A = some ⟨b, off, none⟩ → some b ≠ X
structure OffM (X : Option Nat) (s : MS) (m : ModL) : Prop where
 procs : Off X s.A1 m.procs.length
 imports : Off X s.A2 m.imports.length
 init : Off X s.A3 m.init.length
theorem each_grown {w w' : World} {X : Option Nat} {A : Option Addr} {size n : Nat} {P Q : Nat → Nat → Nat → Prop} (h : Each w A size n P) (hg : w.grownBy w' X) (ho : Off X A n)
 (hPQ : ∀ j b o, j < n → b < w.heap.size → some b ≠ X → P j b o → Q j b o) : Each w' A size n Q := by
 rcases h with h | ⟨b, off, e, hlt, hc⟩
 ·exact .inl h
 ·rcases ho with ho | ho
  ·exact .inl ho
  ·exact .inr ⟨b, off, e, Nat.lt_of_lt_of_le hlt hg.size, fun j hj => hPQ j b _ hj hlt (ho b off e) (hc j hj)⟩
theorem mod_grown {w w' : World} {X : Option Nat} {s : MS} {m : ModL} (h : ModIn w s m) (hg : w.grownBy w' X) (ho : OffM X s m) : ModIn w' s m := by
 have cell : ∀ b o, b < w.heap.size → some b ≠ X → w'.cell? ⟨b, o, none⟩ = w.cell? ⟨b, o, none⟩ := fun b o hb hx => hg.cell_far ⟨b, o, none⟩ hb hx
 refine ⟨each_grown h.procs hg ho.procs fun j b o _ hb hx hc => ?_, each_grown h.imports hg ho.imports fun j b o _ hb hx hc => (cell b o hb hx).trans hc, each_grown h.init hg ho.init fun j b o _ hb hx hc => ⟨(cell b o hb hx).trans hc.1, hc.2⟩, h.code_le, h.procs_le, h.imports_le, h.init_le⟩
 obtain ⟨c0, c1, c2, c3, c4, c5⟩ := hc
 exact ⟨(cell b _ hb hx).trans c0, (cell b _ hb hx).trans c1, (cell b _ hb hx).trans c2, (cell b _ hb hx).trans c3, (cell b _ hb hx).trans c4, (cell b _ hb hx).trans c5⟩
theorem off_new {w : World} {A : Option Addr} {size n : Nat} {P : Nat → Nat → Nat → Prop} (h : Each w A size n P) : Off (some w.heap.size) A n := by
 rcases h with h | ⟨b, off, e, hlt, _⟩
 ·exact .inl h
 ·refine .inr fun b' off' e' hx => ?_
  rw [e] at e'
  injection e' with e'
  injection e' with e1 _
  have := Option.some.inj hx
  omega
theorem mod_offNew {w : World} {s : MS} {m : ModL} (h : ModIn w s m) : OffM (some w.heap.size) s m := ⟨off_new h.procs, off_new h.imports, off_new h.init⟩
theorem off_own {w : World} {B : Nat} {e : TypeId} {size : Nat} {A : Option Addr} {n m c : Nat} {xs : List Value} (h : w.ownsRow B e size (.slice A n c) m xs) (X : Option Nat) (hX : ∀ k, X = some k → k < B) : Off X A m := by
 rcases h.2 with ⟨_, h2⟩ | ⟨g, cap, cur, h1, hB, _⟩
 ·exact .inl h2
 ·refine .inr fun b off e hx => ?_
  injection h1 with h1 _ _
  rw [h1] at e
  injection e with e
  injection e with e1 _
  have := hX b hx.symm
  omega
theorem off_old {w : World} {A : Option Addr} {size n : Nat} {P : Nat → Nat → Nat → Prop} (h : Each w A size n P) (X : Option Nat) (hX : ∀ k, X = some k → w.heap.size ≤ k) : Off X A n := by
 rcases h with h | ⟨b, off, e, hlt, _⟩
 ·exact .inl h
 ·refine .inr fun b' off' e' hx => ?_
  rw [e] at e'
  injection e' with e'
  injection e' with e1 _
  have := hX b' hx.symm
  omega
theorem own_set {w : World} {B : Nat} {e : TypeId} {size : Nat} {v : Value} {n : Nat} {xs : List Value} (h : w.ownsRow B e size v n xs) {b : Nat} (hb : b < B) (i : Nat) (u : Value) : (w.setCell ⟨b, i, none⟩ u).ownsRow B e size v n xs := by
 refine ⟨h.1, ?_⟩
 rcases h.2 with hn | ⟨g, cap, cur, rfl, hB, hg, rest⟩
 ·exact .inl hn
 ·exact .inr ⟨g, cap, cur, rfl, hB, (Below.heap_setCell w ⟨b, i, none⟩ u g (by simp only; omega)).trans hg, rest⟩
theorem grown_cell (w : World) (b i : Nat) (u : Value) : w.grownBy (w.setCell ⟨b, i, none⟩ u) (some b) :=
 ⟨rfl, rfl, rfl, by simp, fun k _ hk => Below.heap_setCell w ⟨b, i, none⟩ u k (fun e => hk (by rw [e]))⟩
theorem own_lt {w : World} {B : Nat} {e : TypeId} {size : Nat} {v : Value} {n : Nat} {xs : List Value} (h : w.ownsRow B e size v n xs) {k : Nat} (hk : v.ownBlock = some k) : B ≤ k ∧ k < w.heap.size := h.lt k hk
theorem ints_far {w : World} {A : Option Addr} {l : List Int} {b : Nat} (h : Ints w A l) (ho : Off (some b) A l.length) (i : Nat) (u : Value) : Ints (w.setCell ⟨b, i, none⟩ u) A l :=
 each_grown h (grown_cell w b i u) ho fun _ b' o _ hb hx hc => ((grown_cell w b i u).cell_far ⟨b', o, none⟩ hb hx).trans hc
def cells8 (p : MS × ModL) : List Value := modCells8 p.2 p.1
theorem mask_cell' {bs : List Nat} {W : World} {b : Nat} (h : b ∉ bs) (o : Nat) : (mask bs W).cell? ⟨b, o, none⟩ = W.cell? ⟨b, o, none⟩ := by unfold World.cell?; rw [mask_at _ _ h]
theorem each_mask {W : World} {bs : List Nat} {A : Option Addr} {size n : Nat} {P Q : Nat → Nat → Nat → Prop} (h : Each W A size n P) (ho : ∀ x ∈ bs, Off (some x) A n) (hPQ : ∀ j b o, b ∉ bs → P j b o → Q j b o) : Each (mask bs W) A size n Q := by
 rcases h with h | ⟨b, off, e, hlt, hc⟩
 ·exact .inl h
 ·by_cases hn : n = 0
  ·exact .inl hn
  ·have hb : b ∉ bs := fun hm => by
    rcases ho b hm with h | h
    ·exact hn h
    ·exact h b off e rfl
   exact .inr ⟨b, off, e, by rw [mask_size]; exact hlt, fun j hj => hPQ j b _ hb (hc j hj)⟩
theorem off_mask {W : World} {bs : List Nat} {A : Option Addr} {size n : Nat} {P : Nat → Nat → Nat → Prop} (h : Each (mask bs W) A size n P) (hP : ∀ j b o, P j b o → ∃ v, (mask bs W).cell? ⟨b, o, none⟩ = some v) : ∀ x ∈ bs, Off (some x) A n := fun x hx => by
 rcases h with h | ⟨b, off, e, hlt, hc⟩
 ·exact .inl h
 ·by_cases hn : n = 0
  ·exact .inl hn
  ·obtain ⟨v, hv⟩ := hP 0 b _ (hc 0 (by omega))
   have hb := mask_notin hv
   refine .inr fun b' off' e' hx' => ?_
   rw [e] at e'
   injection e' with e'
   injection e' with e1 _
   exact hb (by rw [e1, Option.some.inj hx']; exact hx)
theorem mod_mask {W : World} {bs : List Nat} {s : MS} {m : ModL} (h : ModIn W s m) (ho : ∀ x ∈ bs, OffM (some x) s m) : ModIn (mask bs W) s m := by
 refine ⟨each_mask h.procs (fun x hx => (ho x hx).procs) fun j b o hb hc => ?_, each_mask h.imports (fun x hx => (ho x hx).imports) fun j b o hb hc => (mask_cell' hb o).trans hc, each_mask h.init (fun x hx => (ho x hx).init) fun j b o hb hc => ⟨(mask_cell' hb o).trans hc.1, hc.2⟩, h.code_le, h.procs_le, h.imports_le, h.init_le⟩
 obtain ⟨c0, c1, c2, c3, c4, c5⟩ := hc
 exact ⟨(mask_cell' hb _).trans c0, (mask_cell' hb _).trans c1, (mask_cell' hb _).trans c2, (mask_cell' hb _).trans c3, (mask_cell' hb _).trans c4, (mask_cell' hb _).trans c5⟩
structure OI (bs : List Nat) (Q Y : Nat) (x9 vq : Value) (sm : List (MS × ModL)) (W : World) : Prop where
 box : Bx Q #[vq, x9] 25 W
 own : W.ownsRow (Q + 1) 68 5 vq sm.length (sm.flatMap cells8)
 mods : ∀ p ∈ sm, ModIn W p.1 p.2 ∧ OffM vq.ownBlock p.1 p.2 ∧ OffM (some Q) p.1 p.2 ∧ OffM (some Y) p.1 p.2 ∧ ∀ x ∈ bs, OffM (some x) p.1 p.2
 lt : Y < Q
 low : ∀ x ∈ bs, x < Q
theorem OI.grow {bs : List Nat} {Q Y : Nat} {x9 vq : Value} {sm : List (MS × ModL)} {W W' : World} (h : OI bs Q Y x9 vq sm W) (hb : Below W.heap.size W W') : OI bs Q Y x9 vq sm W' :=
 ⟨h.box.grow hb, K16.own_later h.own hb, fun p hp => ⟨(h.mods p hp).1.later hb (Nat.le_refl _), (h.mods p hp).2⟩, h.lt, h.low⟩
theorem OI.app {bs : List Nat} {Q Y : Nat} {x9 vq v : Value} {sm : List (MS × ModL)} {p : MS × ModL} {W W' : World} (h : OI bs Q Y x9 vq sm W) (hA : App W W' (Q + 1) 68 5 vq v (sm.length + 1) (sm.flatMap cells8 ++ cells8 p)) (hp : ModIn W p.1 p.2 ∧ OffM vq.ownBlock p.1 p.2 ∧ OffM (some Q) p.1 p.2 ∧ OffM (some Y) p.1 p.2 ∧ ∀ x ∈ bs, OffM (some x) p.1 p.2) :
 OI bs Q Y x9 v (sm ++ [p]) (W'.setCell ⟨Q, 0, none⟩ v) := by
 have hne : some Q ≠ vq.ownBlock := fun e => by have := (own_lt h.own e.symm).1; omega
 have all : ∀ q ∈ sm ++ [p], ModIn W q.1 q.2 ∧ OffM vq.ownBlock q.1 q.2 ∧ OffM (some Q) q.1 q.2 ∧ OffM (some Y) q.1 q.2 ∧ ∀ x ∈ bs, OffM (some x) q.1 q.2 := fun q hq => by
  rcases List.mem_append.1 hq with hq | hq
  ·exact h.mods q hq
  ·rw [List.mem_singleton.1 hq]; exact hp
 refine ⟨(show Bx Q #[vq, x9] _ W' from (hA.grown.block Q h.box.lt hne).trans h.box).set 0 v, ?_, fun q hq => ?_, h.lt, h.low⟩
 ·refine own_set ?_ (Nat.lt_succ_self _) 0 v
  rw [List.flatMap_append, List.length_append]
  simpa using hA.own
 ·obtain ⟨h1, h2, h3, h5⟩ := all q hq
  have h4 := mod_grown h1 hA.grown h2
  refine ⟨mod_grown h4 (grown_cell W' Q 0 v) h3, ?_, h3, h5⟩
  rcases hA.place with e | e
  ·rw [e]; exact h2
  ·rw [e]; exact mod_offNew h1
theorem OI.setY {bs : List Nat} {Q Y : Nat} {x9 vq : Value} {sm : List (MS × ModL)} {W : World} (h : OI bs Q Y x9 vq sm W) (i : Nat) (u : Value) : OI bs Q Y x9 vq sm (W.setCell ⟨Y, i, none⟩ u) :=
 ⟨h.box.far (a := ⟨Y, i, none⟩) (by have := h.lt; simp only; omega) u, own_set h.own (by have := h.lt; omega) i u, fun p hp => ⟨mod_grown (h.mods p hp).1 (grown_cell W Y i u) (h.mods p hp).2.2.2.1, (h.mods p hp).2⟩, h.lt, h.low⟩
theorem own8j {w : World} {B : Nat} {e : TypeId} {c : Nat} {A : Option Addr} {n cap : Nat} {α : Type} {f : α → List Value} {l : List α} (hc : ∀ x, (f x).length = c) (h : w.ownsRow B e c (.slice A n cap) l.length (l.flatMap f)) (d : α) {P : Nat → Nat → Nat → Prop}
 (hP : ∀ g j o, j < l.length → (∀ t u, (f (l.getD j d))[t]? = some u → w.cell? ⟨g, o + t, none⟩ = some u) → P j g o) : Each w A c l.length P := by
 have h' := h
 rcases h.2 with ⟨_, h0⟩ | ⟨g, cap', cur, he, _, hgg, _⟩
 ·exact .inl h0
 ·refine .inr ⟨g, 0, by injection he, lt_of_get8 hgg, fun j hj => hP g j _ hj fun t u htu => ?_⟩
  have ht : t < c := by have := (List.getElem?_eq_some_iff.1 htu).1; rwa [hc] at this
  have := h'.cells (g := g) (by rw [he]; rfl) (j * c + t) u (by rw [flat8 f c hc l d j t hj ht]; exact htu)
  rw [WideShapes.add_plain] at this
  rw [Nat.add_assoc]; exact this
theorem OI.row {bs : List Nat} {Q Y : Nat} {x9 vq : Value} {sm : List (MS × ModL)} {W : World} (h : OI bs Q Y x9 vq sm W) : ∃ A c, vq = .slice A sm.length c ∧ Mods (mask bs W) A (sm.map (·.2)) := by
 obtain ⟨A, c, hv⟩ := own_slice' h.own
 refine ⟨A, c, hv, ?_⟩
 have ho := h.own
 rw [hv] at ho
 have := own8j (f := cells8) (c := 5) (P := fun j b o => j < sm.length ∧ ∀ t u, (cells8 (sm.getD j default))[t]? = some u → W.cell? ⟨b, o + t, none⟩ = some u) (fun _ => rfl) ho default fun g j o hj hu => ⟨hj, hu⟩
 unfold Mods
 rw [List.length_map]
 refine each_mask this (fun x hx => off_own ho (some x) (fun k hk => by cases hk; have := h.low x hx; omega)) fun j b o hb ⟨hj, hu⟩ => ?_
 have e : (sm.map (·.2)).getD j default = (sm.getD j default).2 := by simp [List.getD_eq_getElem?_getD, hj]
 have hm := h.mods _ (getD_mem' sm j default hj)
 rw [e]
 exact ⟨(sm.getD j default).1, mod_mask hm.1 hm.2.2.2.2, (mask_cell' hb _).trans (hu 0 _ rfl), (mask_cell' hb _).trans (hu 1 _ rfl), (mask_cell' hb _).trans (hu 2 _ rfl), (mask_cell' hb _).trans (hu 3 _ rfl), (mask_cell' hb _).trans (hu 4 _ rfl)⟩
def OwnEnd8 (bs : List Nat) (W : World) (ms : List ModL) (o : List Int) (e : Ending) (w' : World) : Prop := ∃ A c A' c', e = .returned (.agg #[.slice A ms.length c, .slice A' o.length c']) ∧ Mods (mask bs w') A ms ∧ Ints (mask bs w') A' o ∧ Below W.heap.size W w'
end Own8
end Go.Proofs.YtabenhpjgjjgnaaGreatDoor
/- A machine's own copy of a program. -/
namespace Go.Proofs.YtabenhpjgjjgnaaGreatDoor
open Go.RowKit
open Own8
set_option maxRecDepth 100000
theorem take_next (ms : List ModL) (j : Nat) (h : j < ms.length) : ms.take (j + 1) = ms.take j ++ [ms.getD j default] := by
 rw [List.take_succ_eq_append_getElem h, List.getD_eq_getElem?_getD, List.getElem?_eq_getElem h, Option.getD_some]
set_option maxHeartbeats 4000000 in
theorem own_any (bs0 : List Nat) (A2 A3 : Option Addr) (c2 c3 : Nat) (ms : List ModL) (o : List Int) (hms : ms.length ≤ 64) (ho : o.length ≤ 1000) (hp : ∀ m ∈ ms, m.procs.length ≤ 1024) (hi : ∀ m ∈ ms, m.imports.length ≤ 255) (W : World) (hb0 : ∀ x ∈ bs0, x < W.heap.size) (hM : Mods (mask bs0 W) A2 ms) (hO : Ints W A3 o) :
 Calls Tryz.prog 25 #[.agg #[.slice A2 ms.length c2, .slice A3 o.length c3]] W (OwnEnd8 bs0 W ms o) := by
 have HB0 := Lib.hid (show Below W.heap.size W ((W.alloc (.cells #[.slice A2 ms.length c2, .slice A3 o.length c3] 25)).alloc (.cells #[.slice none 0 0, .slice none 0 0] 25)) from ((Below.refl _ _).alloc (Nat.le_refl _) _).alloc (by simp) _)
 have HX0 := Lib.hid (Bx.grow (Bx.new W #[.slice A2 ms.length c2, .slice A3 o.length c3] 25) (alloc_below _ (.cells #[.slice none 0 0, .slice none 0 0] 25)))
 have HY0 := Lib.hid (show Bx (W.heap.size + 1) #[.slice none 0 0, .slice none 0 0] 25 ((W.alloc (.cells #[.slice A2 ms.length c2, .slice A3 o.length c3] 25)).alloc (.cells #[.slice none 0 0, .slice none 0 0] 25)) by simpa using Bx.new (W.alloc (.cells #[.slice A2 ms.length c2, .slice A3 o.length c3] 25)) #[.slice none 0 0, .slice none 0 0] 25)
 have HSo := Lib.hid (src_ints8 (cap := c3) (hO.later HB0.out (Nat.le_refl _)) (fun e => List.eq_nil_of_length_eq_zero (each_none (e ▸ hO))))
 have HM := Lib.hid hM
 clear hM hO
 go_enter Tryz.func25, Tryz.ntmps25
 go_wp2_with (
  at_builtin
  refine wpList_app etInts8 rfl _ _ rfl (W.heap.size + 1 + 1) (.slice none 0 0) 0 [] rfl (World.ownsRow_nil _ _ _ _) _ o.length (o.flatMap intCells8) rfl HSo.out (by omega) (by unfold maxLen; omega) (by simp) ?_
  intro v9 w9 hA9
  obtain ⟨A9, c9, hv9⟩ := own_slice' hA9.own
  subst hv9
  have ho9 := hA9.own
  simp only [Nat.zero_add, List.nil_append] at ho9
  have HO9 := Lib.hid ho9
  clear ho9
  have HG9 := Lib.hid (hA9.below (Below.refl (W.heap.size + 1 + 1) _) (by simp) (World.ownsRow_nil _ _ 3 1) (Nat.le_refl _))
  clear hA9
  have HX9 := Lib.hid (show Bx W.heap.size _ _ w9 from (HG9.out.block _ (by omega)).trans HX0.out)
  have HY9 := Lib.hid (show Bx (W.heap.size + 1) _ _ w9 from (HG9.out.block _ (by omega)).trans HY0.out)
  have hx0 : w9.cell? ⟨W.heap.size, 0, none⟩ = some (.slice A2 ms.length c2) := (HX9.out.cell 0).trans rfl
  have hxl := HX9.out.lt)
 have HB9 := Lib.hid (HB0.out.trans (HG9.out.mono (by omega)))
 have hq9 : W.heap.size + 1 < w9.heap.size := HY9.out.lt
 have HQ10 := Lib.hid (Bx.new w9 #[.slice none 0 0, .slice A9 o.length c9] 25)
 have HA10 := Lib.hid (alloc_below w9 (.cells #[.slice none 0 0, .slice A9 o.length c9] 25))
 have HY10 := Lib.hid (HY9.out.grow HA10.out)
 have RI9 := Lib.hid (own_ints8 HO9.out)
 have HIO0 := Lib.hid (show ∀ x ∈ bs0, Off (some x) A9 o.length from fun x hx => off_own HO9.out (some x) (fun k hk => by cases hk; have := hb0 x hx; omega))
 have HIOF := Lib.hid (off_own HO9.out (some (W.heap.size + 1)) (fun k hk => by cases hk; omega))
 clear HX0 HY0 HSo HX9 HY9 HG9 hx0 hxl HB0 HO9
 have HL10 := Lib.hid (show (w9.alloc (.cells #[.slice none 0 0, .slice A9 o.length c9] 25)).heap.size = w9.heap.size + 1 by simp)
 generalize w9.alloc (.cells #[.slice none 0 0, .slice A9 o.length c9] 25) = w10 at *
 have HB10 := Lib.hid (HB9.out.trans (HA10.out.mono (by omega)))
 have HC10 := Lib.hid HA10.out
 generalize hQ : w9.heap.size = Q at *
 have HQE := Lib.hid (Nat.le_of_eq hQ)
 clear hQ
 have HQlt := Lib.hid hq9
 have HYQ := Lib.hid (show Bx (W.heap.size + 1) #[.slice none 0 0, .slice none 0 0] 25 w10 from HY10.out)
 have HI0 := Lib.hid (show OI bs0 Q (W.heap.size + 1) (.slice A9 o.length c9) (.slice none 0 0) [] w10 from ⟨HQ10.out, ⟨rfl, .inl ⟨rfl, rfl⟩⟩, fun p hp => (by cases hp), hq9, fun x hx => by have := hb0 x hx; omega⟩)
 clear HQ10 HA10 HY10 HB9
 go_loopg [13] ms.length (fun g x wr => ∃ (j m : Nat) (vq : Value) (sm : List (MS × ModL)), x = .int .i64 (j : Nat) ∧ j + m = ms.length ∧ m ≤ g ∧ sm.map (·.2) = ms.take j ∧ Below Q w10 wr ∧ OI bs0 Q (W.heap.size + 1) (.slice A9 o.length c9) vq sm wr)
 case atStart => exact ⟨0, ms.length, _, [], rfl, by omega, Nat.le_refl _, rfl, Below.refl _ _, HI0.out⟩
 case round =>
  obtain ⟨j, m, vq, sm, rfl, hj, hmg, hsm, hbr, hoi⟩ := hrel
  have HB := Lib.hid (HB10.out.trans (hbr.mono (by omega)))
  have HBr := Lib.hid hbr
  have HOI := Lib.hid hoi
  have HSM := Lib.hid hsm
  have HJ := Lib.hid hj
  have hjm : j ≤ 64 := by omega
  have hsz : Q < wr.heap.size := HOI.out.box.lt
  have hWQ : W.heap.size < Q := by omega
  clear hbr hoi hsm
  cases m with
  | zero =>
    obtain rfl : j = ms.length := by omega
    obtain ⟨Aq, cq, rfl, hMq⟩ := HOI.out.row
    have hsm : sm.map (·.2) = ms := by rw [HSM.out, List.take_length]
    have hsl : sm.length = ms.length := by rw [← hsm, List.length_map]
    rw [hsm] at hMq
    have HMq := Lib.hid hMq
    have HIq := Lib.hid (show Ints wr A9 o from RI9.out.later (HC10.out.trans HBr.out) HQE.out)
    have HYr := Lib.hid (show Bx (W.heap.size + 1) #[.slice none 0 0, .slice none 0 0] 25 wr from (HBr.out.block _ hq9).trans HYQ.out)
    have hp0 : wr.cell? ⟨Q, 0, none⟩ = some (.slice Aq sm.length cq) := (HOI.out.box.cell 0).trans rfl
    have hp1 : wr.cell? ⟨Q, 1, none⟩ = some (.slice A9 o.length c9) := (HOI.out.box.cell 1).trans rfl
    have hv0 : wr.cell? ⟨W.heap.size + 1, 0, none⟩ = some (.slice none 0 0) := (HYr.out.cell 0).trans rfl
    have hv1 : wr.cell? ⟨W.heap.size + 1, 1, none⟩ = some (.slice none 0 0) := (HYr.out.cell 1).trans rfl
    have hvf := HYr.out.frozen
    have hvl := HYr.out.lt
    rw [hsl] at hp0
    clear hj
    go_wp2_with fail
    have HYE := Lib.hid ((HYr.out.set 0 (.slice Aq ms.length cq)).set 1 (.slice A9 o.length c9))
    have HBE := Lib.hid ((HB.out.setCell (p := ⟨W.heap.size + 1, 0, none⟩) (by simp only; omega) (.slice Aq ms.length cq)).setCell (p := ⟨W.heap.size + 1, 1, none⟩) (by simp only; omega) (.slice A9 o.length c9))
    have HOE := Lib.hid ((HOI.out.setY 0 (.slice Aq ms.length cq)).setY 1 (.slice A9 o.length c9))
    have RI := Lib.hid (ints_far (ints_far HIq.out HIOF.out 0 (.slice Aq ms.length cq)) HIOF.out 1 (.slice A9 o.length c9))
    generalize World.setCell _ _ _ = we at *
    obtain ⟨A', c', hv', hM'⟩ := HOE.out.row
    cases hv'
    rw [hsm] at hM'
    have y0 : we.cell? ⟨W.heap.size + 1, 0, none⟩ = some (.slice Aq ms.length cq) := (HYE.out.cell 0).trans rfl
    have y1 : we.cell? ⟨W.heap.size + 1, 1, none⟩ = some (.slice A9 o.length c9) := (HYE.out.cell 1).trans rfl
    refine bodyPost_ret (v := .agg #[.slice Aq ms.length cq, .slice A9 o.length c9]) ?_ rfl ⟨Aq, cq, A9, c9, rfl, hM', each_mask RI.out HIO0.out (fun j b o hb hc => (mask_cell' hb o).trans hc), HBE.out⟩
    simp [results, Tryz.results25, go_sem, y0, y1]
  | succ m =>
    have hjl : j < ms.length := by omega
    have d00 : (j : Int) < (ms.length : Int) := by omega
    obtain ⟨b, of, rfl, hb, s, hIm, d0, d1, d2, d3, d4⟩ := HM.out.at_ (j := j) hjl
    rw [mask_size] at hb
    have d0 := mask_cell d0
    have d1 := mask_cell d1
    have d2 := mask_cell d2
    have d3 := mask_cell d3
    have d4 := mask_cell d4
    have hI := hIm.reads (mask_reads bs0 W)
    have hmem := getD_mem' ms j default hjl
    have hmp := hp _ hmem
    have hmi := hi _ hmem
    have HTN := Lib.hid (take_next ms j hjl)
    generalize ms.getD j default = mj at *
    have HIN := Lib.hid (off_mask hIm.init (fun _ _ _ hc => ⟨_, hc.1⟩))
    clear hIm
    have HI := Lib.hid hI
    have hbw : b < wr.heap.size := by have := HB.out.size; omega
    have d0 := (HB.out.cell (p := ⟨b, of + j * 5, none⟩) hb).trans d0
    have d1 := (HB.out.cell (p := ⟨b, of + j * 5 + 1, none⟩) hb).trans d1
    have d2 := (HB.out.cell (p := ⟨b, of + j * 5 + 2, none⟩) hb).trans d2
    have d3 := (HB.out.cell (p := ⟨b, of + j * 5 + 3, none⟩) hb).trans d3
    have d4 := (HB.out.cell (p := ⟨b, of + j * 5 + 4, none⟩) hb).trans d4
    have hszW : W.heap.size ≤ wr.heap.size := HB.out.size
    have HB11 := Lib.hid (alloc_below wr (.cells #[.string ⟨mj.code.toArray⟩, .slice s.A1 mj.procs.length s.c1, .slice s.A2 mj.imports.length s.c2, .int .i64 mj.data, .slice s.A3 mj.init.length s.c3] 68))
    have HX11 := Lib.hid (Bx.new wr #[.string ⟨mj.code.toArray⟩, .slice s.A1 mj.procs.length s.c1, .slice s.A2 mj.imports.length s.c2, .int .i64 mj.data, .slice s.A3 mj.init.length s.c3] 68)
    have HSp := Lib.hid (src_procs8 (cap := s.c1) (HI.out.procs.later (HB.out.trans (HB11.out.mono HB.out.size)) (Nat.le_refl _)) (fun e => List.eq_nil_of_length_eq_zero (each_none (e ▸ HI.out.procs))))
    have HSl := Lib.hid (show sm.length = j by have := congrArg List.length HSM.out; rw [List.length_map, List.length_take] at this; omega)
    clear hI hj
    go_wp2_with (
     at_builtin
     first
     | (refine wpList_app etProcs8 rfl _ _ rfl (wr.heap.size + 1) (.slice none 0 0) 0 [] rfl (World.ownsRow_nil _ _ _ _) _ mj.procs.length (mj.procs.flatMap procCells8) rfl HSp.out (by omega) (by unfold maxLen; omega) (by simp) ?_
        intro v12 w12 hA12
        obtain ⟨A12, c12, hv12⟩ := own_slice' hA12.own
        subst hv12
        have ho12 := hA12.own
        simp only [Nat.zero_add, List.nil_append] at ho12
        have HO12 := Lib.hid ho12
        clear ho12
        have HG12 := Lib.hid (hA12.below (Below.refl (wr.heap.size + 1) _) (by simp) (World.ownsRow_nil _ _ 113 6) (Nat.le_refl _))
        clear hA12
        have HX12 := Lib.hid (show Bx wr.heap.size _ _ w12 from (HG12.out.block _ (by omega)).trans HX11.out)
        have HB12 := Lib.hid (HB11.out.trans (HG12.out.mono (by omega)))
        have hx12f := HX12.out.frozen
        have hx12l := HX12.out.lt
        have hx1 : w12.cell? ⟨wr.heap.size, 1, none⟩ = some (.slice s.A1 mj.procs.length s.c1) := (HX12.out.cell 1).trans rfl
        have hx2 : w12.cell? ⟨wr.heap.size, 2, none⟩ = some (.slice s.A2 mj.imports.length s.c2) := (HX12.out.cell 2).trans rfl
        have HSi := Lib.hid (src_ints8 (cap := s.c2) (HI.out.imports.later ((HB.out.trans (HB12.out.mono HB.out.size)).setCell (p := ⟨wr.heap.size, 1, none⟩) HB.out.size (.slice A12 mj.procs.length c12)) (Nat.le_refl _)) (fun e => List.eq_nil_of_length_eq_zero (each_none (e ▸ HI.out.imports)))))
     | (refine wpList_app etInts8 rfl _ _ rfl w12.heap.size (.slice none 0 0) 0 [] rfl (World.ownsRow_nil _ _ _ _) _ mj.imports.length (mj.imports.flatMap intCells8) rfl HSi.out (by omega) (by unfold maxLen; omega) (by simp) ?_
        intro v13 w13 hA13
        obtain ⟨A13, c13, hv13⟩ := own_slice' hA13.own
        subst hv13
        have ho13 := hA13.own
        simp only [Nat.zero_add, List.nil_append] at ho13
        have HO13 := Lib.hid ho13
        clear ho13
        have HG13 := Lib.hid (hA13.below (Below.refl w12.heap.size _) (by simp) (World.ownsRow_nil _ _ 3 1) (Nat.le_refl _))
        clear hA13
        have HX13 := Lib.hid (show Bx wr.heap.size _ _ w13 from (HG13.out.block _ hx12l).trans (HX12.out.set 1 (.slice A12 mj.procs.length c12)))
        have hx13f := HX13.out.frozen
        have hx13l := HX13.out.lt
        have hy0 : w13.cell? ⟨wr.heap.size, 0, none⟩ = some (.string ⟨mj.code.toArray⟩) := (HX13.out.cell 0).trans rfl
        have hy1 : w13.cell? ⟨wr.heap.size, 1, none⟩ = some (.slice A12 mj.procs.length c12) := (HX13.out.cell 1).trans rfl
        have hy2 : w13.cell? ⟨wr.heap.size, 2, none⟩ = some (.slice s.A2 mj.imports.length s.c2) := (HX13.out.cell 2).trans rfl
        have hy3 : w13.cell? ⟨wr.heap.size, 3, none⟩ = some (.int .i64 mj.data) := (HX13.out.cell 3).trans rfl
        have hy4 : w13.cell? ⟨wr.heap.size, 4, none⟩ = some (.slice s.A3 mj.init.length s.c3) := (HX13.out.cell 4).trans rfl
        have HB13 := Lib.hid (show Below wr.heap.size wr (w13.setCell ⟨wr.heap.size, 2, none⟩ (.slice A13 mj.imports.length c13)) from ((HB12.out.setCell (p := ⟨wr.heap.size, 1, none⟩) (Nat.le_refl _) (.slice A12 mj.procs.length c12)).trans (HG13.out.mono (by omega))).setCell (p := ⟨wr.heap.size, 2, none⟩) (Nat.le_refl _) (.slice A13 mj.imports.length c13))
        have HOI13 := Lib.hid (HOI.out.grow HB13.out)
        have HXE13 := Lib.hid (HX13.out.set 2 (.slice A13 mj.imports.length c13))
        have hz0 : (w13.setCell ⟨wr.heap.size, 2, none⟩ (.slice A13 mj.imports.length c13)).cell? ⟨Q, 0, none⟩ = some vq := (HOI13.out.box.cell 0).trans rfl
        have hz1 : (w13.setCell ⟨wr.heap.size, 2, none⟩ (.slice A13 mj.imports.length c13)).cell? ⟨Q, 1, none⟩ = some (.slice A9 o.length c9) := (HOI13.out.box.cell 1).trans rfl)
     | (refine wpList_app etMods8 rfl _ _ rfl (Q + 1) vq sm.length (sm.flatMap cells8) rfl (HOI13.out.own.alloc _) _ 1 (cells8 ((⟨A12, c12, A13, c13, s.A3, s.c3⟩ : MS), mj)) rfl (src_mod8 (w13.setCell ⟨wr.heap.size, 2, none⟩ (.slice A13 mj.imports.length c13)) w13.heap.size (setCell_size _ _ _) _ _ _ _ _) (by have := HSl.out; omega) (by have := HSl.out; unfold maxLen; omega) (by have := hx13l; simp; omega) ?_
        intro v14 w14 hA14
        obtain ⟨A14, c14, hv14⟩ := own_slice' hA14.own
        subst hv14
        have hne14 : some Q ≠ vq.ownBlock := fun e => by have := (own_lt HOI.out.own e.symm).1; omega
        have HQ14 := Lib.hid (show Bx Q #[vq, .slice A9 o.length c9] _ w14 from (hA14.grown.block Q (by simp; omega) hne14).trans (HOI13.out.box.grow (alloc_below _ _)))
        have HA14 := Lib.hid hA14
        clear hA14 hne14
        have hu0 : w14.cell? ⟨Q, 0, none⟩ = some vq := (HQ14.out.cell 0).trans rfl
        have huf := HQ14.out.frozen
        have hul := HQ14.out.lt))
    have HOIa := Lib.hid (HOI13.out.grow (alloc_below (w13.setCell ⟨wr.heap.size, 2, none⟩ (.slice A13 mj.imports.length c13)) (.cells #[.string ⟨mj.code.toArray⟩, .slice A12 mj.procs.length c12, .slice A13 mj.imports.length c13, .int .i64 mj.data, .slice s.A3 mj.init.length s.c3] 68)))
    have hvq : ∀ k, vq.ownBlock = some k → Q + 1 ≤ k ∧ k < wr.heap.size := fun k hk => own_lt HOI.out.own hk
    have HP12 := Lib.hid (K16.own_later (own_set (K16.own_later (own_set HO12.out (Nat.lt_succ_self _) 1 (.slice A12 mj.procs.length c12)) (by rw [setCell_size]; exact HG13.out)) (Nat.lt_succ_self _) 2 (.slice A13 mj.imports.length c13)) (alloc_below (w13.setCell ⟨wr.heap.size, 2, none⟩ (.slice A13 mj.imports.length c13)) (.cells #[.string ⟨mj.code.toArray⟩, .slice A12 mj.procs.length c12, .slice A13 mj.imports.length c13, .int .i64 mj.data, .slice s.A3 mj.init.length s.c3] 68)))
    have HP13 := Lib.hid (K16.own_later (own_set HO13.out hx12l 2 (.slice A13 mj.imports.length c13)) (alloc_below (w13.setCell ⟨wr.heap.size, 2, none⟩ (.slice A13 mj.imports.length c13)) (.cells #[.string ⟨mj.code.toArray⟩, .slice A12 mj.procs.length c12, .slice A13 mj.imports.length c13, .int .i64 mj.data, .slice s.A3 mj.init.length s.c3] 68)))
    have hBa : Below W.heap.size W ((w13.setCell ⟨wr.heap.size, 2, none⟩ (.slice A13 mj.imports.length c13)).alloc (.cells #[.string ⟨mj.code.toArray⟩, .slice A12 mj.procs.length c12, .slice A13 mj.imports.length c13, .int .i64 mj.data, .slice s.A3 mj.init.length s.c3] 68)) := HB.out.trans ((HB13.out.trans ((alloc_below (w13.setCell ⟨wr.heap.size, 2, none⟩ (.slice A13 mj.imports.length c13)) (.cells #[.string ⟨mj.code.toArray⟩, .slice A12 mj.procs.length c12, .slice A13 mj.imports.length c13, .int .i64 mj.data, .slice s.A3 mj.init.length s.c3] 68)).mono HB13.out.size)).mono hszW)
    have hMI : ModIn ((w13.setCell ⟨wr.heap.size, 2, none⟩ (.slice A13 mj.imports.length c13)).alloc (.cells #[.string ⟨mj.code.toArray⟩, .slice A12 mj.procs.length c12, .slice A13 mj.imports.length c13, .int .i64 mj.data, .slice s.A3 mj.init.length s.c3] 68)) ⟨A12, c12, A13, c13, s.A3, s.c3⟩ mj := ⟨own_procs8 HP12.out, own_ints8 HP13.out, HI.out.init.later hBa (Nat.le_refl _), HI.out.code_le, HI.out.procs_le, HI.out.imports_le, HI.out.init_le⟩
    have hoff : ∀ X : Option Nat, (∀ k, X = some k → W.heap.size ≤ k ∧ k < wr.heap.size) → OffM X ⟨A12, c12, A13, c13, s.A3, s.c3⟩ mj := fun X hX => ⟨off_own HO12.out X (fun k hk => by have := hX k hk; omega), off_own HO13.out X (fun k hk => by have := hX k hk; omega), off_old HI.out.init X (fun k hk => (hX k hk).1)⟩
    have HOE := Lib.hid (HOIa.out.app (p := (⟨A12, c12, A13, c13, s.A3, s.c3⟩, mj)) HA14.out ⟨hMI, hoff _ (fun k hk => by have := hvq k hk; omega), hoff _ (fun k hk => by cases hk; omega), hoff _ (fun k hk => by cases hk; omega), fun x hx => ⟨off_own HO12.out _ (fun k hk => by cases hk; have := hb0 x hx; omega), off_own HO13.out _ (fun k hk => by cases hk; have := hb0 x hx; omega), HIN.out x hx⟩⟩)
    have HBE := Lib.hid (show Below Q w10 (w14.setCell ⟨Q, 0, none⟩ (.slice A14 (sm.length + 1) c14)) from (HA14.out.below ((HBr.out.trans (HB13.out.mono (by omega))).alloc (by have := HB13.out.size; omega) _) (by simp; have := HB13.out.size; rw [setCell_size] at this; omega) (HOI13.out.own.alloc _) (Nat.le_succ _)).setCell (p := ⟨Q, 0, none⟩) (Nat.le_refl _) _)
    clear hMI hoff hBa hvq
    go_wp2_with fail
    go_roundg m
    case measure => omega
    case rel =>
     have hj := HJ.out
     exact ⟨j + 1, m, _, sm ++ [(⟨A12, c12, A13, c13, s.A3, s.c3⟩, mj)], rfl, by omega, Nat.le_refl _, by rw [List.map_append, HSM.out, HTN.out]; rfl, HBE.out, HOE.out⟩
end Go.Proofs.YtabenhpjgjjgnaaGreatDoor
/- A new memory of words. -/
namespace Go.Proofs.YtabenhpjgjjgnaaGreatDoor
open Go.RowKit
set_option maxRecDepth 100000
def eat : Nat → List Value → Option (List Value)
 | 0, .int .u16 (.ofNat 0) :: t => some t
 | 0, _ => none
 | k + 1, l => match eat k l with
   | some t => eat k t
   | none => none
theorem eat_sound : ∀ (k : Nat) (l t : List Value), eat k l = some t → l = List.replicate (2 ^ k) (.int .u16 0) ++ t
 | 0, l, t, h => by
   match l, h with
   | .int .u16 (.ofNat 0) :: t', h => have e : t' = t := Option.some.inj h; rw [e]; rfl
 | k + 1, l, t, h => by
   simp only [eat] at h
   cases h1 : eat k l with
   | none => rw [h1] at h; cases h
   | some t1 =>
     rw [h1] at h
     have e1 := eat_sound k l t1 h1
     have e2 := eat_sound k t1 t h
     rw [e1, e2, ← List.append_assoc, List.replicate_append_replicate, show 2 ^ k + 2 ^ k = 2 ^ (k + 1) by omega]
def eatAll : List Nat → List Value → Option (List Value)
 | [], l => some l
 | k :: ks, l => match eat k l with
   | some t => eatAll ks t
   | none => none
theorem eatAll_sound : ∀ (ks : List Nat) (l t : List Value), eatAll ks l = some t → l = List.replicate ((ks.map (2 ^ ·)).sum) (.int .u16 0) ++ t
 | [], l, t, h => by simp [eatAll] at h; simp [h]
 | k :: ks, l, t, h => by
   simp only [eatAll] at h
   cases h1 : eat k l with
   | none => rw [h1] at h; cases h
   | some t1 =>
     rw [h1] at h
     have e1 := eat_sound k l t1 h1
     have e2 := eatAll_sound ks t1 t h
     rw [e1, e2, ← List.append_assoc, List.replicate_append_replicate, List.map_cons, List.sum_cons]
def endB : Option (List Value) → Bool
 | some [.int .i64 (.ofNat 0), .bool false] => true
 | _ => false
theorem endB_sound {o : Option (List Value)} (h : endB o = true) : o = some [.int .i64 0, .bool false] := by
 unfold endB at h
 split at h
 ·rfl
 ·cases h
set_option maxHeartbeats 4000000 in
theorem memZero_eats : endB (eatAll [15, 14, 13, 12, 11, 10, 9, 8, 7, 6, 5, 4, 3, 2, 1, 0] Tryz.zeroCells121.toList) = true := by kernel_rfl
theorem memZero_eq : Tryz.zeroCells121.toList = List.replicate 65535 (.int .u16 0) ++ [.int .i64 0, .bool false] := eatAll_sound _ _ _ (endB_sound memZero_eats)
theorem memZero_size : Tryz.zeroCells121.size = 65537 := by rw [← Array.length_toList, memZero_eq, List.length_append, List.length_replicate]; rfl
theorem memAt_new (n : Nat) (hn : n ≤ 65535) (w : World) : MemAt w.heap.size n (fun _ => 0) (w.alloc (.cells ((Tryz.zeroCells121.setIfInBounds 65535 (.int .i64 n)).setIfInBounds 65536 (.bool true)) 121)) := by
 have hx := Bx.new w ((Tryz.zeroCells121.setIfInBounds 65535 (.int .i64 n)).setIfInBounds 65536 (.bool true)) 121
 have hs := memZero_size
 have he := memZero_eq
 generalize Tryz.zeroCells121 = Z at *
 refine ⟨⟨_, hx, by simp [hs]⟩, fun i hi => ?_, fun _ => by decide, ?_, ?_, hn⟩
 ·rw [hx.cell, Array.getElem?_setIfInBounds_ne (by omega), Array.getElem?_setIfInBounds_ne (by omega), ← Array.getElem?_toList, he, List.getElem?_append_left (by rw [List.length_replicate]; exact hi), List.getElem?_replicate, if_pos hi]
  rfl
 ·rw [hx.cell, Array.getElem?_setIfInBounds_ne (by omega), Array.getElem?_setIfInBounds_self_of_lt (by omega)]
 ·rw [hx.cell, Array.getElem?_setIfInBounds_self_of_lt (by simp; omega)]
def MemEnd (n : Nat) (w : World) (e : Ending) (w' : World) : Prop := e = .returned (.tuple #[.pointer (some ⟨w.heap.size, 0, none⟩), .int .i64 0]) ∧ MemAt w.heap.size n (fun _ => 0) w' ∧ Below w.heap.size w w'
theorem memNew_any (n : Nat) (hn : n ≤ 65535) (w : World) : Calls Tryz.prog 27 #[.int .i64 n] w (MemEnd n w) := by
 have hnI : (n : Int) ≤ 65535 := by omega
 have HM := Lib.hid (memAt_new n hn w)
 have HB := Lib.hid (alloc_below w (.cells ((Tryz.zeroCells121.setIfInBounds 65535 (.int .i64 n)).setIfInBounds 65536 (.bool true)) 121))
 go_enter Tryz.func27, Tryz.ntmps27
 go_wp2_with fail
 go_ret2
 exact ⟨rfl, HM.out, HB.out⟩
def TermEnd (i : List UInt8) (most : Int) (w : World) (e : Ending) (w' : World) : Prop := e = .returned (.tuple #[.pointer (some ⟨w.heap.size, 0, none⟩), .int .i64 0]) ∧ Bx w.heap.size #[.string ⟨i.toArray⟩, .string ⟨#[]⟩, .int .i64 most, .complex .f64 0 0, .bool true] 118 w' ∧ Below w.heap.size w w'
theorem termNew_any (i : List UInt8) (hi : i.length ≤ 16384) (most : Int) (h0 : 0 ≤ most) (h1 : most ≤ 16384) (w : World) : Calls Tryz.prog 26 #[.string ⟨i.toArray⟩, .int .i64 most] w (TermEnd i most w) := by
 have hI : (i.length : Int) ≤ 16384 := by omega
 go_enter Tryz.func26, Tryz.ntmps26
 go_wp2_with fail
 go_ret2
 exact ⟨rfl, Bx.new w _ _, alloc_below w _⟩
end Go.Proofs.YtabenhpjgjjgnaaGreatDoor
/- mach. -/
namespace Go.Proofs.YtabenhpjgjjgnaaGreatDoor
open Go.RowKit
set_option maxRecDepth 100000
theorem within_any (n lo hi : Int) (w : World) : Calls Tryz.prog 53 #[.int .i64 n, .int .i64 lo, .int .i64 hi] w fun e w' => e = .returned (.bool (withinB n lo hi)) ∧ w = w' := by
 by_cases h : lo ≤ n
 ·have h1 : decide (lo ≤ n) = true := by simpa using h
  go_enter Tryz.func53, Tryz.ntmps53
  go_wp2_with fail
  go_ret
  exact ⟨by unfold withinB; rw [h1]; rfl, rfl⟩
 ·have h1 : decide (lo ≤ n) = false := by simpa using h
  go_enter Tryz.func53, Tryz.ntmps53
  go_wp2_with fail
  go_ret
  exact ⟨by unfold withinB; rw [h1]; rfl, rfl⟩
set_option maxHeartbeats 1000000 in
theorem may_any (p : ProcL) (s : MS) (m : ModL) (_hm : m.code.length ≤ 140737488355328) (w : World) : Calls Tryz.prog 121 #[procV p, modV s m] w (BoolEnd w (mayB p m.code.length)) := by
 have HB := Lib.hid (((Below.refl w.heap.size w).alloc (Nat.le_refl _) (.cells #[.int .i64 p.at_, .int .i64 p.params, .int .i64 p.locals, .int .i64 p.depth, .int .i64 p.level, .bool p.fn] 113)).alloc (by simp) (.cells #[.string ⟨m.code.toArray⟩, .slice s.A1 m.procs.length s.c1, .slice s.A2 m.imports.length s.c2, .int .i64 m.data, .slice s.A3 m.init.length s.c3] 68))
 obtain ⟨pa, pp, pl, pd, pv, pf⟩ := p
 unfold procV modV mayB
 simp only at HB ⊢
 cases h1 : withinB pp 0 65535
 ·go_enter Tryz.func121, Tryz.ntmps121
  go_wp2_with (first | (go_at_call 53; refine (within_any _ _ _ _).mono ?_; rintro e w' ⟨rfl, rfl⟩))
  go_ret
  exact ⟨rfl, HB.out⟩
 cases h2 : withinB pl 0 65535
 ·go_enter Tryz.func121, Tryz.ntmps121
  go_wp2_with (first | (go_at_call 53; refine (within_any _ _ _ _).mono ?_; rintro e w' ⟨rfl, rfl⟩))
  go_ret
  exact ⟨rfl, HB.out⟩
 cases h3 : withinB pd 0 65535
 ·go_enter Tryz.func121, Tryz.ntmps121
  go_wp2_with (first | (go_at_call 53; refine (within_any _ _ _ _).mono ?_; rintro e w' ⟨rfl, rfl⟩))
  go_ret
  exact ⟨rfl, HB.out⟩
 cases h4 : withinB pa 0 m.code.length
 ·go_enter Tryz.func121, Tryz.ntmps121
  go_wp2_with (first | (go_at_call 53; refine (within_any _ _ _ _).mono ?_; rintro e w' ⟨rfl, rfl⟩))
  go_ret
  exact ⟨rfl, HB.out⟩
 cases h5 : withinB pv 1 16
 ·go_enter Tryz.func121, Tryz.ntmps121
  go_wp2_with (first | (go_at_call 53; refine (within_any _ _ _ _).mono ?_; rintro e w' ⟨rfl, rfl⟩))
  go_ret
  exact ⟨rfl, HB.out⟩
 ·go_enter Tryz.func121, Tryz.ntmps121
  go_wp2_with (first | (go_at_call 53; refine (within_any _ _ _ _).mono ?_; rintro e w' ⟨rfl, rfl⟩))
  go_ret
  exact ⟨rfl, HB.out⟩
end Go.Proofs.YtabenhpjgjjgnaaGreatDoor
