/- Small laws of the model that the walks of this seat use. A region that draws its order, whose operations read old memory and whose callee. Appending onto memory of the call's own, whatever the source. Bytes in memory of the call's own. Plain. Modules and images as they lie in memory. A world, but for some of its blocks. A map of the call's own that counts what was seen. Condition: what lies in memory can lie there; what each theorem says. -/
import Derived.Test.YtabenhpjgjjgnaaGreatDoorRows
import Derived.WalkKit
import Derived.WalkSpells
import Derived.WalkLawsBesides
import Derived.Deep.QuietTactic
import Derived.BigQuiet
import Derived.Deep.AppendSrc
import Derived.Deep.AppendLies
import Derived.Maps.AppendAt
import Derived.Lib.Hide
import Derived.Laws.BytesArg
import Derived.Maps.OwnOps
/- Small laws of the model that the walks of this seat use. -/
namespace Go.Proofs.YtabenhpjgjjgnaaGreatDoor
open Go.RowKit
def bytesOf1 (F : Result Value) (w : World) : Option Value → Result Value
 | some (.int .u8 v) => .ok (.string ⟨#[UInt8.ofNat v.toNat]⟩) w
 | _ => F
@[go_sem] theorem bytesOf1_some (F : Result Value) (w : World) (v : Int) : bytesOf1 F w (some (.int .u8 v)) = .ok (.string ⟨#[UInt8.ofNat v.toNat]⟩) w := rfl
def bytesOf2 (F : Result Value) (w : World) : Option Value → Option Value → Result Value
 | some (.int .u8 u), some (.int .u8 v) => .ok (.string ⟨#[UInt8.ofNat u.toNat, UInt8.ofNat v.toNat]⟩) w
 | _, _ => F
@[go_sem] theorem bytesOf2_some (F : Result Value) (w : World) (u v : Int) : bytesOf2 F w (some (.int .u8 u)) (some (.int .u8 v)) = .ok (.string ⟨#[UInt8.ofNat u.toNat, UInt8.ofNat v.toNat]⟩) w := rfl
@[go_sem] theorem conv1 (w : World) (b o c : Nat) : (convert 61 9 (.slice (some ⟨b, o, none⟩) 1 c)).run Tryz.prog w =
 bytesOf1 ((Conv.bytesToString (.slice (some ⟨b, o, none⟩) 1 c)).run Tryz.prog w) w (w.cell? ⟨b, o, none⟩) := by
 rw [run_convert_bytes_string w 61 9 5 _ 1 c Tryz.underlying61 Tryz.underlying5 Tryz.underlying9]
 unfold bytesOf1
 split
 ·rename_i v h
  rw [run_bytesToString w _ 1 c [v] (run_loadCells_list w _ [.int .u8 v] (fun j u hj => by
   rcases j with _ | j
   ·simp at hj; subst hj; simpa [Addr.add] using h
   ·simp at hj))]
  rfl
 ·rfl
@[go_sem] theorem conv2 (w : World) (b o c : Nat) : (convert 61 9 (.slice (some ⟨b, o, none⟩) 2 c)).run Tryz.prog w =
 bytesOf2 ((Conv.bytesToString (.slice (some ⟨b, o, none⟩) 2 c)).run Tryz.prog w) w (w.cell? ⟨b, o, none⟩) (w.cell? ⟨b, o + 1, none⟩) := by
 rw [run_convert_bytes_string w 61 9 5 _ 2 c Tryz.underlying61 Tryz.underlying5 Tryz.underlying9]
 unfold bytesOf2
 split
 ·rename_i u v h1 h2
  rw [run_bytesToString w _ 2 c [u, v] (run_loadCells_list w _ [.int .u8 u, .int .u8 v] (fun j x hj => by
   rcases j with _ | _ | j
   ·simp at hj; subst hj; simpa [Addr.add] using h1
   ·simp at hj; subst hj; simpa [Addr.add] using h2
   ·simp at hj))]
  rfl
 ·rfl
theorem box_cell {w w' : World} {cs : Array Value} {t : TypeId} (hb : Below (w.alloc (.cells cs t)).heap.size (w.alloc (.cells cs t)) w') (i : Nat) : w'.cell? ⟨w.heap.size, i, none⟩ = cs[i]? := by
 rw [hb.cell (p := ⟨w.heap.size, i, none⟩) (by simp)]
 unfold World.cell?
 rw [heap_alloc_new]
 simp
theorem box_below {w w' : World} {o : Obj} (hb : Below (w.alloc o).heap.size (w.alloc o) w') : Below w.heap.size w w' ∧ w.heap.size < w'.heap.size :=
 ⟨((Below.refl _ _).alloc (Nat.le_refl _) o).trans (hb.mono (by simp)), by have := hb.size; simp at this; omega⟩
theorem box2 {w w' : World} {a b : Value} {t : TypeId} (hb : Below (w.alloc (.cells #[a, b] t)).heap.size (w.alloc (.cells #[a, b] t)) w') :
 w'.cell? ⟨w.heap.size, 0, none⟩ = some a ∧ w'.cell? ⟨w.heap.size, 1, none⟩ = some b ∧ Below w.heap.size w w' ∧ w.heap.size < w'.heap.size :=
 ⟨by rw [box_cell hb]; rfl, by rw [box_cell hb]; rfl, (box_below hb).1, (box_below hb).2⟩
@[go_sem] theorem bytes_app (a b : List UInt8) : (⟨a.toArray⟩ : ByteArray) ++ ⟨b.toArray⟩ = ⟨(a ++ b).toArray⟩ := by
 apply ByteArray.ext
 simp [ByteArray.data_append]
theorem below_drawn {B : Nat} {a w : World} (h : Below B a w) (n : Nat) : Below B a (w.drewN n) := ⟨h.os, h.tape, h.output, h.size, h.block⟩
theorem ret1 {a a' : Value} (h : a = a') : Ending.returned a = .returned a' := by rw [h]
theorem vint {k : IntKind} {p q : Int} (h : p = q) : Value.int k p = .int k q := by rw [h]
end Go.Proofs.YtabenhpjgjjgnaaGreatDoor
/- A region that draws its order, whose operations read old memory and whose callee. -/
namespace Go.Proofs.YtabenhpjgjjgnaaGreatDoor
open Go.RowKit
structure Gr where
 obs : Array Obj
 count : Nat
instance : Nonempty Gr := ⟨⟨#[], 0⟩⟩
def growN (w : World) (x : Gr) : World := { w with heap := w.heap ++ x.obs, drawn := x.count }
theorem growN_block (w : World) (x : Gr) (b : Nat) (h : b < w.heap.size) : (growN w x).heap[b]? = w.heap[b]? := by
 unfold growN; simp [Array.getElem?_append, h]
@[go_sem] theorem growN_cell (w : World) (x : Gr) (b o : Nat) (h : b < w.heap.size) : (growN w x).cell? ⟨b, o, none⟩ = w.cell? ⟨b, o, none⟩ :=
 World.cell?_of_block (w := w) (growN_block w x b h)
theorem growN_below (w : World) (x : Gr) : Below w.heap.size w (growN w x) :=
 ⟨rfl, rfl, rfl, by unfold growN; simp, fun k hk => growN_block w x k hk⟩
theorem growN_of_below {w w' : World} (h : Below w.heap.size w w') : ∃ x, w' = growN w x := by
 refine ⟨⟨w'.heap.extract w.heap.size w'.heap.size, w'.drawn⟩, ?_⟩
 have hh : w'.heap = w.heap ++ w'.heap.extract w.heap.size w'.heap.size := by
  apply Array.ext_getElem?
  intro i
  rw [Array.getElem?_append]
  split
  ·rename_i hi; exact h.block i hi
  ·rename_i hi
   have hs := h.size
   rw [Array.getElem?_extract]
   split
   ·congr 1; omega
   ·rw [Array.getElem?_eq_none]; omega
 have h1 := h.os
 have h2 := h.tape
 have h3 := h.output
 cases w'; cases w
 simp only [growN] at *
 simp only [World.mk.injEq]
 exact ⟨hh, h2, trivial, h1, h3⟩
theorem wp_region_grow {P : Program} {id : Nat} {Q : Exit → Act → World → Prop} {a : Act} {w : World} {l : List Oper} (hm : P.follows .mixedOrders = true) (hB : Region.lexB .any l.toArray = true)
 (h : wpQuiet P l.toArray (fun w' => ∃ x, w' = growN w x) (fun a' => ∀ w', (∃ x, w' = growN w x) → Q .normal a' w') l a) : (Code.region id l.toArray true).wp P Q a w :=
 wp_region_quiet (C := fun w' => ∃ x, w' = growN w x) hm hB (growN_of_below (by exact ⟨rfl, rfl, rfl, Nat.le_refl _, fun _ _ => rfl⟩)) (by simpa using h)
theorem quiet_grow {P : Program} {f : FuncId} {args : Array Value} {w : World} {x : Gr} {v : Value}
 (h : Calls P f args (growN w x) fun e w' => e = .returned v ∧ Below (growN w x).heap.size (growN w x) w') : Calls P f args (growN w x) fun e w'' => e = .returned v ∧ ∃ y, w'' = growN w y :=
 h.mono fun _ _ ⟨he, hb⟩ => ⟨he, growN_of_below ((growN_below w x).trans (hb.mono (growN_below w x).size))⟩
end Go.Proofs.YtabenhpjgjjgnaaGreatDoor
/- Appending onto memory of the call's own, whatever the source. -/
namespace Go.Proofs.YtabenhpjgjjgnaaGreatDoor
open Go.RowKit
structure ET (P : Program) (t e : TypeId) (size bytes : Nat) : Prop where
 und : P.underlying t = some (.slice e)
 info : ∃ i z, P.info? e = some i ∧ i.zero = some z ∧ i.size = size ∧ i.bytes = bytes ∧ z.cells.size = size
 pos : 0 < size
theorem et_of {P : Program} {t e : TypeId} {z : Value} {size bytes : Nat} (hu : P.underlying t = some (.slice e)) (hi : (P.info? e).map (fun i => (i.zero, i.size, i.bytes)) = some (some z, size, bytes)) (hz : z.cells.size = size) (hp : 0 < size) : ET P t e size bytes := by
 obtain ⟨i, h0, h1, h2, h3⟩ := info_parts hi
 exact ⟨hu, ⟨i, z, h0, h1, h2, h3, hz⟩, hp⟩
structure App (w w' : World) (base : Nat) (e : TypeId) (size : Nat) (v v' : Value) (n : Nat) (zs : List Value) : Prop where
 own : w'.ownsRow base e size v' n zs
 grown : w.grownBy w' v.ownBlock
 place : v'.ownBlock = v.ownBlock ∨ v'.ownBlock = some w.heap.size
theorem App.below {B : Nat} {w0 w w' : World} {base : Nat} {e : TypeId} {size : Nat} {v v' : Value} {n : Nat} {zs : List Value} (h : App w w' base e size v v' n zs) (h0 : Below B w0 w) (hB : B ≤ w.heap.size) {m : Nat} {xs : List Value} (hown : w.ownsRow base e size v m xs) (hb : B ≤ base) : Below B w0 w' :=
 h0.grown h.grown hB (fun k hk => Nat.le_trans hb (hown.lt k hk).1)
theorem src_new {P : Program} {t e : TypeId} {size bytes : Nat} (E : ET P t e size bytes) (w : World) (cs : Array Value) (T : TypeId) (m c : Nat) (hl : cs.size = m * size) (h1 : ∀ u ∈ cs.toList, u.oneCell' = true) : Src P size t (.slice (some ⟨w.heap.size, 0, none⟩) m c) m cs.toList (w.alloc (.cells cs T)) :=
 Src.ofSlice _ E.und _ m c cs.toList (by simpa using hl) (World.news_of_block (heap_alloc_new w _)) h1
theorem setCells_block (g : Nat) {t : TypeId} {fr : Nat × Nat} : ∀ (vs : List Value) (o : Nat) (w : World) (cur : Array Value), w.heap[g]? = some (.cells cur t fr) → o + vs.length ≤ cur.size →
 ∃ cur', (w.setCells g o vs).heap[g]? = some (.cells cur' t fr) ∧ cur'.size = cur.size ∧ cur'.toList.take (o + vs.length) = cur.toList.take o ++ vs
 | [], o, w, cur, h, _ => ⟨cur, h, rfl, by simp⟩
 | v :: vs, o, w, cur, h, hl => by
   simp only [List.length_cons] at hl
   have h1 : (w.setCell ⟨g, o, none⟩ v).heap[g]? = some (.cells (cur.setIfInBounds o v) t fr) := by
    simp [World.setCell, Array.getElem?_modify, h]
   obtain ⟨cur', h2, h3, h4⟩ := setCells_block g vs (o + 1) (w.setCell ⟨g, o, none⟩ v) (cur.setIfInBounds o v) h1 (by simp; omega)
   refine ⟨cur', h2, by simpa using h3, ?_⟩
   have e1 : o + (v :: vs).length = o + 1 + vs.length := by simp; omega
   rw [e1, h4]
   have ho : o < cur.toList.length := by simp; omega
   have e2 : (cur.setIfInBounds o v).toList.take (o + 1) = cur.toList.take o ++ [v] := by
    rw [Array.toList_setIfInBounds, List.take_set, List.take_succ_eq_append_getElem ho, List.set_append_right _ _ (by simp; omega)]
    simp [Nat.min_eq_left (Nat.le_of_lt (by simpa using ho) : o ≤ cur.size)]
   rw [e2]; simp
theorem setCells_kept (g : Nat) : ∀ (vs : List Value) (o : Nat) (w : World), (w.setCells g o vs).os = w.os ∧ (w.setCells g o vs).tape = w.tape ∧ (w.setCells g o vs).output = w.output ∧ (w.setCells g o vs).heap.size = w.heap.size ∧ ∀ k, k ≠ g → (w.setCells g o vs).heap[k]? = w.heap[k]?
 | [], _, _ => ⟨rfl, rfl, rfl, rfl, fun _ _ => rfl⟩
 | v :: vs, o, w => by
   obtain ⟨h1, h2, h3, h4, h5⟩ := setCells_kept g vs (o + 1) (w.setCell ⟨g, o, none⟩ v)
   exact ⟨h1, h2, h3, h4.trans (by simp), fun k hk => (h5 k hk).trans (Below.heap_setCell _ _ _ _ hk)⟩
section
variable {P : Program} {t tx e : TypeId} {size bytes : Nat}
theorem run_app (E : ET P t e size bytes) (w : World) (ty : TypeId) (base : Nat) (v : Value) (n : Nat) (xs : List Value) (hown : w.ownsRow base e size v n xs) (x : Value) (m : Nat) (news : List Value) (hs : Src P size tx x m news w)
 (hbytes : (n + m) * bytes ≤ 140737488355328) (h63 : n + m ≤ maxLen) (hbase : base ≤ w.heap.size) :
 ∃ v' w', (Builtin.append_ #[t, tx] ty #[v, x]).run P w = .ok v' w' ∧ App w w' base e size v v' (n + m) (xs ++ news) := by
 obtain ⟨ht, ⟨i, z, hi, hz, rfl, rfl, hzs⟩, hsz⟩ := E
 have hl := hs.newsLen
 have hsmall : n + m ≤ 9223372036854775807 := by simp only [maxLen] at h63; omega
 have hlen : (xs ++ news).length = (n + m) * i.size := by rw [List.length_append, hown.1, hl, Nat.add_mul]
 have grown : ∀ (old : Nat), old < n + m → ∀ (row : Option Nat),
  (w.drew.alloc (.cells ((xs ++ news).toArray ++ Builtin.zeroCells z.cells (grownCap w (n + m) old e - (n + m))) e)).ownsRow base e i.size
   (.slice (some ⟨w.heap.size, 0, none⟩) (n + m) (grownCap w (n + m) old e)) (n + m) (xs ++ news) ∧
  w.grownBy (w.drew.alloc (.cells ((xs ++ news).toArray ++ Builtin.zeroCells z.cells (grownCap w (n + m) old e - (n + m))) e)) row := by
  intro old ho row
  have hge := grownCap_ge w (n + m) old e
  have hcm : grownCap w (n + m) old e ≤ maxLen := grownCap_le_maxLen w (n + m) old e h63
  refine ⟨⟨hlen, .inr ⟨w.heap.size, _, _, rfl, hbase, heap_alloc_new w.drew _, hge, hcm, ?_, ?_⟩⟩, ⟨rfl, rfl, rfl, by simp, fun k hk _ => Below.heap_alloc w.drew _ k hk⟩⟩
  ·simp only [Array.size_append, List.size_toArray, size_zeroCells, hzs, hlen, ← Nat.add_mul]
   congr 1
   omega
  ·simp only [Array.toList_append]
   rw [← hlen]
   exact List.take_left
 rcases hown.2 with ⟨rfl, rfl⟩ | ⟨g, cap, cur, rfl, hbg, hg, hnc, hcm, hcs, htake⟩
 ·have hx : xs = [] := List.eq_nil_of_length_eq_zero (by simpa using hown.1)
  subst hx
  by_cases hm : m = 0
  ·subst hm
   have hn : news = [] := List.eq_nil_of_length_eq_zero (by simpa using hl)
   subst hn
   refine ⟨.slice none 0 0, w, ?_, World.ownsRow_nil w base e i.size, ⟨rfl, rfl, rfl, Nat.le_refl _, fun _ _ _ => rfl⟩, Or.inl rfl⟩
   rcases hs.kind with ⟨e', hk⟩ | hk <;> simp [Builtin.append_, run_underlying ht, run_underlying hk, sizeOf, typeInfo, hi, hs.len, hs.cells]
  ·have hr := run_append_grow_src (P := P) w t tx ty e i z ht hi hz none 0 0 [] (by simp [Builtin.firstCells]) x m news hs (by omega) (by omega) (by
    rw [nextslicecap_zero (by omega)]; omega)
   have hgr := grown 0 (by omega) (Value.ownBlock (.slice none 0 0))
   exact ⟨_, _, hr, hgr.1, hgr.2, Or.inr rfl⟩
 ·by_cases hroom : n + m ≤ cap
  ·have hfit : n * i.size + news.length ≤ cur.size := by rw [hl, hcs, ← Nat.add_mul]; exact Nat.mul_le_mul_right _ hroom
   have hr := run_append_room_src (P := P) w t tx ty e i ht hi g 0 n cap x m news hs hroom
    (fun j hj => by
     rw [cell_of_row w g _ cur e (0, 0) hg, Array.getElem?_eq_getElem (by omega)]; rfl)
    (fun j hj => by
     unfold World.frozen?; rw [hg]; simp)
   simp only [Nat.zero_add] at hr
   obtain ⟨cur', h1, h2, h3⟩ := setCells_block g news (n * i.size) w cur hg hfit
   refine ⟨_, _, hr, ⟨hlen, .inr ⟨g, cap, cur', rfl, hbg, h1, hroom, hcm, by rw [h2, hcs], ?_⟩⟩, ?_, Or.inl rfl⟩
   ·have e1 : (n + m) * i.size = n * i.size + news.length := by rw [hl, Nat.add_mul]
    rw [e1, h3, htake]
   ·have hk := setCells_kept g news (n * i.size) w
    exact ⟨hk.1, hk.2.1, hk.2.2.1, by rw [hk.2.2.2.1]; exact Nat.le_refl _, fun k _ hne => hk.2.2.2.2 k (fun e => hne (by simp [Value.ownBlock, e]))⟩
  ·have holds : ∀ j u, xs[j]? = some u → w.cell? ((⟨g, 0, none⟩ : Addr).add j) = some u := hown.cells (g := g) rfl
   have hr := run_append_grow_src (P := P) w t tx ty e i z ht hi hz (some ⟨g, 0, none⟩) n cap xs (run_firstCells_some w.drew i.size n ⟨g, 0, none⟩ n cap xs hown.1 (by simpa using holds)) x m news hs (by omega) (by omega) (growslice_fits (by omega) hbytes)
   have hgr := grown cap (by omega) (Value.ownBlock (.slice (some ⟨g, 0, none⟩) n cap))
   exact ⟨_, _, hr, hgr.1, hgr.2, Or.inr rfl⟩
theorem wp_app (E : ET P t e size bytes) {o : Oper} {a : Act} {w : World} {K : Act → World → Prop} {Q : Exit → Act → World → Prop} (s xo : Operand) (ho : o.op = .call { callee := .builtin .append, args := #[s, xo], argTypes := #[t, tx] })
 (base : Nat) (v : Value) (n : Nat) (xs : List Value) (hsv : a.eval s = v) (hown : w.ownsRow base e size v n xs) (x : Value) (m : Nat) (news : List Value) (hxv : a.eval xo = x) (hs : Src P size tx x m news w)
 (hbytes : (n + m) * bytes ≤ 140737488355328) (h63 : n + m ≤ maxLen) (hbase : base ≤ w.heap.size)
 (h : ∀ v' w', App w w' base e size v v' (n + m) (xs ++ news) → K (a.put o.dst v') w') : o.wp P a w K Q := by
 obtain ⟨v', w', hr, hA⟩ := run_app E w o.type base v n xs hown x m news hs hbytes h63 hbase
 unfold Oper.wp execOp
 simp only [ho, resolve, invoke, builtin, Sem.run_bind, Sem.run_pure, Result.andThen_ok, List.map_toArray, List.map_cons, List.map_nil, hsv, hxv, hr]
 exact h v' w' hA
theorem wpList_app (E : ET P t e size bytes) {ops : Array Oper} {rest : List Oper} {o : Oper} {a : Act} {w : World} {Q : Exit → Act → World → Prop} (hgd : o.guard = none) (s xo : Operand) (ho : o.op = .call { callee := .builtin .append, args := #[s, xo], argTypes := #[t, tx] })
 (base : Nat) (v : Value) (n : Nat) (xs : List Value) (hsv : a.eval s = v) (hown : w.ownsRow base e size v n xs) (x : Value) (m : Nat) (news : List Value) (hxv : a.eval xo = x) (hs : Src P size tx x m news w)
 (hbytes : (n + m) * bytes ≤ 140737488355328) (h63 : n + m ≤ maxLen) (hbase : base ≤ w.heap.size)
 (h : ∀ v' w', App w w' base e size v v' (n + m) (xs ++ news) → wpList P ops Q rest (a.put o.dst v') w') : wpList P ops Q (o :: rest) a w :=
 wpList_plain hgd fun _ hK => wp_app E s xo ho base v n xs hsv hown x m news hxv hs hbytes h63 hbase fun v' w' hA => hK _ _ (h v' w' hA)
theorem step_app (E : ET P t e size bytes) {ops : Array Oper} {o : Oper} {a : Act} {w : World} {K : Act → World → Prop} {Q : Exit → Act → World → Prop} {F : Prop} (hgd : o.guard = none) (s xo : Operand) (ho : o.op = .call { callee := .builtin .append, args := #[s, xo], argTypes := #[t, tx] })
 (base : Nat) (v : Value) (n : Nat) (xs : List Value) (hsv : a.eval s = v) (hown : w.ownsRow base e size v n xs) (x : Value) (m : Nat) (news : List Value) (hxv : a.eval xo = x) (hs : Src P size tx x m news w)
 (hbytes : (n + m) * bytes ≤ 140737488355328) (h63 : n + m ≤ maxLen) (hbase : base ≤ w.heap.size)
 (h : ∀ v' w', App w w' base e size v v' (n + m) (xs ++ news) → K (a.put o.dst v') w') : if Region.wanted o (yielded ops a.tmps) = true then Oper.wp P o a w K Q else F := by
 have hw : Region.wanted o (yielded ops a.tmps) = true := by simp [Region.wanted, hgd]
 rw [if_pos hw]
 exact wp_app E s xo ho base v n xs hsv hown x m news hxv hs hbytes h63 hbase h
end
theorem own_slice' {w : World} {B : Nat} {e : TypeId} {size : Nat} {v : Value} {n : Nat} {xs : List Value} (h : w.ownsRow B e size v n xs) : ∃ A c, v = .slice A n c := by
 rcases h.2 with ⟨rfl, rfl⟩ | ⟨g, cap, cur, rfl, _⟩
 ·exact ⟨_, _, rfl⟩
 ·exact ⟨_, _, rfl⟩
end Go.Proofs.YtabenhpjgjjgnaaGreatDoor
/- Bytes in memory of the call's own. -/
namespace Go.Proofs.YtabenhpjgjjgnaaGreatDoor
open Go.RowKit
def byteVals (l : List UInt8) : Array Value := (l.map fun b => Value.int .u8 (b.toNat : Int)).toArray
theorem byteVals_length (l : List UInt8) : (byteVals l).toList.length = l.length := by simp [byteVals]
theorem byteVals_one (l : List UInt8) : ∀ u ∈ (byteVals l).toList, u.oneCell' = true := by
 intro u hu
 simp [byteVals] at hu
 obtain ⟨b, _, rfl⟩ := hu
 rfl
theorem byteVals_append (a b : List UInt8) : (byteVals (a ++ b)).toList = (byteVals a).toList ++ (byteVals b).toList := by simp [byteVals]
theorem byteVals_size (l : List UInt8) : (byteVals l).size = l.length * 1 := by simp [byteVals]
theorem byte_info : (Tryz.prog.info? 5).map (fun i => (i.zero, i.size, i.bytes)) = some (some (.int .u8 0), 1, 1) := by kernel_rfl
theorem etBytes : ET Tryz.prog 61 5 1 1 := et_of Tryz.underlying61 byte_info rfl (by omega)
theorem ofNat_int (z : Int) (h0 : 0 ≤ z) (h1 : z < 256) : ((UInt8.ofNat z.toNat).toNat : Int) = z := by
 rw [show (UInt8.ofNat z.toNat).toNat = z.toNat % 256 from UInt8.toNat_ofNat]; omega
theorem drew_below (w : World) : Below w.heap.size w w.drew := ⟨rfl, rfl, rfl, Nat.le_refl _, fun _ _ => rfl⟩
theorem own_lower {w : World} {B B' : Nat} {e : TypeId} {size : Nat} {v : Value} {n : Nat} {xs : List Value} (h : w.ownsRow B e size v n xs) (hb : B' ≤ B) : w.ownsRow B' e size v n xs := by
 refine ⟨h.1, ?_⟩
 rcases h.2 with hn | ⟨g, cap, cur, rfl, hB, rest⟩
 ·exact .inl hn
 ·exact .inr ⟨g, cap, cur, rfl, Nat.le_trans hb hB, rest⟩
theorem src_own {P : Program} {t e : TypeId} {size bytes : Nat} (E : ET P t e size bytes) {w : World} {B : Nat} {v : Value} {n : Nat} {xs : List Value} (h : w.ownsRow B e size v n xs) (h1 : ∀ u ∈ xs, u.oneCell' = true) : Src P size t v n xs w := by
 have h' := h
 rcases h.2 with ⟨rfl, rfl⟩ | ⟨g, cap, cur, rfl, _⟩
 ·have hx : xs = [] := List.eq_nil_of_length_eq_zero (by simpa using h.1)
  subst hx
  exact Src.ofNil w E.und 0
 ·exact Src.ofSlice w E.und _ n cap xs h.1 (h'.cells rfl) h1
theorem conv_own {w : World} {B : Nat} {v : Value} {l : List UInt8} {n : Nat} (h : w.ownsRow B 5 1 v n (byteVals l).toList) : (convert 61 9 v).run Tryz.prog w = .ok (.string ⟨l.toArray⟩) w := by
 have h' := h
 rcases h.2 with ⟨rfl, rfl⟩ | ⟨g, cap, cur, rfl, _⟩
 ·have hx : l = [] := by
   have := h.1
   rw [byteVals_length] at this
   exact List.eq_nil_of_length_eq_zero (by simpa using this)
  subst hx
  exact run_convert_bytes_nil (P := Tryz.prog) w 61 5 Tryz.underlying61 Tryz.underlying5 0 0 9 Tryz.underlying9
 ·have hn : n = l.length := by
   have := h.1
   rw [byteVals_length] at this
   omega
  subst hn
  rw [run_convert_bytes_string w 61 9 5 _ _ cap Tryz.underlying61 Tryz.underlying5 Tryz.underlying9]
  have hl := run_loadCells_list (P := Tryz.prog) w ⟨g, 0, none⟩ (byteVals l).toList (h'.cells rfl)
  rw [byteVals_length] at hl
  rw [run_bytesToString w ⟨g, 0, none⟩ l.length cap (l.map fun b => (b.toNat : Int)) (by rw [hl]; simp [byteVals])]
  congr 2
  have : ∀ (m : List UInt8) (r : ByteArray), (m.map fun b => (b.toNat : Int)).foldl (fun r (n : Int) => r.push (UInt8.ofNat n.toNat)) r = ⟨(r.data.toList ++ m).toArray⟩ := by
   intro m
   induction m with
   | nil => intro r; apply ByteArray.ext; simp
   | cons b m ih =>
     intro r
     simp only [List.map_cons, List.foldl_cons]
     rw [ih]
     apply ByteArray.ext
     simp [ByteArray.push]
  rw [this]
  simp [ByteArray.empty, ByteArray.emptyWithCapacity]
  rfl
end Go.Proofs.YtabenhpjgjjgnaaGreatDoor
/- Plain. -/
namespace Go.Proofs.YtabenhpjgjjgnaaGreatDoor
structure ProcL where
 at_ : Int
 params : Int
 locals : Int
 depth : Int
 level : Int
 fn : Bool
structure ModL where
 code : List UInt8
 procs : List ProcL
 imports : List Int
 data : Int
 init : List Nat
structure ImgL where
 names : List (List UInt8)
 mods : List ModL
 order : List Int
instance : Inhabited ProcL := ⟨⟨0, 0, 0, 0, 0, false⟩⟩
instance : Inhabited ModL := ⟨⟨[], [], [], 0, []⟩⟩
instance : DecidableEq ProcL := fun a b => by
 cases a; cases b; simp only [ProcL.mk.injEq]; exact inferInstance
instance : DecidableEq ModL := fun a b => by
 cases a; cases b; simp only [ModL.mk.injEq]; exact inferInstance
instance : DecidableEq ImgL := fun a b => by
 cases a; cases b; simp only [ImgL.mk.injEq]; exact inferInstance
def withinB (n lo hi : Int) : Bool := decide (lo ≤ n) && decide (n ≤ hi)
def mayB (p : ProcL) (c : Nat) : Bool := withinB p.params 0 65535 && withinB p.locals 0 65535 && withinB p.depth 0 65535 && withinB p.at_ 0 c && withinB p.level 1 16
def headB (m : ModL) : Bool := !decide (65535 < m.code.length) && withinB m.procs.length 1 1024 && !decide (255 < m.imports.length) && withinB m.data m.init.length 65535
def bodyB (p : ProcL) : Bool := p.level == 1 && p.params == 0 && !p.fn
def modB (m : ModL) (n : Int) : Bool := headB m && m.procs.all (mayB · m.code.length) && m.imports.all (withinB · 0 (n - 1)) && bodyB (m.procs.getD 0 default)
def checkB (mods : List ModL) (order : List Int) : Bool := withinB mods.length 1 64 && mods.all (modB · mods.length) && order.all (withinB · 0 (mods.length - 1)) && decide order.Nodup
theorem all_take_succ {α : Type} (f : α → Bool) (l : List α) (k : Nat) (d : α) (hk : k < l.length) : (l.take (k + 1)).all f = ((l.take k).all f && f (l.getD k d)) := by
 rw [List.take_succ_eq_append_getElem hk, List.all_append]
 simp [List.getD_eq_getElem?_getD, hk]
theorem all_false_at {α : Type} (f : α → Bool) (l : List α) (k : Nat) (d : α) (hk : k < l.length) (h : f (l.getD k d) = false) : l.all f = false := by
 rw [Bool.eq_false_iff]
 intro h2
 have := List.all_eq_true.1 h2 (l.getD k d) (by simp [List.getD_eq_getElem?_getD, hk])
 rw [h] at this; cases this
theorem nodup_take_succ {α : Type} [DecidableEq α] (l : List α) (k : Nat) (d : α) (hk : k < l.length) : (l.take (k + 1)).Nodup ↔ (l.take k).Nodup ∧ l.getD k d ∉ l.take k := by
 rw [List.take_succ_eq_append_getElem hk, List.nodup_append]
 have e : l.getD k d = l[k] := by simp [List.getD_eq_getElem?_getD, hk]
 rw [e]
 simp only [List.nodup_cons, List.not_mem_nil, not_false_eq_true, List.nodup_nil, and_self, true_and, List.mem_singleton]
 constructor
 ·rintro ⟨h1, h2⟩; exact ⟨h1, fun h => h2 _ h _ rfl rfl⟩
 ·rintro ⟨h1, h2⟩; exact ⟨h1, fun a ha b hb e2 => h2 (by rw [← hb, ← e2]; exact ha)⟩
theorem not_nodup_at {α : Type} [DecidableEq α] (l : List α) (k : Nat) (d : α) (hk : k < l.length) (h : l.getD k d ∈ l.take k) : ¬ l.Nodup := by
 intro hn
 have h1 : (l.take (k + 1)).Nodup := (List.take_sublist _ _).nodup hn
 exact ((nodup_take_succ l k d hk).1 h1).2 h
end Go.Proofs.YtabenhpjgjjgnaaGreatDoor
/- Modules and images as they lie in memory. -/
namespace Go.Proofs.YtabenhpjgjjgnaaGreatDoor
open Go.RowKit
def Each (w : World) (A : Option Addr) (size n : Nat) (P : Nat → Nat → Nat → Prop) : Prop :=
 n = 0 ∨ ∃ b off, A = some ⟨b, off, none⟩ ∧ b < w.heap.size ∧ ∀ j, j < n → P j b (off + j * size)
theorem Each.at_ {w : World} {A : Option Addr} {size n : Nat} {P : Nat → Nat → Nat → Prop} (h : Each w A size n P) {j : Nat} (hj : j < n) :
 ∃ b off, A = some ⟨b, off, none⟩ ∧ b < w.heap.size ∧ P j b (off + j * size) := by
 rcases h with h | ⟨b, off, e, hlt, hc⟩
 ·omega
 ·exact ⟨b, off, e, hlt, hc j hj⟩
theorem Each.later {w w' : World} {A : Option Addr} {size n : Nat} {P Q : Nat → Nat → Nat → Prop} {B : Nat} (h : Each w A size n P) (hb : Below B w w') (hPQ : ∀ j b o, j < n → b < w.heap.size → P j b o → Q j b o) : Each w' A size n Q := by
 rcases h with h | ⟨b, off, e, hlt, hc⟩
 ·exact .inl h
 ·exact .inr ⟨b, off, e, Nat.lt_of_lt_of_le hlt hb.size, fun j hj => hPQ j b _ hj hlt (hc j hj)⟩
def Ints (w : World) (A : Option Addr) (xs : List Int) : Prop := Each w A 1 xs.length fun j b o => w.cell? ⟨b, o, none⟩ = some (.int .i64 (xs.getD j 0))
def Words (w : World) (A : Option Addr) (xs : List Nat) : Prop := Each w A 1 xs.length fun j b o => w.cell? ⟨b, o, none⟩ = some (.int .u16 (xs.getD j 0)) ∧ xs.getD j 0 < 65536
def ProcAt (w : World) (b o : Nat) (p : ProcL) : Prop :=
 w.cell? ⟨b, o, none⟩ = some (.int .i64 p.at_) ∧ w.cell? ⟨b, o + 1, none⟩ = some (.int .i64 p.params) ∧ w.cell? ⟨b, o + 2, none⟩ = some (.int .i64 p.locals) ∧ w.cell? ⟨b, o + 3, none⟩ = some (.int .i64 p.depth) ∧
  w.cell? ⟨b, o + 4, none⟩ = some (.int .i64 p.level) ∧ w.cell? ⟨b, o + 5, none⟩ = some (.bool p.fn)
def Procs (w : World) (A : Option Addr) (ps : List ProcL) : Prop := Each w A 6 ps.length fun j b o => ProcAt w b o (ps.getD j default)
def procV (p : ProcL) : Value := .agg #[.int .i64 p.at_, .int .i64 p.params, .int .i64 p.locals, .int .i64 p.depth, .int .i64 p.level, .bool p.fn]
structure MS where
 A1 : Option Addr
 c1 : Nat
 A2 : Option Addr
 c2 : Nat
 A3 : Option Addr
 c3 : Nat
instance : Inhabited MS := ⟨⟨none, 0, none, 0, none, 0⟩⟩
def modV (s : MS) (m : ModL) : Value := .agg #[.string ⟨m.code.toArray⟩, .slice s.A1 m.procs.length s.c1, .slice s.A2 m.imports.length s.c2, .int .i64 m.data, .slice s.A3 m.init.length s.c3]
structure ModIn (w : World) (s : MS) (m : ModL) : Prop where
 procs : Procs w s.A1 m.procs
 imports : Ints w s.A2 m.imports
 init : Words w s.A3 m.init
 code_le : m.code.length ≤ 140737488355328
 procs_le : m.procs.length ≤ 140737488355328
 imports_le : m.imports.length ≤ 140737488355328
 init_le : m.init.length ≤ 140737488355328
def ModAt (w : World) (b o : Nat) (m : ModL) : Prop :=
 ∃ s, ModIn w s m ∧ w.cell? ⟨b, o, none⟩ = some (.string ⟨m.code.toArray⟩) ∧ w.cell? ⟨b, o + 1, none⟩ = some (.slice s.A1 m.procs.length s.c1) ∧ w.cell? ⟨b, o + 2, none⟩ = some (.slice s.A2 m.imports.length s.c2) ∧
   w.cell? ⟨b, o + 3, none⟩ = some (.int .i64 m.data) ∧ w.cell? ⟨b, o + 4, none⟩ = some (.slice s.A3 m.init.length s.c3)
def Mods (w : World) (A : Option Addr) (ms : List ModL) : Prop := Each w A 5 ms.length fun j b o => ModAt w b o (ms.getD j default)
theorem Ints.later {w w' : World} {A : Option Addr} {xs : List Int} {B : Nat} (h : Ints w A xs) (hb : Below B w w') (hB : w.heap.size ≤ B) : Ints w' A xs :=
 Each.later h hb fun _ b o _ hlt hc => (hb.cell (p := ⟨b, o, none⟩) (Nat.lt_of_lt_of_le hlt hB)).trans hc
theorem Words.later {w w' : World} {A : Option Addr} {xs : List Nat} {B : Nat} (h : Words w A xs) (hb : Below B w w') (hB : w.heap.size ≤ B) : Words w' A xs :=
 Each.later h hb fun _ b o _ hlt hc => ⟨(hb.cell (p := ⟨b, o, none⟩) (Nat.lt_of_lt_of_le hlt hB)).trans hc.1, hc.2⟩
theorem ProcAt.later {w w' : World} {b o : Nat} {p : ProcL} {B : Nat} (h : ProcAt w b o p) (hb : Below B w w') (hB : w.heap.size ≤ B) (hlt : b < w.heap.size) : ProcAt w' b o p := by
 have hl := Nat.lt_of_lt_of_le hlt hB
 obtain ⟨h0, h1, h2, h3, h4, h5⟩ := h
 exact ⟨(hb.cell (p := ⟨b, o, none⟩) hl).trans h0, (hb.cell (p := ⟨b, o + 1, none⟩) hl).trans h1, (hb.cell (p := ⟨b, o + 2, none⟩) hl).trans h2, (hb.cell (p := ⟨b, o + 3, none⟩) hl).trans h3, (hb.cell (p := ⟨b, o + 4, none⟩) hl).trans h4, (hb.cell (p := ⟨b, o + 5, none⟩) hl).trans h5⟩
theorem Procs.later {w w' : World} {A : Option Addr} {ps : List ProcL} {B : Nat} (h : Procs w A ps) (hb : Below B w w') (hB : w.heap.size ≤ B) : Procs w' A ps :=
 Each.later h hb fun _ _ _ _ hlt hc => hc.later hb hB hlt
theorem ModIn.later {w w' : World} {s : MS} {m : ModL} {B : Nat} (h : ModIn w s m) (hb : Below B w w') (hB : w.heap.size ≤ B) : ModIn w' s m :=
 ⟨h.procs.later hb hB, h.imports.later hb hB, h.init.later hb hB, h.code_le, h.procs_le, h.imports_le, h.init_le⟩
theorem ModAt.later {w w' : World} {b o : Nat} {m : ModL} {B : Nat} (h : ModAt w b o m) (hb : Below B w w') (hB : w.heap.size ≤ B) (hlt : b < w.heap.size) : ModAt w' b o m := by
 have hl := Nat.lt_of_lt_of_le hlt hB
 obtain ⟨s, hi, h0, h1, h2, h3, h4⟩ := h
 exact ⟨s, hi.later hb hB, (hb.cell (p := ⟨b, o, none⟩) hl).trans h0, (hb.cell (p := ⟨b, o + 1, none⟩) hl).trans h1, (hb.cell (p := ⟨b, o + 2, none⟩) hl).trans h2, (hb.cell (p := ⟨b, o + 3, none⟩) hl).trans h3, (hb.cell (p := ⟨b, o + 4, none⟩) hl).trans h4⟩
theorem Mods.later {w w' : World} {A : Option Addr} {ms : List ModL} {B : Nat} (h : Mods w A ms) (hb : Below B w w') (hB : w.heap.size ≤ B) : Mods w' A ms :=
 Each.later h hb fun _ _ _ _ hlt hc => hc.later hb hB hlt
theorem alloc_below (w : World) (o : Obj) : Below w.heap.size w (w.alloc o) := (Below.refl _ _).alloc (Nat.le_refl _) o
def BoolEnd (w : World) (b : Bool) (e : Ending) (w' : World) : Prop := e = .returned (.bool b) ∧ Below w.heap.size w w'
end Go.Proofs.YtabenhpjgjjgnaaGreatDoor
/- A world, but for some of its blocks. -/
namespace Go.Proofs.YtabenhpjgjjgnaaGreatDoor
open Go.RowKit
def dead : Obj := .cells #[] 0 (0, 0)
def mask (bs : List Nat) (W : World) : World := { W with heap := W.heap.mapIdx fun i o => if i ∈ bs then dead else o }
theorem mask_size (bs : List Nat) (W : World) : (mask bs W).heap.size = W.heap.size := by unfold mask; simp
theorem mask_at (bs : List Nat) (W : World) {k : Nat} (h : k ∉ bs) : (mask bs W).heap[k]? = W.heap[k]? := by
 unfold mask
 rw [Array.getElem?_mapIdx]
 cases W.heap[k]? <;> simp [h]
theorem mask_in (bs : List Nat) (W : World) {k : Nat} (h : k ∈ bs) (hk : k < W.heap.size) : (mask bs W).heap[k]? = some dead := by
 unfold mask
 rw [Array.getElem?_mapIdx, Array.getElem?_eq_getElem hk]
 simp [h]
theorem mask_cell {bs : List Nat} {W : World} {a : Addr} {v : Value} (h : (mask bs W).cell? a = some v) : W.cell? a = some v := by
 by_cases hb : a.block ∈ bs
 ·by_cases hk : a.block < W.heap.size
  ·unfold World.cell? at h
   rw [mask_in bs W hb hk] at h
   simp [dead] at h
  ·unfold World.cell? at h
   rw [Array.getElem?_eq_none (by rw [mask_size]; omega)] at h
   cases h
 ·unfold World.cell? at h ⊢
  rw [mask_at bs W hb] at h
  exact h
def Only (bs : List Nat) (W W' : World) : Prop := Below W.heap.size (mask bs W) (mask bs W')
theorem Only.refl (bs : List Nat) (W : World) : Only bs W W := Below.refl _ _
theorem Only.size {bs : List Nat} {W W' : World} (h : Only bs W W') : W.heap.size ≤ W'.heap.size := by
 have := Below.size h
 rwa [mask_size, mask_size] at this
theorem Only.trans {bs : List Nat} {A B C : World} (h : Only bs A B) (k : Only bs B C) : Only bs A C := Below.trans h (Below.mono k h.size)
theorem Only.block {bs : List Nat} {W W' : World} (h : Only bs W W') {k : Nat} (hk : k < W.heap.size) (hb : k ∉ bs) : W'.heap[k]? = W.heap[k]? := by
 have := Below.block h k hk
 rwa [mask_at _ _ hb, mask_at _ _ hb] at this
theorem Only.below {bs : List Nat} {W W' : World} (h : Only bs W W') {B : Nat} (hB : B ≤ W.heap.size) (hb : ∀ b ∈ bs, B ≤ b) : Below B W W' :=
 ⟨h.os, h.tape, h.output, h.size, fun k hk => h.block (by omega) (fun hm => by have := hb k hm; omega)⟩
theorem Only.of_below {bs : List Nat} {W W' : World} (h : Below W.heap.size W W') : Only bs W W' := by
 refine ⟨h.os, h.tape, h.output, by rw [mask_size, mask_size]; exact h.size, fun k hk => ?_⟩
 by_cases hb : k ∈ bs
 ·rw [mask_in _ _ hb hk, mask_in _ _ hb (Nat.lt_of_lt_of_le hk h.size)]
 ·rw [mask_at _ _ hb, mask_at _ _ hb]; exact h.block k hk
theorem setCell_size (W : World) (a : Addr) (v : Value) : (W.setCell a v).heap.size = W.heap.size := by unfold World.setCell; simp
theorem mask_setCell {bs : List Nat} {W : World} {a : Addr} {v : Value} (h : a.block ∈ bs) : mask bs (W.setCell a v) = mask bs W := by
 have e : (W.setCell a v).heap.mapIdx (fun i o => if i ∈ bs then dead else o) = W.heap.mapIdx (fun i o => if i ∈ bs then dead else o) := by
  apply Array.ext_getElem?
  intro k
  rw [Array.getElem?_mapIdx, Array.getElem?_mapIdx]
  by_cases hk : k = a.block
  ·subst hk
   by_cases hl : a.block < W.heap.size
   ·rw [Array.getElem?_eq_getElem (by rw [setCell_size]; exact hl), Array.getElem?_eq_getElem hl]
    simp [h]
   ·rw [Array.getElem?_eq_none (by rw [setCell_size]; omega), Array.getElem?_eq_none (by omega)]
  ·rw [Below.heap_setCell W a v k hk]
 unfold mask
 rw [e]
 rfl
theorem Only.setCell {bs : List Nat} {W W' : World} {a : Addr} (h : Only bs W W') (ha : a.block ∈ bs) (v : Value) : Only bs W (W'.setCell a v) := by
 unfold Only
 rw [mask_setCell ha]
 exact h
theorem lt_of_cell {w : World} {a : Addr} {v : Value} (h : w.cell? a = some v) : a.block < w.heap.size := by
 unfold World.cell? at h
 split at h
 ·rename_i he
  rcases Nat.lt_or_ge a.block w.heap.size with h' | h'
  ·exact h'
  ·rw [Array.getElem?_eq_none h'] at he; cases he
 ·cases h
structure Reads (W1 W2 : World) : Prop where
 cell : ∀ b o v, W1.cell? ⟨b, o, none⟩ = some v → W2.cell? ⟨b, o, none⟩ = some v
 size : W1.heap.size ≤ W2.heap.size
theorem mask_reads (bs : List Nat) (W : World) : Reads (mask bs W) W := ⟨fun _ _ _ h => mask_cell h, by rw [mask_size]; exact Nat.le_refl _⟩
theorem Each.reads {w w' : World} {A : Option Addr} {size n : Nat} {P Q : Nat → Nat → Nat → Prop} (h : Each w A size n P) (hr : Reads w w') (hPQ : ∀ j b o, P j b o → Q j b o) : Each w' A size n Q := by
 rcases h with h | ⟨b, off, e, hlt, hc⟩
 ·exact .inl h
 ·exact .inr ⟨b, off, e, Nat.lt_of_lt_of_le hlt hr.size, fun j hj => hPQ j b _ (hc j hj)⟩
theorem Ints.reads {w w' : World} {A : Option Addr} {xs : List Int} (h : Ints w A xs) (hr : Reads w w') : Ints w' A xs := Each.reads h hr fun _ b o hc => hr.cell b o _ hc
theorem Words.reads {w w' : World} {A : Option Addr} {xs : List Nat} (h : Words w A xs) (hr : Reads w w') : Words w' A xs := Each.reads h hr fun _ b o hc => ⟨hr.cell b o _ hc.1, hc.2⟩
theorem ProcAt.reads {w w' : World} {b o : Nat} {p : ProcL} (h : ProcAt w b o p) (hr : Reads w w') : ProcAt w' b o p :=
 ⟨hr.cell _ _ _ h.1, hr.cell _ _ _ h.2.1, hr.cell _ _ _ h.2.2.1, hr.cell _ _ _ h.2.2.2.1, hr.cell _ _ _ h.2.2.2.2.1, hr.cell _ _ _ h.2.2.2.2.2⟩
theorem Procs.reads {w w' : World} {A : Option Addr} {ps : List ProcL} (h : Procs w A ps) (hr : Reads w w') : Procs w' A ps := Each.reads h hr fun _ _ _ hc => hc.reads hr
theorem ModIn.reads {w w' : World} {s : MS} {m : ModL} (h : ModIn w s m) (hr : Reads w w') : ModIn w' s m :=
 ⟨h.procs.reads hr, h.imports.reads hr, h.init.reads hr, h.code_le, h.procs_le, h.imports_le, h.init_le⟩
theorem ModAt.reads {w w' : World} {b o : Nat} {m : ModL} (h : ModAt w b o m) (hr : Reads w w') : ModAt w' b o m := by
 obtain ⟨s, hi, h0, h1, h2, h3, h4⟩ := h
 exact ⟨s, hi.reads hr, hr.cell _ _ _ h0, hr.cell _ _ _ h1, hr.cell _ _ _ h2, hr.cell _ _ _ h3, hr.cell _ _ _ h4⟩
theorem Mods.reads {w w' : World} {A : Option Addr} {ms : List ModL} (h : Mods w A ms) (hr : Reads w w') : Mods w' A ms := Each.reads h hr fun _ _ _ hc => hc.reads hr
def Bx (k : Nat) (cs : Array Value) (T : TypeId) (w : World) : Prop := w.heap[k]? = some (.cells cs T (0, 0))
theorem Bx.cell {k : Nat} {cs : Array Value} {T : TypeId} {w : World} (h : Bx k cs T w) (i : Nat) : w.cell? ⟨k, i, none⟩ = cs[i]? := by unfold World.cell?; rw [show w.heap[k]? = _ from h]; simp
theorem Bx.frozen {k : Nat} {cs : Array Value} {T : TypeId} {w : World} (h : Bx k cs T w) (i : Nat) : w.frozen? ⟨k, i, none⟩ = false := by unfold World.frozen?; rw [show w.heap[k]? = _ from h]; simp
theorem Bx.lt {k : Nat} {cs : Array Value} {T : TypeId} {w : World} (h : Bx k cs T w) : k < w.heap.size := by
 rcases Nat.lt_or_ge k w.heap.size with h' | h'
 ·exact h'
 ·have h2 : w.heap[k]? = _ := h
  rw [Array.getElem?_eq_none h'] at h2; cases h2
theorem Bx.grow {k : Nat} {cs : Array Value} {T : TypeId} {w w' : World} (h : Bx k cs T w) (hb : Below w.heap.size w w') : Bx k cs T w' := (hb.block k h.lt).trans h
theorem Bx.only {k : Nat} {cs : Array Value} {T : TypeId} {bs : List Nat} {w w' : World} (h : Bx k cs T w) (hb : Only bs w w') (hk : k ∉ bs) : Bx k cs T w' := (hb.block h.lt hk).trans h
theorem Bx.new (w : World) (cs : Array Value) (T : TypeId) : Bx w.heap.size cs T (w.alloc (.cells cs T)) := heap_alloc_new w _
theorem Bx.far {k : Nat} {cs : Array Value} {T : TypeId} {w : World} (h : Bx k cs T w) {a : Addr} (hk : k ≠ a.block) (v : Value) : Bx k cs T (w.setCell a v) := (Below.heap_setCell w a v k hk).trans h
theorem Bx.to {k : Nat} {cs ds : Array Value} {T : TypeId} {w : World} (h : Bx k cs T w) (e : cs = ds) : Bx k ds T w := e ▸ h
theorem Bx.set {k : Nat} {cs : Array Value} {T : TypeId} {w : World} (h : Bx k cs T w) (i : Nat) (v : Value) : Bx k (cs.setIfInBounds i v) T (w.setCell ⟨k, i, none⟩ v) := by
 obtain ⟨hl, hk⟩ := Array.getElem?_eq_some_iff.1 (show w.heap[k]? = some (.cells cs T (0, 0)) from h)
 show (w.heap.modify k _)[k]? = _
 rw [Array.getElem?_eq_getElem (by rw [Array.size_modify]; exact hl), Array.getElem_modify_self, hk]
 rfl
end Go.Proofs.YtabenhpjgjjgnaaGreatDoor
/- A map of the call's own that counts what was seen. -/
namespace Go.Proofs.YtabenhpjgjjgnaaGreatDoor
open Go.RowKit
def seenEs {α : Type} (key : α → Value) (xs : List α) : Array MapEntry := (xs.zipIdx.map fun p => ⟨key p.1, .int .i64 1, p.2⟩).toArray
def SeenAt {α : Type} (w : World) (r : Nat) (key : α → Value) (xs : List α) : Prop := w.heap[r]? = some (.map (seenEs key xs) xs.length)
def putObj (w : World) (r : Nat) (o : Obj) : World := { w with heap := w.heap.setIfInBounds r o }
theorem putObj_size (w : World) (r : Nat) (o : Obj) : (putObj w r o).heap.size = w.heap.size := by unfold putObj; simp
theorem putObj_at {w : World} {r : Nat} {o : Obj} (h : r < w.heap.size) : (putObj w r o).heap[r]? = some o := by unfold putObj; simp [h]
theorem putObj_other {w : World} {r k : Nat} {o : Obj} (h : k ≠ r) : (putObj w r o).heap[k]? = w.heap[k]? := by
 unfold putObj; simp only; rw [Array.getElem?_setIfInBounds, if_neg (Ne.symm h)]
theorem putObj_below {B : Nat} {w0 w : World} {r : Nat} {o : Obj} (h : Below B w0 w) (hr : B ≤ r) : Below B w0 (putObj w r o) :=
 ⟨h.os, h.tape, h.output, by rw [putObj_size]; exact h.size, fun k hk => (putObj_other (by omega)).trans (h.block k hk)⟩
def putSeen {α : Type} (w : World) (r : Nat) (key : α → Value) (xs : List α) : World := putObj w r (.map (seenEs key xs) xs.length)
theorem putSeen_below {α : Type} {B : Nat} {w0 w : World} {r : Nat} {key : α → Value} {xs : List α} (h : Below B w0 w) (hr : B ≤ r) : Below B w0 (putSeen w r key xs) := putObj_below h hr
theorem seenEs_snoc {α : Type} (key : α → Value) (xs : List α) (x : α) : seenEs key (xs ++ [x]) = (seenEs key xs).push ⟨key x, .int .i64 1, xs.length⟩ := by
 unfold seenEs; simp [List.zipIdx_append]
theorem SeenAt.later {α : Type} {w w' : World} {r : Nat} {key : α → Value} {xs : List α} {B : Nat} (h : SeenAt w r key xs) (hb : Below B w w') (hr : r < B) : SeenAt w' r key xs := (hb.block r hr).trans h
theorem SeenAt.new {α : Type} (w : World) (key : α → Value) : SeenAt (w.alloc (.map #[] 0)) w.heap.size key [] := heap_alloc_new w _
section
variable {α : Type} {P : Program} {mty kt et : TypeId} {d : TypeDesc} {key : α → Value}
theorem seen_find (hk : ∀ a, MapKept.IsKey d (key a)) (hinj : ∀ a b, key a = key b → a = b) (xs : List α) (x : α) :
 (x ∉ xs ∧ Instr.findNow d (key x) (seenEs key xs).toList 0 = some none) ∨ (x ∈ xs ∧ ∃ j, Instr.findNow d (key x) (seenEs key xs).toList 0 = some (some (j, .int .i64 1))) := by
 rcases MapKept.findNow_spec (hk x) (seenEs key xs).toList 0 (by
  intro e he
  simp only [seenEs, List.mem_map] at he
  obtain ⟨p, _, rfl⟩ := he
  exact hk _) with ⟨h1, h2⟩ | ⟨j, e, h1, h2, h3⟩
 ·refine .inl ⟨fun hx => ?_, h1⟩
  obtain ⟨i, hi, rfl⟩ := List.getElem_of_mem hx
  refine h2 ⟨key xs[i], .int .i64 1, i⟩ ?_ rfl
  simp only [seenEs, List.mem_map]
  exact ⟨(xs[i], i), by rw [List.mem_zipIdx_iff_getElem?]; simp [hi], rfl⟩
 ·have he : e ∈ (seenEs key xs).toList := List.mem_of_getElem? h2
  simp only [seenEs, List.mem_map] at he
  obtain ⟨p, hp, rfl⟩ := he
  refine .inr ⟨?_, 0 + j, h1⟩
  rw [← hinj _ _ h3]
  have := List.mem_zipIdx_iff_getElem?.1 hp
  exact List.mem_of_getElem? this
theorem seen_look [DecidableEq α] (hm : P.underlying mty = some (.map kt et)) (hd : P.underlying kt = some d) (hk : ∀ a, MapKept.IsKey d (key a)) (hinj : ∀ a b, key a = key b → a = b) (w : World) (hz : (zeroValue et).run P w = .ok (.int .i64 0) w) (r : Nat) (xs : List α) (h : SeenAt w r key xs) (x : α) :
 (Instr.lookup mty (.map (some r)) (key x) false).run P w = .ok (.int .i64 (if x ∈ xs then 1 else 0)) w := by
 rcases seen_find hk hinj xs x with ⟨hx, hf⟩ | ⟨hx, j, hf⟩
 ·rw [if_neg hx]
  simp [Instr.lookup, run_underlying hm, MapKept.run_getObj_map h, MapKept.run_checkKey hd (hk x), MapKept.run_findKey hd hf, Result.andThen, hz]
 ·rw [if_pos hx]
  simp [Instr.lookup, run_underlying hm, MapKept.run_getObj_map h, MapKept.run_checkKey hd (hk x), MapKept.run_findKey hd hf, Result.andThen]
theorem seen_put (hm : P.underlying mty = some (.map kt et)) (hd : P.underlying kt = some d) (hk : ∀ a, MapKept.IsKey d (key a)) (hinj : ∀ a b, key a = key b → a = b) (w : World) (r : Nat) (xs : List α) (h : SeenAt w r key xs) (x : α) (hx : x ∉ xs) :
 (Instr.mapUpdate mty (.map (some r)) (key x) (.int .i64 1)).run P w = .ok () (putSeen w r key (xs ++ [x])) := by
 rcases seen_find hk hinj xs x with ⟨_, hf⟩ | ⟨hx2, _⟩
 ·simp [Instr.mapUpdate, run_underlying hm, MapKept.run_getObj_map h, MapKept.run_checkKey hd (hk x), MapKept.run_findKey hd hf, MapKept.run_setObj_map _ h, Result.andThen, seenEs_snoc, putSeen, putObj]
 ·exact absurd hx2 hx
theorem seen_put_at {w : World} {r : Nat} {xs : List α} (h : SeenAt w r key xs) (x : α) : SeenAt (putSeen w r key (xs ++ [x])) r key (xs ++ [x]) :=
 putObj_at (by unfold SeenAt at h; exact (Array.getElem?_eq_some_iff.1 h).1)
end
def intKey (x : Int) : Value := .int .i64 x
theorem zero_int (w : World) : (zeroValue 3).run Tryz.prog w = .ok (.int .i64 0) w := by
 have h : (Tryz.prog.info? 3).map (fun i => i.zero) = some (some (.int .i64 0)) := by kernel_rfl
 cases hi : Tryz.prog.info? 3 with
 | none => rw [hi] at h; cases h
 | some i =>
   rw [hi] at h
   have hz : i.zero = some (.int .i64 0) := by simpa using h
   simp [zeroValue, typeInfo, hi, hz]
theorem look_int (w : World) (r : Nat) (xs : List Int) (h : SeenAt w r intKey xs) (x : Int) : (Instr.lookup 115 (.map (some r)) (.int .i64 x) false).run Tryz.prog w = .ok (.int .i64 (if x ∈ xs then 1 else 0)) w :=
 seen_look (key := intKey) Tryz.underlying115 Tryz.underlying3 (fun _ => rfl) (fun a b h => by unfold intKey at h; injection h) w (zero_int w) r xs h x
theorem put_int (w : World) (r : Nat) (xs : List Int) (h : SeenAt w r intKey xs) (x : Int) (hx : x ∉ xs) : (Instr.mapUpdate 115 (.map (some r)) (.int .i64 x) (.int .i64 1)).run Tryz.prog w = .ok () (putSeen w r intKey (xs ++ [x])) :=
 seen_put (key := intKey) Tryz.underlying115 Tryz.underlying3 (fun _ => rfl) (fun a b h => by unfold intKey at h; injection h) w r xs h x hx
end Go.Proofs.YtabenhpjgjjgnaaGreatDoor
