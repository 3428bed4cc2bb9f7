/- What holds while image.Decode gathers an image. No condition beyond what each theorem says. -/
import Derived.Test.YtckbfocbainlpaaVe
import Derived.Test.YtckbfocbainlpaaEa
import Derived.Test.YtckbfocbainlpaaGm
namespace Go.Proofs.Ytckbfocbainlpaa
open Go.RowKit
set_option maxRecDepth 100000

def cellsS (s : List UInt8) : List Value := [.string ⟨s.toArray⟩]
def cellsM (p : MS × ModL) : List Value := [.string ⟨p.2.code.toArray⟩, .slice p.1.A1 p.2.procs.length p.1.c1, .slice p.1.A2 p.2.imports.length p.1.c2, .int .i64 p.2.data, .slice p.1.A3 p.2.init.length p.1.c3]
theorem etStrs : ET Try.prog 22 9 1 16 := et_of (z := .string ⟨#[]⟩) Try.underlying22 (by kernel_rfl) rfl (by omega)
theorem etMods : ET Try.prog 23 41 5 96 := et_of (z := .agg #[.string ⟨#[]⟩, .slice none 0 0, .slice none 0 0, .int .i64 0, .slice none 0 0]) Try.underlying23 (by kernel_rfl) rfl (by omega)

/-- A row of n elements that does not lie in block X. -/
def Off (X : Option Nat) (A : Option Addr) (n : Nat) : Prop := n = 0 ∨ ∀ b off, A = some ⟨b, off, none⟩ → some b ≠ X
structure OffM (X : Option Nat) (s : MS) (m : ModL) : Prop where
  procs : Off X s.A1 m.procs.length
  imports : Off X s.A2 m.imports.length
  init : Off X s.A3 m.init.length
theorem Each.grown {w w' : World} {X : Option Nat} {A : Option Addr} {size n : Nat} {P Q : Nat → Nat → Nat → Prop} (h : Each w A size n P) (hg : w.grownBy w' X) (ho : Off X A n)
    (hPQ : ∀ j b o, j < n → b < w.heap.size → some b ≠ X → P j b o → Q j b o) : Each w' A size n Q := by
  rcases h with h | ⟨b, off, e, hlt, hc⟩
  · exact .inl h
  · rcases ho with ho | ho
    · exact .inl ho
    · exact .inr ⟨b, off, e, Nat.lt_of_lt_of_le hlt hg.size, fun j hj => hPQ j b _ hj hlt (ho b off e) (hc j hj)⟩
theorem ModIn.grown {w w' : World} {X : Option Nat} {s : MS} {m : ModL} (h : ModIn w s m) (hg : w.grownBy w' X) (ho : OffM X s m) : ModIn w' s m := by
  have cell : ∀ b o, b < w.heap.size → some b ≠ X → w'.cell? ⟨b, o, none⟩ = w.cell? ⟨b, o, none⟩ := fun b o hb hx => hg.cell_far ⟨b, o, none⟩ hb hx
  refine ⟨Each.grown h.procs hg ho.procs fun j b o _ hb hx hc => ?_, Each.grown h.imports hg ho.imports fun j b o _ hb hx hc => (cell b o hb hx).trans hc, Each.grown h.init hg ho.init fun j b o _ hb hx hc => ⟨(cell b o hb hx).trans hc.1, hc.2⟩, h.code_le, h.procs_le, h.imports_le, h.init_le⟩
  obtain ⟨c0, c1, c2, c3, c4, c5⟩ := hc
  exact ⟨(cell b _ hb hx).trans c0, (cell b _ hb hx).trans c1, (cell b _ hb hx).trans c2, (cell b _ hb hx).trans c3, (cell b _ hb hx).trans c4, (cell b _ hb hx).trans c5⟩
theorem off_new {w : World} {A : Option Addr} {size n : Nat} {P : Nat → Nat → Nat → Prop} (h : Each w A size n P) : Off (some w.heap.size) A n := by
  rcases h with h | ⟨b, off, e, hlt, _⟩
  · exact .inl h
  · refine .inr fun b' off' e' hx => ?_
    rw [e] at e'
    injection e' with e'
    injection e' with e1 _
    have := Option.some.inj hx
    omega
theorem ModIn.offNew {w : World} {s : MS} {m : ModL} (h : ModIn w s m) : OffM (some w.heap.size) s m := ⟨off_new h.procs, off_new h.imports, off_new h.init⟩
theorem off_base {w : World} {B : Nat} {e : TypeId} {size : Nat} {A : Option Addr} {n m c : Nat} {xs : List Value} (h : w.ownsRow B e size (.slice A n c) m xs) (X : Option Nat) (hX : ∀ k, X = some k → k < B) : Off X A m := by
  rcases h.2 with ⟨_, h2⟩ | ⟨g, cap, cur, h1, hB, _⟩
  · exact .inl h2
  · refine .inr fun b off e hx => ?_
    injection h1 with h1 _ _
    rw [h1] at e
    injection e with e
    injection e with e1 _
    have := hX b hx.symm
    omega
theorem Fresh.off {w : World} {s : MS} {m : ModL} {W : World} (h : Fresh w s m W) (X : Option Nat) (hX : ∀ k, X = some k → k < w.heap.size) : OffM X s m :=
  ⟨off_base h.rows.o1 X fun k hk => Nat.lt_succ_of_lt (hX k hk), off_base h.rows.o2 X fun k hk => Nat.lt_succ_of_lt (hX k hk), off_base h.rows.o3 X fun k hk => Nat.lt_succ_of_lt (hX k hk)⟩

/-- A block of cells. -/
def Blk (k : Nat) (cs : Array Value) (T : TypeId) (W : World) : Prop := W.heap[k]? = some (.cells cs T (0, 0))
theorem Blk.grow {k : Nat} {cs : Array Value} {T : TypeId} {W W' : World} (h : Blk k cs T W) (hb : Below W.heap.size W W') : Blk k cs T W' := (hb.block k (lt_of_get h)).trans h
theorem Blk.app {k : Nat} {cs : Array Value} {T e : TypeId} {W W' : World} {B size : Nat} {v : Value} {n : Nat} {xs : List Value} (h : Blk k cs T W) (hown : W.ownsRow B e size v n xs) (hg : W.grownBy W' v.ownBlock) (hT : T ≠ e) : Blk k cs T W' := by
  refine (hg.block k (lt_of_get h) (fun he => ?_)).trans h
  rcases hown.2 with ⟨rfl, _⟩ | ⟨g, cap, cur, rfl, _, hgg, _⟩
  · cases he
  · have he : k = g := Option.some.inj he
    subst he
    have := h.symm.trans hgg
    injection this with this
    injection this with _ h2 _
    exact hT h2
theorem Blk.src {P : Program} {t e : TypeId} {size bytes : Nat} (E : ET P t e size bytes) {k : Nat} {cs : Array Value} {T : TypeId} {W : World} (h : Blk k cs T W) (m c : Nat) (hl : cs.size = m * size) (h1 : ∀ u ∈ cs.toList, u.oneCell' = true) : Src P size t (.slice (some ⟨k, 0, none⟩) m c) m cs.toList W :=
  Src.ofSlice _ E.und _ m c cs.toList (by simpa using hl) (World.news_of_block h) h1
theorem own_keep {W W' : World} {B B' : Nat} {e e' : TypeId} {size size' : Nat} {v v' : Value} {n n' : Nat} {xs xs' : List Value} (h : W.ownsRow B e size v n xs) (h' : W.ownsRow B' e' size' v' n' xs') (hne : e ≠ e') (hg : W.grownBy W' v'.ownBlock) : W'.ownsRow B e size v n xs := by
  refine ⟨h.1, ?_⟩
  rcases h.2 with hn | ⟨g, cap, cur, rfl, hB, hgg, rest⟩
  · exact .inl hn
  · exact .inr ⟨g, cap, cur, rfl, hB, Blk.app (cs := cur) (T := e) hgg h' hg hne, rest⟩

/-- What holds while an image is gathered: three rows of the call's own, whose elements are these; the modules al are there. -/
structure DI (w : World) (v1 v2 v3 : Value) (ns : List (List UInt8)) (sm : List (MS × ModL)) (os : List Int) (al : List (MS × ModL)) (W : World) : Prop where
  old : Below w.heap.size w W
  o1 : W.ownsRow (w.heap.size + 1) 9 1 v1 ns.length (ns.flatMap cellsS)
  o2 : W.ownsRow (w.heap.size + 1) 41 5 v2 sm.length (sm.flatMap cellsM)
  o3 : W.ownsRow (w.heap.size + 1) 3 1 v3 os.length (os.flatMap cellsI)
  mods : ∀ p ∈ al, ModIn W p.1 p.2 ∧ OffM v1.ownBlock p.1 p.2 ∧ OffM v2.ownBlock p.1 p.2 ∧ OffM v3.ownBlock p.1 p.2 ∧ OffM (some w.heap.size) p.1 p.2
  lt : w.heap.size < W.heap.size
section
variable {w : World} {v1 v2 v3 : Value} {ns : List (List UInt8)} {sm : List (MS × ModL)} {os : List Int} {al : List (MS × ModL)} {W W' : World}
theorem DI.grow (h : DI w v1 v2 v3 ns sm os al W) (hb : Below W.heap.size W W') : DI w v1 v2 v3 ns sm os al W' :=
  ⟨h.old.trans (hb.mono (Nat.le_of_lt h.lt)), own_later h.o1 hb, own_later h.o2 hb, own_later h.o3 hb, fun p hp => ⟨(h.mods p hp).1.later hb (Nat.le_refl _), (h.mods p hp).2⟩, Nat.lt_of_lt_of_le h.lt hb.size⟩
theorem offM_place {X Y : Option Nat} {p : MS × ModL} (h : ModIn W p.1 p.2) (ho : OffM X p.1 p.2) (hp : Y = X ∨ Y = some W.heap.size) : OffM Y p.1 p.2 := by
  rcases hp with rfl | rfl
  · exact ho
  · exact h.offNew
theorem DI.app1 {v : Value} {x : List UInt8} (h : DI w v1 v2 v3 ns sm os al W) (hA : App W W' (w.heap.size + 1) 9 1 v1 v (ns.length + 1) (ns.flatMap cellsS ++ cellsS x)) : DI w v v2 v3 (ns ++ [x]) sm os al W' :=
  ⟨hA.below h.old (Nat.le_of_lt h.lt) h.o1 (Nat.le_succ _), by rw [List.flatMap_append, List.length_append]; simpa using hA.own, own_keep h.o2 h.o1 (by decide) hA.grown, own_keep h.o3 h.o1 (by decide) hA.grown,
    fun p hp => ⟨(h.mods p hp).1.grown hA.grown (h.mods p hp).2.1, offM_place (h.mods p hp).1 (h.mods p hp).2.1 hA.place, (h.mods p hp).2.2⟩, Nat.lt_of_lt_of_le h.lt hA.grown.size⟩
theorem DI.app2 {v : Value} {x : MS × ModL} (h : DI w v1 v2 v3 ns sm os al W) (hA : App W W' (w.heap.size + 1) 41 5 v2 v (sm.length + 1) (sm.flatMap cellsM ++ cellsM x)) : DI w v1 v v3 ns (sm ++ [x]) os al W' :=
  ⟨hA.below h.old (Nat.le_of_lt h.lt) h.o2 (Nat.le_succ _), own_keep h.o1 h.o2 (by decide) hA.grown, by rw [List.flatMap_append, List.length_append]; simpa using hA.own, own_keep h.o3 h.o2 (by decide) hA.grown,
    fun p hp => ⟨(h.mods p hp).1.grown hA.grown (h.mods p hp).2.2.1, (h.mods p hp).2.1, offM_place (h.mods p hp).1 (h.mods p hp).2.2.1 hA.place, (h.mods p hp).2.2.2⟩, Nat.lt_of_lt_of_le h.lt hA.grown.size⟩
theorem DI.app3 {v : Value} {x : Int} (h : DI w v1 v2 v3 ns sm os al W) (hA : App W W' (w.heap.size + 1) 3 1 v3 v (os.length + 1) (os.flatMap cellsI ++ cellsI x)) : DI w v1 v2 v ns sm (os ++ [x]) al W' :=
  ⟨hA.below h.old (Nat.le_of_lt h.lt) h.o3 (Nat.le_succ _), own_keep h.o1 h.o3 (by decide) hA.grown, own_keep h.o2 h.o3 (by decide) hA.grown, by rw [List.flatMap_append, List.length_append]; simpa using hA.own,
    fun p hp => ⟨(h.mods p hp).1.grown hA.grown (h.mods p hp).2.2.2.1, (h.mods p hp).2.1, (h.mods p hp).2.2.1, offM_place (h.mods p hp).1 (h.mods p hp).2.2.2.1 hA.place, (h.mods p hp).2.2.2.2⟩, Nat.lt_of_lt_of_le h.lt hA.grown.size⟩
theorem DI.setR (h : DI w v1 v2 v3 ns sm os al W) (i : Nat) (u : Value) : DI w v1 v2 v3 ns sm os al (W.setCell ⟨w.heap.size, i, none⟩ u) :=
  ⟨h.old.setCell (p := ⟨w.heap.size, i, none⟩) (Nat.le_refl _) u, own_set h.o1 (Nat.lt_succ_self _) i u, own_set h.o2 (Nat.lt_succ_self _) i u, own_set h.o3 (Nat.lt_succ_self _) i u,
    fun p hp => ⟨(h.mods p hp).1.grown (grown_set (grown_refl W (some w.heap.size)) i u) (h.mods p hp).2.2.2.2, (h.mods p hp).2⟩, by simpa using h.lt⟩
/-- One module more is there. -/
theorem DI.more {p : MS × ModL} (h : DI w v1 v2 v3 ns sm os al W) (hp : ModIn W p.1 p.2 ∧ OffM v1.ownBlock p.1 p.2 ∧ OffM v2.ownBlock p.1 p.2 ∧ OffM v3.ownBlock p.1 p.2 ∧ OffM (some w.heap.size) p.1 p.2) : DI w v1 v2 v3 ns sm os (p :: al) W :=
  ⟨h.old, h.o1, h.o2, h.o3, fun q hq => (List.mem_cons.1 hq).elim (fun e => e ▸ hp) (h.mods q), h.lt⟩
end
end Go.Proofs.Ytckbfocbainlpaa
