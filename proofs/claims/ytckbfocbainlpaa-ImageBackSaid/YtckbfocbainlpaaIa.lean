/- Modules and images as they lie in memory; what stays so. No condition beyond what each theorem says. -/
import Derived.Test.YtckbfocbainlpaaBy
import Derived.Test.YtckbfocbainlpaaIp
namespace Go.Proofs.Ytckbfocbainlpaa
open Go.RowKit

/-- A slice's address under which n elements lie, each as P says of its own place. -/
def Each (w : World) (A : Option Addr) (size n : Nat) (P : Nat → Nat → Nat → Prop) : Prop :=
  n = 0 ∨ ∃ b off, A = some ⟨b, off, none⟩ ∧ b < w.heap.size ∧ ∀ j, j < n → P j b (off + j * size)
theorem Each.at_ {w : World} {A : Option Addr} {size n : Nat} {P : Nat → Nat → Nat → Prop} (h : Each w A size n P) {j : Nat} (hj : j < n) :
    ∃ b off, A = some ⟨b, off, none⟩ ∧ b < w.heap.size ∧ P j b (off + j * size) := by
  rcases h with h | ⟨b, off, e, hlt, hc⟩
  · omega
  · exact ⟨b, off, e, hlt, hc j hj⟩
theorem Each.later {w w' : World} {A : Option Addr} {size n : Nat} {P Q : Nat → Nat → Nat → Prop} {B : Nat} (h : Each w A size n P) (hb : Below B w w') (hPQ : ∀ j b o, j < n → b < w.heap.size → P j b o → Q j b o) : Each w' A size n Q := by
  rcases h with h | ⟨b, off, e, hlt, hc⟩
  · exact .inl h
  · exact .inr ⟨b, off, e, Nat.lt_of_lt_of_le hlt hb.size, fun j hj => hPQ j b _ hj hlt (hc j hj)⟩

def Ints (w : World) (A : Option Addr) (xs : List Int) : Prop := Each w A 1 xs.length fun j b o => w.cell? ⟨b, o, none⟩ = some (.int .i64 (xs.getD j 0))
def Words (w : World) (A : Option Addr) (xs : List Nat) : Prop := Each w A 1 xs.length fun j b o => w.cell? ⟨b, o, none⟩ = some (.int .u16 (xs.getD j 0)) ∧ xs.getD j 0 < 65536
def Strs (w : World) (A : Option Addr) (xs : List (List UInt8)) : Prop := Each w A 1 xs.length fun j b o => w.cell? ⟨b, o, none⟩ = some (.string ⟨(xs.getD j []).toArray⟩) ∧ (xs.getD j []).length ≤ 140737488355328
def ProcAt (w : World) (b o : Nat) (p : ProcL) : Prop :=
  w.cell? ⟨b, o, none⟩ = some (.int .i64 p.at_) ∧ w.cell? ⟨b, o + 1, none⟩ = some (.int .i64 p.params) ∧ w.cell? ⟨b, o + 2, none⟩ = some (.int .i64 p.locals) ∧ w.cell? ⟨b, o + 3, none⟩ = some (.int .i64 p.depth) ∧
    w.cell? ⟨b, o + 4, none⟩ = some (.int .i64 p.level) ∧ w.cell? ⟨b, o + 5, none⟩ = some (.bool p.fn)
def Procs (w : World) (A : Option Addr) (ps : List ProcL) : Prop := Each w A 6 ps.length fun j b o => ProcAt w b o (ps.getD j default)
/-- A procedure as a value. -/
def procV (p : ProcL) : Value := .agg #[.int .i64 p.at_, .int .i64 p.params, .int .i64 p.locals, .int .i64 p.depth, .int .i64 p.level, .bool p.fn]

/-- A module's slices: where they lie. -/
structure MS where
  A1 : Option Addr
  c1 : Nat
  A2 : Option Addr
  c2 : Nat
  A3 : Option Addr
  c3 : Nat
instance : Inhabited MS := ⟨⟨none, 0, none, 0, none, 0⟩⟩
/-- A module as a value, whose slices lie there. -/
def modV (s : MS) (m : ModL) : Value := .agg #[.string ⟨m.code.toArray⟩, .slice s.A1 m.procs.length s.c1, .slice s.A2 m.imports.length s.c2, .int .i64 m.data, .slice s.A3 m.init.length s.c3]
structure ModIn (w : World) (s : MS) (m : ModL) : Prop where
  procs : Procs w s.A1 m.procs
  imports : Ints w s.A2 m.imports
  init : Words w s.A3 m.init
  code_le : m.code.length ≤ 140737488355328
  procs_le : m.procs.length ≤ 140737488355328
  imports_le : m.imports.length ≤ 140737488355328
  init_le : m.init.length ≤ 140737488355328
def ModAt (w : World) (b o : Nat) (m : ModL) : Prop :=
  ∃ s, ModIn w s m ∧ w.cell? ⟨b, o, none⟩ = some (.string ⟨m.code.toArray⟩) ∧ w.cell? ⟨b, o + 1, none⟩ = some (.slice s.A1 m.procs.length s.c1) ∧ w.cell? ⟨b, o + 2, none⟩ = some (.slice s.A2 m.imports.length s.c2) ∧
    w.cell? ⟨b, o + 3, none⟩ = some (.int .i64 m.data) ∧ w.cell? ⟨b, o + 4, none⟩ = some (.slice s.A3 m.init.length s.c3)
def Mods (w : World) (A : Option Addr) (ms : List ModL) : Prop := Each w A 5 ms.length fun j b o => ModAt w b o (ms.getD j default)
structure IS where
  A1 : Option Addr
  c1 : Nat
  A2 : Option Addr
  c2 : Nat
  A3 : Option Addr
  c3 : Nat
def progV (s : IS) (i : ImgL) : Value := .agg #[.slice s.A2 i.mods.length s.c2, .slice s.A3 i.order.length s.c3]
def imgV (s : IS) (i : ImgL) : Value := .agg #[.slice s.A1 i.names.length s.c1, .slice s.A2 i.mods.length s.c2, .slice s.A3 i.order.length s.c3]
structure ImgIn (w : World) (s : IS) (i : ImgL) : Prop where
  names : Strs w s.A1 i.names
  mods : Mods w s.A2 i.mods
  order : Ints w s.A3 i.order
  names_le : i.names.length ≤ 140737488355328
  mods_le : i.mods.length ≤ 140737488355328
  order_le : i.order.length ≤ 140737488355328

theorem Ints.later {w w' : World} {A : Option Addr} {xs : List Int} {B : Nat} (h : Ints w A xs) (hb : Below B w w') (hB : w.heap.size ≤ B) : Ints w' A xs :=
  Each.later h hb fun _ b o _ hlt hc => (hb.cell (p := ⟨b, o, none⟩) (Nat.lt_of_lt_of_le hlt hB)).trans hc
theorem Words.later {w w' : World} {A : Option Addr} {xs : List Nat} {B : Nat} (h : Words w A xs) (hb : Below B w w') (hB : w.heap.size ≤ B) : Words w' A xs :=
  Each.later h hb fun _ b o _ hlt hc => ⟨(hb.cell (p := ⟨b, o, none⟩) (Nat.lt_of_lt_of_le hlt hB)).trans hc.1, hc.2⟩
theorem Strs.later {w w' : World} {A : Option Addr} {xs : List (List UInt8)} {B : Nat} (h : Strs w A xs) (hb : Below B w w') (hB : w.heap.size ≤ B) : Strs w' A xs :=
  Each.later h hb fun _ b o _ hlt hc => ⟨(hb.cell (p := ⟨b, o, none⟩) (Nat.lt_of_lt_of_le hlt hB)).trans hc.1, hc.2⟩
theorem ProcAt.later {w w' : World} {b o : Nat} {p : ProcL} {B : Nat} (h : ProcAt w b o p) (hb : Below B w w') (hB : w.heap.size ≤ B) (hlt : b < w.heap.size) : ProcAt w' b o p := by
  have hl := Nat.lt_of_lt_of_le hlt hB
  obtain ⟨h0, h1, h2, h3, h4, h5⟩ := h
  exact ⟨(hb.cell (p := ⟨b, o, none⟩) hl).trans h0, (hb.cell (p := ⟨b, o + 1, none⟩) hl).trans h1, (hb.cell (p := ⟨b, o + 2, none⟩) hl).trans h2, (hb.cell (p := ⟨b, o + 3, none⟩) hl).trans h3, (hb.cell (p := ⟨b, o + 4, none⟩) hl).trans h4, (hb.cell (p := ⟨b, o + 5, none⟩) hl).trans h5⟩
theorem Procs.later {w w' : World} {A : Option Addr} {ps : List ProcL} {B : Nat} (h : Procs w A ps) (hb : Below B w w') (hB : w.heap.size ≤ B) : Procs w' A ps :=
  Each.later h hb fun _ _ _ _ hlt hc => hc.later hb hB hlt
theorem ModIn.later {w w' : World} {s : MS} {m : ModL} {B : Nat} (h : ModIn w s m) (hb : Below B w w') (hB : w.heap.size ≤ B) : ModIn w' s m :=
  ⟨h.procs.later hb hB, h.imports.later hb hB, h.init.later hb hB, h.code_le, h.procs_le, h.imports_le, h.init_le⟩
theorem ModAt.later {w w' : World} {b o : Nat} {m : ModL} {B : Nat} (h : ModAt w b o m) (hb : Below B w w') (hB : w.heap.size ≤ B) (hlt : b < w.heap.size) : ModAt w' b o m := by
  have hl := Nat.lt_of_lt_of_le hlt hB
  obtain ⟨s, hi, h0, h1, h2, h3, h4⟩ := h
  exact ⟨s, hi.later hb hB, (hb.cell (p := ⟨b, o, none⟩) hl).trans h0, (hb.cell (p := ⟨b, o + 1, none⟩) hl).trans h1, (hb.cell (p := ⟨b, o + 2, none⟩) hl).trans h2, (hb.cell (p := ⟨b, o + 3, none⟩) hl).trans h3, (hb.cell (p := ⟨b, o + 4, none⟩) hl).trans h4⟩
theorem Mods.later {w w' : World} {A : Option Addr} {ms : List ModL} {B : Nat} (h : Mods w A ms) (hb : Below B w w') (hB : w.heap.size ≤ B) : Mods w' A ms :=
  Each.later h hb fun _ _ _ _ hlt hc => hc.later hb hB hlt
theorem ImgIn.later {w w' : World} {s : IS} {i : ImgL} {B : Nat} (h : ImgIn w s i) (hb : Below B w w') (hB : w.heap.size ≤ B) : ImgIn w' s i :=
  ⟨h.names.later hb hB, h.mods.later hb hB, h.order.later hb hB, h.names_le, h.mods_le, h.order_le⟩
theorem bcell {W w1 : World} (hb : Below W.heap.size W w1) : (∀ b o, b < W.heap.size → w1.cell? ⟨b, o, none⟩ = W.cell? ⟨b, o, none⟩) ∧ (∀ b o, b < W.heap.size → w1.frozen? ⟨b, o, none⟩ = W.frozen? ⟨b, o, none⟩) :=
  ⟨fun b o h => hb.cell (p := ⟨b, o, none⟩) h, fun b o h => hb.frozen (p := ⟨b, o, none⟩) h⟩
theorem alloc_below (w : World) (o : Obj) : Below w.heap.size w (w.alloc o) := (Below.refl _ _).alloc (Nat.le_refl _) o
/-- How a function that answers one bool ends. -/
def BoolEnd (w : World) (b : Bool) (e : Ending) (w' : World) : Prop := e = .returned (.bool b) ∧ Below w.heap.size w w'
end Go.Proofs.Ytckbfocbainlpaa
