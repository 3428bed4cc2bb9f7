/- Plain: modules and images as lists; which may be. No program in sight, no condition. -/
import Derived.Lib.Hide
namespace Go.Proofs.Ytckbfocbainlpaa

structure ProcL where
  at_ : Int
  params : Int
  locals : Int
  depth : Int
  level : Int
  fn : Bool
structure ModL where
  code : List UInt8
  procs : List ProcL
  imports : List Int
  data : Int
  init : List Nat
structure ImgL where
  names : List (List UInt8)
  mods : List ModL
  order : List Int
instance : Inhabited ProcL := ⟨⟨0, 0, 0, 0, 0, false⟩⟩
instance : Inhabited ModL := ⟨⟨[], [], [], 0, []⟩⟩
instance : DecidableEq ProcL := fun a b => by
  cases a; cases b; simp only [ProcL.mk.injEq]; exact inferInstance
instance : DecidableEq ModL := fun a b => by
  cases a; cases b; simp only [ModL.mk.injEq]; exact inferInstance
instance : DecidableEq ImgL := fun a b => by
  cases a; cases b; simp only [ImgL.mk.injEq]; exact inferInstance

def withinB (n lo hi : Int) : Bool := decide (lo ≤ n) && decide (n ≤ hi)
def mayB (p : ProcL) (c : Nat) : Bool := withinB p.params 0 65535 && withinB p.locals 0 65535 && withinB p.depth 0 65535 && withinB p.at_ 0 c && withinB p.level 1 16
def headB (m : ModL) : Bool := !decide (65535 < m.code.length) && withinB m.procs.length 1 1024 && !decide (255 < m.imports.length) && withinB m.data m.init.length 65535
def bodyB (p : ProcL) : Bool := p.level == 1 && p.params == 0 && !p.fn
def modB (m : ModL) (n : Int) : Bool := headB m && m.procs.all (mayB · m.code.length) && m.imports.all (withinB · 0 (n - 1)) && bodyB (m.procs.getD 0 default)
def checkB (mods : List ModL) (order : List Int) : Bool := withinB mods.length 1 64 && mods.all (modB · mods.length) && order.all (withinB · 0 (mods.length - 1)) && decide order.Nodup
def nameB (s : List UInt8) : Bool := decide (1 ≤ s.length) && decide (s.length ≤ 255)
/-- An image's order: each module in its place. -/
def orderB (l : List Int) : Bool := decide (l = (List.range l.length).map fun (k : Nat) => (k : Int))
def imgB (i : ImgL) : Bool := checkB i.mods i.order && (i.names.length == i.mods.length) && (i.order.length == i.mods.length) && i.names.all nameB && decide i.names.Nodup && orderB i.order

/-- A test that goes on as long as all is well. -/
theorem all_take_succ {α : Type} (f : α → Bool) (l : List α) (k : Nat) (d : α) (hk : k < l.length) : (l.take (k + 1)).all f = ((l.take k).all f && f (l.getD k d)) := by
  rw [List.take_succ_eq_append_getElem hk, List.all_append]
  simp [List.getD_eq_getElem?_getD, hk]
theorem all_false_at {α : Type} (f : α → Bool) (l : List α) (k : Nat) (d : α) (hk : k < l.length) (h : f (l.getD k d) = false) : l.all f = false := by
  rw [Bool.eq_false_iff]
  intro h2
  have := List.all_eq_true.1 h2 (l.getD k d) (by simp [List.getD_eq_getElem?_getD, hk])
  rw [h] at this; cases this
theorem nodup_take_succ {α : Type} [DecidableEq α] (l : List α) (k : Nat) (d : α) (hk : k < l.length) : (l.take (k + 1)).Nodup ↔ (l.take k).Nodup ∧ l.getD k d ∉ l.take k := by
  rw [List.take_succ_eq_append_getElem hk, List.nodup_append]
  have e : l.getD k d = l[k] := by simp [List.getD_eq_getElem?_getD, hk]
  rw [e]
  simp only [List.nodup_cons, List.not_mem_nil, not_false_eq_true, List.nodup_nil, and_self, true_and, List.mem_singleton]
  constructor
  · rintro ⟨h1, h2⟩; exact ⟨h1, fun h => h2 _ h _ rfl rfl⟩
  · rintro ⟨h1, h2⟩; exact ⟨h1, fun a ha b hb e2 => h2 (by rw [← hb, ← e2]; exact ha)⟩
theorem not_nodup_at {α : Type} [DecidableEq α] (l : List α) (k : Nat) (d : α) (hk : k < l.length) (h : l.getD k d ∈ l.take k) : ¬ l.Nodup := by
  intro hn
  have h1 : (l.take (k + 1)).Nodup := (List.take_sublist _ _).nodup hn
  exact ((nodup_take_succ l k d hk).1 h1).2 h
end Go.Proofs.Ytckbfocbainlpaa
