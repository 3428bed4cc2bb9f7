/- A machine's step makes a map of what all instructions do. A machine's step makes a map of what all instructions do. A machine's step makes a map of what all instructions do. Condition: what lies in memory can lie there; what each theorem says. -/
import Derived.Test.YtabenhpjgjjgnaaGreatDoorBal
import Derived.Test.YtabenhpjgjjgnaaGreatDoorBac
/- A machine's step makes a map of what all instructions do. -/
namespace Go.Proofs.YtabenhpjgjjgnaaGreatDoor
open Go.RowKit
set_option maxRecDepth 100000
attribute [local go_sem ↓] Go.wp_at_zero Go.wp_at_succ
section
variable {P : Program} {ops : Array Oper} {Q : Exit → Act → World → Prop}
theorem op_val {j : Nat} {o : Oper} {K : Act → World → Prop} {a : Act} {w w' : World} {v : Value} (ho : ops[j]? = some o) (hg : o.guard = none) (hr : (execOp a.eval o).run P w = .ok (.value v) w') (h : K (a.put o.dst v) w') : wpOp P ops Q j K a w := by
 refine wpOp_step ho fun K' hK => ?_
 rw [if_pos (by simp [Region.wanted, hg])]
 unfold Oper.wp
 rw [hr]
 exact hK _ _ h
theorem op_skip {j : Nat} {o : Oper} {K : Act → World → Prop} {a : Act} {w w' : World} (ho : ops[j]? = some o) (hg : o.guard = none) (hd : o.dst = none) (hr : (execOp a.eval o).run P w = .ok .skip w') (h : K a w') : wpOp P ops Q j K a w := by
 refine wpOp_step ho fun K' hK => ?_
 rw [if_pos (by simp [Region.wanted, hg])]
 unfold Oper.wp
 rw [hr]
 show K' (a.put o.dst undef) w'
 rw [hd]
 exact hK _ _ h
theorem op_call {j : Nat} {o : Oper} {K : Act → World → Prop} {a : Act} {w : World} {f : FuncId} {args : Array Value} (ho : ops[j]? = some o) (hg : o.guard = none) (hr : (execOp a.eval o).run P w = .ok (.enter f args) w)
 (hc : Calls P f args w fun e w' => ∃ v, e = .returned v ∧ K (a.put o.dst v) w') : wpOp P ops Q j K a w := by
 refine wpOp_step ho fun K' hK => ?_
 rw [if_pos (by simp [Region.wanted, hg])]
 unfold Oper.wp
 rw [hr]
 refine hc.mono ?_
 rintro e w' ⟨v, rfl, h⟩
 exact hK _ _ h
end
theorem ex_load {o : Oper} {a : Act} {w : World} {p : Addr} {v : Value} {x : Operand} (ho : o.op = .load 30 x) (he : a.eval x = .pointer (some p)) (hc : w.cell? p = some v) : (execOp a.eval o).run Tryz.prog w = .ok (.value v) w := by
 unfold execOp
 simp only [ho, he]
 go_simp
theorem ex_mf {o : Oper} {a : Act} {w : World} {v : Value} {x : Operand} {f : Nat} (ho : o.op = .makeFunc (.func f) #[x] #[]) (he : a.eval x = v) : (execOp a.eval o).run Tryz.prog w = .ok (.value (.func (.func f) #[v] #[])) w := by
 unfold execOp
 simp only [ho]
 simp [Instr.makeFunc, he]
theorem ex_mc {o : Oper} {a : Act} {w : World} {v : Value} {x : Operand} {f : Nat} (ho : o.op = .makeFunc (.func f) #[] #[x]) (he : a.eval x = v) : (execOp a.eval o).run Tryz.prog w = .ok (.value (.func (.func f) #[] #[v])) w := by
 unfold execOp
 simp only [ho]
 simp [Instr.makeFunc, he]
theorem ex_mm {o : Oper} {a : Act} {w : World} (ho : o.op = .makeMap 142 none) : (execOp a.eval o).run Tryz.prog w = .ok (.value (.map (some w.heap.size))) (w.alloc (.map #[] 0)) := by
 unfold execOp
 simp only [ho]
 go_simp
 rw [run_makeMap]
 rfl
theorem ex_mv {o : Oper} {a : Act} {w : World} {v : Value} {x : Operand} (ho : o.op = .move x ∨ o.op = .assign x) (he : a.eval x = v) : (execOp a.eval o).run Tryz.prog w = .ok (.value v) w := by
 unfold execOp
 rcases ho with ho | ho
 all_goals
  simp only [ho, he]
  rfl
theorem ex_ins {o : Oper} {a : Act} {w w' : World} {x y : Operand} {v m : Value} {n : Nat} (ho : o.op = .insert 142 x (.const (.int .u8 (n : Int))) y) (he : a.eval x = m) (hv : a.eval y = v) (hr : (Instr.mapUpdate 142 m (.int .u8 (n : Int)) v).run Tryz.prog w = .ok () w') :
 (execOp a.eval o).run Tryz.prog w = .ok .skip w' := by
 unfold execOp
 simp only [ho, he, hv]
 have e : a.eval (.const (.int .u8 (n : Int))) = .int .u8 (n : Int) := rfl
 simp only [e]
 simp [hr]
theorem ex_call {o : Oper} {a : Act} {w : World} {f : Nat} {args : Array Operand} {ts : Array TypeId} (ho : o.op = .call { callee := .value (.func f), args := args, argTypes := ts }) (hf : ∀ (vs : Array Value) (w : World), (callFunc f vs).run Tryz.prog w = .ok (.enter f vs) w) : (execOp a.eval o).run Tryz.prog w = .ok (.enter f (args.map a.eval)) w := by
 unfold execOp
 simp only [ho]
 go_simp
theorem cf_global : ∀ (vs : Array Value) (w : World), (callFunc 67 vs).run Tryz.prog w = .ok (.enter 67 vs) w := fun vs w => by go_simp
end Go.Proofs.YtabenhpjgjjgnaaGreatDoor
/- A machine's step makes a map of what all instructions do. -/
namespace Go.Proofs.YtabenhpjgjjgnaaGreatDoor
open Go.RowKit
set_option maxRecDepth 100000
inductive Kd where
 | mk
 | ld (d : Nat)
 | mf (d f s i : Nat)
 | cf (d f s g i k gf : Nat)
 | cb (d f s : Nat) (b : Bool) (i : Nat)
 | bs (d : Nat) (l : List Nat)
 | ct (d s n : Nat) (l : List Nat) (g i k : Nat)
 | c0 (d s n i : Nat)
 | m1 (d : Nat)
 | ins (key s i : Nat)
 | mv
 | asg
def Kd.dst : Kd → Option Nat
 | .mk => some 50
 | .ld d => some d
 | .mf d _ _ _ => some d
 | .cf d _ _ _ _ _ _ => some d
 | .cb d _ _ _ _ => some d
 | .bs d _ => some d
 | .ct d _ _ _ _ _ _ => some d
 | .c0 d _ _ _ => some d
 | .m1 d => some d
 | .ins _ _ _ => none
 | .mv => some 149
 | .asg => some 7
def Kd.op : Kd → Op
 | .mk => .makeMap 142 none
 | .ld _ => .load 30 (.tmp 1)
 | .mf _ f s _ => .makeFunc (.func f) #[.tmp s] #[]
 | .cf _ f s g _ _ _ => .call { callee := .value (.func f), args := #[.tmp s, .tmp g], argTypes := #[30, 138] }
 | .cb _ f s b _ => .call { callee := .value (.func f), args := #[.tmp s, .const (.bool b)], argTypes := #[30, 4] }
 | .bs _ l => .buildSlice 23 l.length (l.zipIdx.map fun p => (p.2, Operand.const (.int .i64 ((p.1 : Nat) : Int)))).toArray
 | .ct _ s n _ g _ _ => .call { callee := .value (.func 91), args := #[.tmp s, .const (.int .i64 (n : Int)), .tmp g], argTypes := #[30, 3, 23] }
 | .c0 _ s n _ => .call { callee := .value (.func 91), args := #[.tmp s, .const (.int .i64 (n : Int)), .const (.slice none 0 0)], argTypes := #[30, 3, 23] }
 | .m1 _ => .makeFunc (.func 99) #[] #[.tmp 1]
 | .ins key s _ => .insert 142 (.tmp 50) (.const (.int .u8 (key : Int))) (.tmp s)
 | .mv => .move (.tmp 50)
 | .asg => .assign (.tmp 149)
def Kd.srcs : Kd → List Nat
 | .mf _ _ _ i => [i]
 | .cf _ _ _ _ i k _ => [i, k]
 | .cb _ _ _ _ i => [i]
 | .ct _ _ _ _ _ i k => [i, k]
 | .c0 _ _ _ i => [i]
 | .ins _ _ i => [0, i]
 | .mv => [0]
 | .asg => [141]
 | _ => []
def kinds : List Kd := [.mk, .ld 51, .mf 52 66 51 1, .ins 40 52 2, .ld 53, .ld 54, .mf 55 68 54 5, .cf 56 67 53 55 4 6 68, .ins 41 56 7, .ld 57, .ld 58, .mf 59 69 58 10, .cf 60 67 57 59 9 11 69, .ins 42 60 12, .ld 61, .ld 62, .mf 63 70 62 15, .cf 64 67 61 63 14 16 70, .ins 43 64 17, .ld 65, .ld 66, .mf 67 68 66 20, .cf 68 71 65 67 19 21 68, .ins 44 68 22, .ld 69, .ld 70, .mf 71 69 70 25, .cf 72 71 69 71 24 26 69, .ins 45 72 27, .ld 73, .ld 74, .mf 75 70 74 30, .cf 76 71 73 75 29 31 70, .ins 46 76 32, .ld 77, .mf 78 72 77 34, .ins 47 78 35, .ld 79, .mf 80 73 79 37, .ins 48 80 38, .ld 81, .mf 82 74 81 40, .ins 49 82 41, .ld 83, .mf 84 75 83 43, .ins 50 84 44, .ld 85, .mf 86 76 85 46, .ins 51 86 47, .ld 87, .mf 88 77 87 49, .ins 52 88 50, .ld 89, .mf 90 78 89 52, .ins 53 90 53, .ld 91, .mf 92 79 91 55, .ins 54 92 56, .ld 93, .mf 94 80 93 58, .ins 55 94 59, .ld 95, .cb 96 81 95 true 61, .ins 56 96 62, .ld 97, .cb 98 81 97 false 64, .ins 57 98 65, .ld 99, .cb 100 82 99 true 67, .ins 58 100 68, .ld 101, .cb 102 82 101 false 70, .ins 59 102 71, .ld 103, .mf 104 83 103 73, .ins 60 104 74, .ld 105, .mf 106 84 105 76, .ins 61 106 77, .ld 107, .mf 108 85 107 79, .ins 62 108 80, .ld 109, .mf 110 86 109 82, .ins 63 110 83, .ld 111, .mf 112 87 111 85, .ins 64 112 86, .ld 113, .mf 114 88 113 88, .ins 65 114 89, .ld 115, .mf 116 89 115 91, .ins 66 116 92, .ld 117, .mf 118 90 117 94, .ins 67 118 95, .ld 119, .bs 120 [0, 0], .ct 121 119 1 [0, 0] 120 97 98, .ins 68 121 99, .ld 122, .c0 123 122 1 101, .ins 69 123 102, .ld 124, .bs 125 [0, 1], .ct 126 124 2 [0, 1] 125 104 105, .ins 70 126 106, .ld 127, .bs 128 [1, 0, 1], .ct 129 127 2 [1, 0, 1] 128 108 109, .ins 81 129 110, .ld 130, .mf 131 92 130 112, .ins 71 131 113, .ld 132, .mf 133 93 132 115, .ins 72 133 116, .ld 134, .mf 135 94 134 118, .ins 73 135 119, .ld 136, .mf 137 95 136 121, .ins 74 137 122, .ld 138, .mf 139 96 138 124, .ins 75 139 125, .ld 140, .mf 141 97 140 127, .ins 76 141 128, .ld 142, .cb 143 98 142 true 130, .ins 77 143 131, .ld 144, .cb 145 98 144 false 133, .ins 78 145 134, .m1 146, .ins 79 146 136, .ld 147, .mf 148 101 147 138, .ins 80 148 139, .mv, .asg]
def Kd.Wf : Kd → Prop
 | .mf _ _ s i => kinds[i]? = some (.ld s)
 | .cf _ f s g i k gf => (f = 67 ∨ f = 71) ∧ kinds[i]? = some (.ld s) ∧ ∃ s' i', kinds[k]? = some (.mf g gf s' i')
 | .cb _ f s _ i => (f = 81 ∨ f = 82 ∨ f = 98) ∧ kinds[i]? = some (.ld s)
 | .bs _ l => l = [0, 0] ∨ l = [0, 1] ∨ l = [1, 0, 1]
 | .ct _ s _ l g i k => kinds[i]? = some (.ld s) ∧ kinds[k]? = some (.bs g l)
 | .c0 _ s _ i => kinds[i]? = some (.ld s)
 | .ins _ s i => ∃ k, kinds[i]? = some k ∧ k.dst = some s
 | .mv => kinds[0]? = some .mk
 | .asg => kinds[141]? = some .mv
 | _ => True
theorem kinds_len : kinds.length = 143 := rfl
theorem kinds_wf : ∀ k ∈ kinds, k.Wf := by
 unfold kinds
 simp only [List.forall_mem_cons, List.not_mem_nil, false_imp_iff, implies_true, and_true]
 exact ⟨trivial, trivial, rfl, ⟨_, rfl, rfl⟩, trivial, trivial, rfl, ⟨.inl rfl, rfl, _, _, rfl⟩, ⟨_, rfl, rfl⟩, trivial, trivial, rfl, ⟨.inl rfl, rfl, _, _, rfl⟩, ⟨_, rfl, rfl⟩, trivial, trivial, rfl, ⟨.inl rfl, rfl, _, _, rfl⟩, ⟨_, rfl, rfl⟩, trivial, trivial, rfl, ⟨.inr rfl, rfl, _, _, rfl⟩, ⟨_, rfl, rfl⟩, trivial, trivial, rfl, ⟨.inr rfl, rfl, _, _, rfl⟩, ⟨_, rfl, rfl⟩, trivial, trivial, rfl, ⟨.inr rfl, rfl, _, _, rfl⟩, ⟨_, rfl, rfl⟩, trivial, rfl, ⟨_, rfl, rfl⟩, trivial, rfl, ⟨_, rfl, rfl⟩, trivial, rfl, ⟨_, rfl, rfl⟩, trivial, rfl, ⟨_, rfl, rfl⟩, trivial, rfl, ⟨_, rfl, rfl⟩, trivial, rfl, ⟨_, rfl, rfl⟩, trivial, rfl, ⟨_, rfl, rfl⟩, trivial, rfl, ⟨_, rfl, rfl⟩, trivial, rfl, ⟨_, rfl, rfl⟩, trivial, ⟨.inl rfl, rfl⟩, ⟨_, rfl, rfl⟩, trivial, ⟨.inl rfl, rfl⟩, ⟨_, rfl, rfl⟩, trivial, ⟨.inr (.inl rfl), rfl⟩, ⟨_, rfl, rfl⟩, trivial, ⟨.inr (.inl rfl), rfl⟩, ⟨_, rfl, rfl⟩, trivial, rfl, ⟨_, rfl, rfl⟩, trivial, rfl, ⟨_, rfl, rfl⟩, trivial, rfl, ⟨_, rfl, rfl⟩, trivial, rfl, ⟨_, rfl, rfl⟩, trivial, rfl, ⟨_, rfl, rfl⟩, trivial, rfl, ⟨_, rfl, rfl⟩, trivial, rfl, ⟨_, rfl, rfl⟩, trivial, rfl, ⟨_, rfl, rfl⟩, trivial, .inl rfl, ⟨rfl, rfl⟩, ⟨_, rfl, rfl⟩, trivial, rfl, ⟨_, rfl, rfl⟩, trivial, .inr (.inl rfl), ⟨rfl, rfl⟩, ⟨_, rfl, rfl⟩, trivial, .inr (.inr rfl), ⟨rfl, rfl⟩, ⟨_, rfl, rfl⟩, trivial, rfl, ⟨_, rfl, rfl⟩, trivial, rfl, ⟨_, rfl, rfl⟩, trivial, rfl, ⟨_, rfl, rfl⟩, trivial, rfl, ⟨_, rfl, rfl⟩, trivial, rfl, ⟨_, rfl, rfl⟩, trivial, rfl, ⟨_, rfl, rfl⟩, trivial, ⟨.inr (.inr rfl), rfl⟩, ⟨_, rfl, rfl⟩, trivial, ⟨.inr (.inr rfl), rfl⟩, ⟨_, rfl, rfl⟩, trivial, ⟨_, rfl, rfl⟩, trivial, rfl, ⟨_, rfl, rfl⟩, rfl, rfl⟩
def dstsB : Bool := (List.range 143).all fun j => match (kinds[j]?).bind Kd.dst with
 | some d => (kinds.findIdx fun k => k.dst == some d) == j && (d == 7 || decide (50 ≤ d)) && decide (d < 155)
 | none => true
def Kd.key : Kd → Option Nat
 | .ins key _ _ => some key
 | _ => none
def keysB : Bool := (List.range 143).all fun j => match (kinds[j]?).bind Kd.key with
 | some n => (kinds.findIdx fun k => k.key == some n) == j && decide (n < 256)
 | none => true
theorem dsts_ok : dstsB = true := by kernel_rfl
theorem keys_ok : keysB = true := by kernel_rfl
theorem dst_once {i j d : Nat} {k k' : Kd} (hi : kinds[i]? = some k) (hj : kinds[j]? = some k') (hk : k.dst = some d) (hk' : k'.dst = some d) : i = j := by
 have h := List.all_eq_true.1 dsts_ok
 have hi' : i < 143 := by have := (List.getElem?_eq_some_iff.1 hi).1; rw [kinds_len] at this; exact this
 have hj' : j < 143 := by have := (List.getElem?_eq_some_iff.1 hj).1; rw [kinds_len] at this; exact this
 have h1 := h i (List.mem_range.2 hi')
 have h2 := h j (List.mem_range.2 hj')
 simp only [hi, hj, Option.bind_some, hk, hk', Bool.and_eq_true, beq_iff_eq] at h1 h2
 omega
theorem dst_range {i d : Nat} {k : Kd} (hi : kinds[i]? = some k) (hk : k.dst = some d) : (d = 7 ∨ 50 ≤ d) ∧ d < 155 := by
 have h := List.all_eq_true.1 dsts_ok
 have hi' : i < 143 := by have := (List.getElem?_eq_some_iff.1 hi).1; rw [kinds_len] at this; exact this
 have h1 := h i (List.mem_range.2 hi')
 simp only [hi, Option.bind_some, hk, Bool.and_eq_true, beq_iff_eq, Bool.or_eq_true, decide_eq_true_eq] at h1
 omega
theorem key_once {i j key : Nat} {k k' : Kd} (hi : kinds[i]? = some k) (hj : kinds[j]? = some k') (hk : k.key = some key) (hk' : k'.key = some key) : i = j := by
 have h := List.all_eq_true.1 keys_ok
 have hi' : i < 143 := by have := (List.getElem?_eq_some_iff.1 hi).1; rw [kinds_len] at this; exact this
 have hj' : j < 143 := by have := (List.getElem?_eq_some_iff.1 hj).1; rw [kinds_len] at this; exact this
 have h1 := h i (List.mem_range.2 hi')
 have h2 := h j (List.mem_range.2 hj')
 simp only [hi, hj, Option.bind_some, hk, hk', Bool.and_eq_true, beq_iff_eq] at h1 h2
 omega
def opsOf (ops : Array Oper) : List (Option Nat × Op × Bool) := ops.toList.map fun o => (o.dst, o.op, o.guard.isNone)
def kindOps : List (Option Nat × Op × Bool) := kinds.map fun k => (k.dst, k.op, true)
def edgesB (ops : Array Oper) : Bool := (List.range 143).all fun j => match ops[j]?, kinds[j]? with
 | some o, some k => k.srcs.all (fun i => o.after.any fun e => Region.binds .any e && e.on == i) && o.after.all (fun e => !Region.binds .any e || decide (e.on < j))
 | _, _ => false
theorem edges_src {ops : Array Oper} (h : edgesB ops = true) {j : Nat} {o : Oper} {k : Kd} (ho : ops[j]? = some o) (hk : kinds[j]? = some k) {i : Nat} (hi : i ∈ k.srcs) : ∃ e ∈ o.after, Region.binds .any e = true ∧ e.on = i := by
 have hj' : j < 143 := by have := (List.getElem?_eq_some_iff.1 hk).1; rw [kinds_len] at this; exact this
 have h1 := List.all_eq_true.1 h j (List.mem_range.2 hj')
 simp only [ho, hk, Bool.and_eq_true] at h1
 obtain ⟨e, he, hb⟩ := Array.any_eq_true'.1 (List.all_eq_true.1 h1.1 i hi)
 simp only [Bool.and_eq_true, beq_iff_eq] at hb
 exact ⟨e, he, hb.1, hb.2⟩
theorem edges_wf {ops : Array Oper} (h : edgesB ops = true) (hs : ops.size = 143) (j : Nat) (o : Oper) (ho : ops[j]? = some o) (e : Edge) (he : e ∈ o.after) (hb : Region.binds .any e = true) : e.on < j := by
 have hj' : j < 143 := by have := (Array.getElem?_eq_some_iff.1 ho).1; omega
 have h1 := List.all_eq_true.1 h j (List.mem_range.2 hj')
 have hk : kinds[j]? = some kinds[j] := List.getElem?_eq_getElem _
 simp only [ho, hk, Bool.and_eq_true] at h1
 have := Array.all_eq_true_iff_forall_mem.1 h1.2 e he
 simpa [hb] using this
theorem op_kind {ops : Array Oper} (h : opsOf ops = kindOps) {j : Nat} {o : Oper} (ho : ops[j]? = some o) : ∃ k, kinds[j]? = some k ∧ o.dst = k.dst ∧ o.op = k.op ∧ o.guard = none := by
 have h1 : (opsOf ops)[j]? = some (o.dst, o.op, o.guard.isNone) := by
  unfold opsOf
  rw [List.getElem?_map, Array.getElem?_toList, ho]; rfl
 rw [h] at h1
 unfold kindOps at h1
 rw [List.getElem?_map] at h1
 cases hk : kinds[j]? with
 | none => rw [hk] at h1; cases h1
 | some k =>
   rw [hk] at h1
   simp only [Option.map_some, Option.some.injEq, Prod.mk.injEq] at h1
   exact ⟨k, rfl, h1.1.symm, h1.2.1.symm, Option.isNone_iff_eq_none.1 h1.2.2.symm⟩
theorem tgt40 {i s2 j : Nat} {k : Kd} (h : kinds[i]? = some (Kd.ins 40 s2 j)) (h2 : kinds[j]? = some k) : k = .mf 52 66 51 1 := by
 have e : kinds[3]? = some (Kd.ins 40 52 2) := rfl
 obtain rfl := key_once h e rfl rfl
 rw [e] at h; cases h; cases h2; rfl
theorem tgt41 {i s2 j : Nat} {k : Kd} (h : kinds[i]? = some (Kd.ins 41 s2 j)) (h2 : kinds[j]? = some k) : k = .cf 56 67 53 55 4 6 68 := by
 have e : kinds[8]? = some (Kd.ins 41 56 7) := rfl
 obtain rfl := key_once h e rfl rfl
 rw [e] at h; cases h; cases h2; rfl
theorem tgt42 {i s2 j : Nat} {k : Kd} (h : kinds[i]? = some (Kd.ins 42 s2 j)) (h2 : kinds[j]? = some k) : k = .cf 60 67 57 59 9 11 69 := by
 have e : kinds[13]? = some (Kd.ins 42 60 12) := rfl
 obtain rfl := key_once h e rfl rfl
 rw [e] at h; cases h; cases h2; rfl
theorem tgt43 {i s2 j : Nat} {k : Kd} (h : kinds[i]? = some (Kd.ins 43 s2 j)) (h2 : kinds[j]? = some k) : k = .cf 64 67 61 63 14 16 70 := by
 have e : kinds[18]? = some (Kd.ins 43 64 17) := rfl
 obtain rfl := key_once h e rfl rfl
 rw [e] at h; cases h; cases h2; rfl
theorem tgt44 {i s2 j : Nat} {k : Kd} (h : kinds[i]? = some (Kd.ins 44 s2 j)) (h2 : kinds[j]? = some k) : k = .cf 68 71 65 67 19 21 68 := by
 have e : kinds[23]? = some (Kd.ins 44 68 22) := rfl
 obtain rfl := key_once h e rfl rfl
 rw [e] at h; cases h; cases h2; rfl
theorem tgt45 {i s2 j : Nat} {k : Kd} (h : kinds[i]? = some (Kd.ins 45 s2 j)) (h2 : kinds[j]? = some k) : k = .cf 72 71 69 71 24 26 69 := by
 have e : kinds[28]? = some (Kd.ins 45 72 27) := rfl
 obtain rfl := key_once h e rfl rfl
 rw [e] at h; cases h; cases h2; rfl
theorem tgt46 {i s2 j : Nat} {k : Kd} (h : kinds[i]? = some (Kd.ins 46 s2 j)) (h2 : kinds[j]? = some k) : k = .cf 76 71 73 75 29 31 70 := by
 have e : kinds[33]? = some (Kd.ins 46 76 32) := rfl
 obtain rfl := key_once h e rfl rfl
 rw [e] at h; cases h; cases h2; rfl
theorem tgt47 {i s2 j : Nat} {k : Kd} (h : kinds[i]? = some (Kd.ins 47 s2 j)) (h2 : kinds[j]? = some k) : k = .mf 78 72 77 34 := by
 have e : kinds[36]? = some (Kd.ins 47 78 35) := rfl
 obtain rfl := key_once h e rfl rfl
 rw [e] at h; cases h; cases h2; rfl
theorem tgt48 {i s2 j : Nat} {k : Kd} (h : kinds[i]? = some (Kd.ins 48 s2 j)) (h2 : kinds[j]? = some k) : k = .mf 80 73 79 37 := by
 have e : kinds[39]? = some (Kd.ins 48 80 38) := rfl
 obtain rfl := key_once h e rfl rfl
 rw [e] at h; cases h; cases h2; rfl
theorem tgt49 {i s2 j : Nat} {k : Kd} (h : kinds[i]? = some (Kd.ins 49 s2 j)) (h2 : kinds[j]? = some k) : k = .mf 82 74 81 40 := by
 have e : kinds[42]? = some (Kd.ins 49 82 41) := rfl
 obtain rfl := key_once h e rfl rfl
 rw [e] at h; cases h; cases h2; rfl
theorem tgt50 {i s2 j : Nat} {k : Kd} (h : kinds[i]? = some (Kd.ins 50 s2 j)) (h2 : kinds[j]? = some k) : k = .mf 84 75 83 43 := by
 have e : kinds[45]? = some (Kd.ins 50 84 44) := rfl
 obtain rfl := key_once h e rfl rfl
 rw [e] at h; cases h; cases h2; rfl
theorem tgt51 {i s2 j : Nat} {k : Kd} (h : kinds[i]? = some (Kd.ins 51 s2 j)) (h2 : kinds[j]? = some k) : k = .mf 86 76 85 46 := by
 have e : kinds[48]? = some (Kd.ins 51 86 47) := rfl
 obtain rfl := key_once h e rfl rfl
 rw [e] at h; cases h; cases h2; rfl
theorem tgt52 {i s2 j : Nat} {k : Kd} (h : kinds[i]? = some (Kd.ins 52 s2 j)) (h2 : kinds[j]? = some k) : k = .mf 88 77 87 49 := by
 have e : kinds[51]? = some (Kd.ins 52 88 50) := rfl
 obtain rfl := key_once h e rfl rfl
 rw [e] at h; cases h; cases h2; rfl
theorem tgt53 {i s2 j : Nat} {k : Kd} (h : kinds[i]? = some (Kd.ins 53 s2 j)) (h2 : kinds[j]? = some k) : k = .mf 90 78 89 52 := by
 have e : kinds[54]? = some (Kd.ins 53 90 53) := rfl
 obtain rfl := key_once h e rfl rfl
 rw [e] at h; cases h; cases h2; rfl
theorem tgt54 {i s2 j : Nat} {k : Kd} (h : kinds[i]? = some (Kd.ins 54 s2 j)) (h2 : kinds[j]? = some k) : k = .mf 92 79 91 55 := by
 have e : kinds[57]? = some (Kd.ins 54 92 56) := rfl
 obtain rfl := key_once h e rfl rfl
 rw [e] at h; cases h; cases h2; rfl
theorem tgt55 {i s2 j : Nat} {k : Kd} (h : kinds[i]? = some (Kd.ins 55 s2 j)) (h2 : kinds[j]? = some k) : k = .mf 94 80 93 58 := by
 have e : kinds[60]? = some (Kd.ins 55 94 59) := rfl
 obtain rfl := key_once h e rfl rfl
 rw [e] at h; cases h; cases h2; rfl
theorem tgt56 {i s2 j : Nat} {k : Kd} (h : kinds[i]? = some (Kd.ins 56 s2 j)) (h2 : kinds[j]? = some k) : k = .cb 96 81 95 true 61 := by
 have e : kinds[63]? = some (Kd.ins 56 96 62) := rfl
 obtain rfl := key_once h e rfl rfl
 rw [e] at h; cases h; cases h2; rfl
theorem tgt57 {i s2 j : Nat} {k : Kd} (h : kinds[i]? = some (Kd.ins 57 s2 j)) (h2 : kinds[j]? = some k) : k = .cb 98 81 97 false 64 := by
 have e : kinds[66]? = some (Kd.ins 57 98 65) := rfl
 obtain rfl := key_once h e rfl rfl
 rw [e] at h; cases h; cases h2; rfl
theorem tgt58 {i s2 j : Nat} {k : Kd} (h : kinds[i]? = some (Kd.ins 58 s2 j)) (h2 : kinds[j]? = some k) : k = .cb 100 82 99 true 67 := by
 have e : kinds[69]? = some (Kd.ins 58 100 68) := rfl
 obtain rfl := key_once h e rfl rfl
 rw [e] at h; cases h; cases h2; rfl
theorem tgt59 {i s2 j : Nat} {k : Kd} (h : kinds[i]? = some (Kd.ins 59 s2 j)) (h2 : kinds[j]? = some k) : k = .cb 102 82 101 false 70 := by
 have e : kinds[72]? = some (Kd.ins 59 102 71) := rfl
 obtain rfl := key_once h e rfl rfl
 rw [e] at h; cases h; cases h2; rfl
theorem tgt60 {i s2 j : Nat} {k : Kd} (h : kinds[i]? = some (Kd.ins 60 s2 j)) (h2 : kinds[j]? = some k) : k = .mf 104 83 103 73 := by
 have e : kinds[75]? = some (Kd.ins 60 104 74) := rfl
 obtain rfl := key_once h e rfl rfl
 rw [e] at h; cases h; cases h2; rfl
theorem tgt61 {i s2 j : Nat} {k : Kd} (h : kinds[i]? = some (Kd.ins 61 s2 j)) (h2 : kinds[j]? = some k) : k = .mf 106 84 105 76 := by
 have e : kinds[78]? = some (Kd.ins 61 106 77) := rfl
 obtain rfl := key_once h e rfl rfl
 rw [e] at h; cases h; cases h2; rfl
theorem tgt62 {i s2 j : Nat} {k : Kd} (h : kinds[i]? = some (Kd.ins 62 s2 j)) (h2 : kinds[j]? = some k) : k = .mf 108 85 107 79 := by
 have e : kinds[81]? = some (Kd.ins 62 108 80) := rfl
 obtain rfl := key_once h e rfl rfl
 rw [e] at h; cases h; cases h2; rfl
theorem tgt63 {i s2 j : Nat} {k : Kd} (h : kinds[i]? = some (Kd.ins 63 s2 j)) (h2 : kinds[j]? = some k) : k = .mf 110 86 109 82 := by
 have e : kinds[84]? = some (Kd.ins 63 110 83) := rfl
 obtain rfl := key_once h e rfl rfl
 rw [e] at h; cases h; cases h2; rfl
theorem tgt64 {i s2 j : Nat} {k : Kd} (h : kinds[i]? = some (Kd.ins 64 s2 j)) (h2 : kinds[j]? = some k) : k = .mf 112 87 111 85 := by
 have e : kinds[87]? = some (Kd.ins 64 112 86) := rfl
 obtain rfl := key_once h e rfl rfl
 rw [e] at h; cases h; cases h2; rfl
theorem tgt65 {i s2 j : Nat} {k : Kd} (h : kinds[i]? = some (Kd.ins 65 s2 j)) (h2 : kinds[j]? = some k) : k = .mf 114 88 113 88 := by
 have e : kinds[90]? = some (Kd.ins 65 114 89) := rfl
 obtain rfl := key_once h e rfl rfl
 rw [e] at h; cases h; cases h2; rfl
theorem tgt66 {i s2 j : Nat} {k : Kd} (h : kinds[i]? = some (Kd.ins 66 s2 j)) (h2 : kinds[j]? = some k) : k = .mf 116 89 115 91 := by
 have e : kinds[93]? = some (Kd.ins 66 116 92) := rfl
 obtain rfl := key_once h e rfl rfl
 rw [e] at h; cases h; cases h2; rfl
theorem tgt67 {i s2 j : Nat} {k : Kd} (h : kinds[i]? = some (Kd.ins 67 s2 j)) (h2 : kinds[j]? = some k) : k = .mf 118 90 117 94 := by
 have e : kinds[96]? = some (Kd.ins 67 118 95) := rfl
 obtain rfl := key_once h e rfl rfl
 rw [e] at h; cases h; cases h2; rfl
theorem tgt68 {i s2 j : Nat} {k : Kd} (h : kinds[i]? = some (Kd.ins 68 s2 j)) (h2 : kinds[j]? = some k) : k = .ct 121 119 1 [0, 0] 120 97 98 := by
 have e : kinds[100]? = some (Kd.ins 68 121 99) := rfl
 obtain rfl := key_once h e rfl rfl
 rw [e] at h; cases h; cases h2; rfl
theorem tgt69 {i s2 j : Nat} {k : Kd} (h : kinds[i]? = some (Kd.ins 69 s2 j)) (h2 : kinds[j]? = some k) : k = .c0 123 122 1 101 := by
 have e : kinds[103]? = some (Kd.ins 69 123 102) := rfl
 obtain rfl := key_once h e rfl rfl
 rw [e] at h; cases h; cases h2; rfl
theorem tgt70 {i s2 j : Nat} {k : Kd} (h : kinds[i]? = some (Kd.ins 70 s2 j)) (h2 : kinds[j]? = some k) : k = .ct 126 124 2 [0, 1] 125 104 105 := by
 have e : kinds[107]? = some (Kd.ins 70 126 106) := rfl
 obtain rfl := key_once h e rfl rfl
 rw [e] at h; cases h; cases h2; rfl
theorem tgt81 {i s2 j : Nat} {k : Kd} (h : kinds[i]? = some (Kd.ins 81 s2 j)) (h2 : kinds[j]? = some k) : k = .ct 129 127 2 [1, 0, 1] 128 108 109 := by
 have e : kinds[111]? = some (Kd.ins 81 129 110) := rfl
 obtain rfl := key_once h e rfl rfl
 rw [e] at h; cases h; cases h2; rfl
theorem tgt71 {i s2 j : Nat} {k : Kd} (h : kinds[i]? = some (Kd.ins 71 s2 j)) (h2 : kinds[j]? = some k) : k = .mf 131 92 130 112 := by
 have e : kinds[114]? = some (Kd.ins 71 131 113) := rfl
 obtain rfl := key_once h e rfl rfl
 rw [e] at h; cases h; cases h2; rfl
theorem tgt72 {i s2 j : Nat} {k : Kd} (h : kinds[i]? = some (Kd.ins 72 s2 j)) (h2 : kinds[j]? = some k) : k = .mf 133 93 132 115 := by
 have e : kinds[117]? = some (Kd.ins 72 133 116) := rfl
 obtain rfl := key_once h e rfl rfl
 rw [e] at h; cases h; cases h2; rfl
theorem tgt73 {i s2 j : Nat} {k : Kd} (h : kinds[i]? = some (Kd.ins 73 s2 j)) (h2 : kinds[j]? = some k) : k = .mf 135 94 134 118 := by
 have e : kinds[120]? = some (Kd.ins 73 135 119) := rfl
 obtain rfl := key_once h e rfl rfl
 rw [e] at h; cases h; cases h2; rfl
theorem tgt74 {i s2 j : Nat} {k : Kd} (h : kinds[i]? = some (Kd.ins 74 s2 j)) (h2 : kinds[j]? = some k) : k = .mf 137 95 136 121 := by
 have e : kinds[123]? = some (Kd.ins 74 137 122) := rfl
 obtain rfl := key_once h e rfl rfl
 rw [e] at h; cases h; cases h2; rfl
theorem tgt75 {i s2 j : Nat} {k : Kd} (h : kinds[i]? = some (Kd.ins 75 s2 j)) (h2 : kinds[j]? = some k) : k = .mf 139 96 138 124 := by
 have e : kinds[126]? = some (Kd.ins 75 139 125) := rfl
 obtain rfl := key_once h e rfl rfl
 rw [e] at h; cases h; cases h2; rfl
theorem tgt76 {i s2 j : Nat} {k : Kd} (h : kinds[i]? = some (Kd.ins 76 s2 j)) (h2 : kinds[j]? = some k) : k = .mf 141 97 140 127 := by
 have e : kinds[129]? = some (Kd.ins 76 141 128) := rfl
 obtain rfl := key_once h e rfl rfl
 rw [e] at h; cases h; cases h2; rfl
theorem tgt77 {i s2 j : Nat} {k : Kd} (h : kinds[i]? = some (Kd.ins 77 s2 j)) (h2 : kinds[j]? = some k) : k = .cb 143 98 142 true 130 := by
 have e : kinds[132]? = some (Kd.ins 77 143 131) := rfl
 obtain rfl := key_once h e rfl rfl
 rw [e] at h; cases h; cases h2; rfl
theorem tgt78 {i s2 j : Nat} {k : Kd} (h : kinds[i]? = some (Kd.ins 78 s2 j)) (h2 : kinds[j]? = some k) : k = .cb 145 98 144 false 133 := by
 have e : kinds[135]? = some (Kd.ins 78 145 134) := rfl
 obtain rfl := key_once h e rfl rfl
 rw [e] at h; cases h; cases h2; rfl
theorem tgt79 {i s2 j : Nat} {k : Kd} (h : kinds[i]? = some (Kd.ins 79 s2 j)) (h2 : kinds[j]? = some k) : k = .m1 146 := by
 have e : kinds[137]? = some (Kd.ins 79 146 136) := rfl
 obtain rfl := key_once h e rfl rfl
 rw [e] at h; cases h; cases h2; rfl
theorem tgt80 {i s2 j : Nat} {k : Kd} (h : kinds[i]? = some (Kd.ins 80 s2 j)) (h2 : kinds[j]? = some k) : k = .mf 148 101 147 138 := by
 have e : kinds[140]? = some (Kd.ins 80 148 139) := rfl
 obtain rfl := key_once h e rfl rfl
 rw [e] at h; cases h; cases h2; rfl
end Go.Proofs.YtabenhpjgjjgnaaGreatDoor
/- A machine's step makes a map of what all instructions do. -/
namespace Go.Proofs.YtabenhpjgjjgnaaGreatDoor
open Go.RowKit
set_option maxRecDepth 100000
structure Stay (w w' : World) : Prop where
 size : w.heap.size ≤ w'.heap.size
 blk : ∀ (k : Nat) (cs : Array Value) (T : TypeId) (f : Nat × Nat), w.heap[k]? = some (.cells cs T f) → w'.heap[k]? = some (.cells cs T f)
theorem Stay.refl (w : World) : Stay w w := ⟨Nat.le_refl _, fun _ _ _ _ h => h⟩
theorem Stay.below {w w' : World} (h : Below w.heap.size w w') : Stay w w' := ⟨h.size, fun k cs T f hk => by
 have hlt : k < w.heap.size := by
  rcases Nat.lt_or_ge k w.heap.size with h' | h'
  ·exact h'
  ·rw [Array.getElem?_eq_none h'] at hk; cases hk
 rw [h.block k hlt]; exact hk⟩
theorem Stay.cell {w w' : World} (h : Stay w w') {a : Addr} {v : Value} (hc : w.cell? a = some v) : w'.cell? a = some v := by
 unfold World.cell? at hc ⊢
 split at hc
 ·rename_i hk
  rw [h.blk _ _ _ _ hk]; exact hc
 ·cases hc
theorem Stay.mask {w w' : World} (h : Stay w w') (bs : List Nat) : Reads (mask bs w) (mask bs w') := by
 refine ⟨fun b o v hc => ?_, by rw [mask_size, mask_size]; exact h.size⟩
 have hb := mask_notin hc
 have hc' := h.cell (mask_cell hc)
 unfold World.cell? at hc' ⊢
 rw [mask_at bs w' hb]; exact hc'
theorem Stay.fm {w : World} {r : Nat} {l l' : List (Nat × Value)} (h : FM w r l) : Stay w (putFM w r l') := by
 refine ⟨by unfold putFM; rw [putObj_size]; exact Nat.le_refl _, fun k cs T f hk => ?_⟩
 have hne : k ≠ r := fun e => by subst e; rw [show w.heap[k]? = _ from h] at hk; cases hk
 unfold putFM
 rw [putObj_other hne]; exact hk
theorem At.stay {K : MK} {S : St} {W W' : World} (h : At K S W) (s : Stay W W') (hq : W'.heap[K.bq]? = W.heap[K.bq]?) : At K S W' := by
 obtain ⟨A, c, h1, h2⟩ := h.box
 obtain ⟨re, im, hre, h3⟩ := h.term
 obtain ⟨cur, h4, h5⟩ := h.mem.blk
 exact ⟨⟨A, c, s.blk _ _ _ _ h1, h2.1.reads (s.mask _), h2.2⟩, ⟨re, im, hre, s.blk _ _ _ _ h3⟩, h.mem.later ((s.blk _ _ _ _ h4).trans h4.symm), h.hp.later rfl rfl ((s.blk _ _ _ _ h.hp.box).trans h.hp.box.symm) hq, h.mods.reads (s.mask _), h.order.reads (s.mask _), h.data.reads (s.mask _), h.first.reads (s.mask _), fun b hb => Nat.lt_of_lt_of_le (h.old b hb) s.size⟩
def Made2 (K : MK) (c : Nat) (u : Value) (v : Value) (w : World) : Prop := ∃ x y : Nat, v = .func (.func c) #[] #[.pointer (some ⟨x, 0, none⟩), .pointer (some ⟨y, 0, none⟩)] ∧ x ∉ K.bs ∧ y ∉ K.bs ∧ w.cell? ⟨x, 0, none⟩ = some (.pointer (some ⟨K.b, 0, none⟩)) ∧ w.cell? ⟨y, 0, none⟩ = some u
def Made3 (K : MK) (n : Nat) (l : List Nat) (v : Value) (w : World) : Prop := ∃ (x y z : Nat) (A : Option Addr) (c : Nat), v = .func (.func 155) #[] #[.pointer (some ⟨x, 0, none⟩), .pointer (some ⟨y, 0, none⟩), .pointer (some ⟨z, 0, none⟩)] ∧ x ∉ K.bs ∧ y ∉ K.bs ∧ z ∉ K.bs ∧
 w.cell? ⟨x, 0, none⟩ = some (.pointer (some ⟨K.b, 0, none⟩)) ∧ w.cell? ⟨y, 0, none⟩ = some (.int .i64 (n : Int)) ∧ w.cell? ⟨z, 0, none⟩ = some (.slice A l.length c) ∧ Ints (mask K.bs w) A (natI l)
def Row8 (K : MK) (l : List Nat) (v : Value) (w : World) : Prop := ∃ g : Nat, v = .slice (some ⟨g, 0, none⟩) l.length l.length ∧ Ints (mask K.bs w) (some ⟨g, 0, none⟩) (natI l)
def inner (f : Nat) : Nat := if f = 67 then 132 else if f = 71 then 134 else if f = 81 then 146 else if f = 82 then 147 else 162
def Spec (K : MK) (B0 r : Nat) (k : Kd) (v : Value) (w : World) : Prop := match k with
 | .mk => v = .map (some r)
 | .ld _ => v = .pointer (some ⟨K.b, 0, none⟩)
 | .mf _ f _ _ => v = .func (.func f) #[.pointer (some ⟨K.b, 0, none⟩)] #[]
 | .cf _ f _ _ _ _ gf => Made2 K (inner f) (.func (.func gf) #[.pointer (some ⟨K.b, 0, none⟩)] #[]) v w
 | .cb _ f _ b _ => Made2 K (inner f) (.bool b) v w
 | .bs _ l => Row8 K l v w
 | .ct _ _ n l _ _ _ => Made3 K n l v w
 | .c0 _ _ n _ => Made3 K n [] v w
 | .m1 _ => v = .func (.func 99) #[] #[.pointer (some ⟨B0, 0, none⟩)]
 | .ins _ _ _ => True
 | .mv => v = .map (some r)
 | .asg => v = .map (some r)
theorem Spec.stay {K : MK} {B0 r : Nat} {k : Kd} {v : Value} {w w' : World} (h : Spec K B0 r k v w) (s : Stay w w') : Spec K B0 r k v w' := by
 have two : ∀ {c : Nat} {u : Value}, Made2 K c u v w → Made2 K c u v w' := fun ⟨x, y, h1, h2, h3, h4, h5⟩ => ⟨x, y, h1, h2, h3, s.cell h4, s.cell h5⟩
 have three : ∀ {n : Nat} {l : List Nat}, Made3 K n l v w → Made3 K n l v w' := fun ⟨x, y, z, A, c, h1, h2, h3, h4, h5, h6, h7, h8⟩ => ⟨x, y, z, A, c, h1, h2, h3, h4, s.cell h5, s.cell h6, s.cell h7, h8.reads (s.mask _)⟩
 cases k with
 | cf => exact two h
 | cb => exact two h
 | ct => exact three h
 | c0 => exact three h
 | bs => obtain ⟨g, h1, h2⟩ := h; exact ⟨g, h1, h2.reads (s.mask _)⟩
 | _ => exact h
structure Map8 (K : MK) (W0 : World) (B0 r : Nat) (listed : Array Bool) (w : World) : Prop where
 far : W0.heap.size ≤ r
 has : ∃ l, FM w r l ∧ (l.map (·.1)).Nodup ∧ (∀ (i key s j : Nat), kinds[i]? = some (Kd.ins key s j) → (listed.getD i false = true ↔ key ∈ l.map (·.1))) ∧
  ∀ key v, (key, v) ∈ l → ∃ (i s j : Nat) (k : Kd), kinds[i]? = some (Kd.ins key s j) ∧ kinds[j]? = some k ∧ Spec K B0 r k v w
structure I8 (K : MK) (S : St) (W0 : World) (B0 p : Nat) (n : Int) (base : Array Value) (df : List Deferred) (r : Nat) (listed : Array Bool) (a : Act) (w : World) : Prop where
 size : a.tmps.size = 155
 defs : a.defers = df
 old : ∀ d, d < 50 → d ≠ 7 → a.tmps.getD d undef = base.getD d undef
 done : ∀ (i : Nat) (k : Kd) (d : Nat), kinds[i]? = some k → k.dst = some d → listed.getD i false = true → Spec K B0 r k (a.tmps.getD d undef) w
 at_ : At K S w
 only : Only K.bs W0 w
 box : w.cell? ⟨B0, 0, none⟩ = some (.pointer (some ⟨K.b, 0, none⟩))
 ins : w.cell? ⟨p, 0, none⟩ = some (.int .u8 n)
 map : listed.getD 0 false = true → Map8 K W0 B0 r listed w
 bqo : K.bq < W0.heap.size
section
variable {K : MK} {S : St} {W0 : World} {B0 p : Nat} {n : Int} {base : Array Value} {df : List Deferred} {r : Nat} {listed : Array Bool} {a : Act} {w w' : World}
theorem getD_put {a : Act} {d e : Nat} {v : Value} (h : e ≠ d) : (a.put (some d) v).tmps.getD e undef = a.tmps.getD e undef := by
 unfold Act.put
 simp [Array.getElem?_setIfInBounds_ne (Ne.symm h)]
theorem getD_put_self {a : Act} {d : Nat} {v : Value} (h : d < a.tmps.size) : (a.put (some d) v).tmps.getD d undef = v := by
 unfold Act.put
 simp [h]
theorem put_size (a : Act) (d : Option Nat) (v : Value) : (a.put d v).tmps.size = a.tmps.size := by unfold Act.put; cases d <;> simp
theorem put_defs (a : Act) (d : Option Nat) (v : Value) : (a.put d v).defers = a.defers := by unfold Act.put; cases d <;> rfl
theorem I8.put (h : I8 K S W0 B0 p n base df r listed a w) {j : Nat} {k : Kd} {d : Nat} {v : Value} (_hs : listed.size = 143) (hj : kinds[j]? = some k) (hd : k.dst = some d) (hl : listed.getD j false = false) (h0 : j ≠ 0) (hst : Stay w w') (hqb : w'.heap[K.bq]? = w.heap[K.bq]?) (ho : Only K.bs W0 w')
 (hm : ∀ l, FM w r l → FM w' r l) (hv : Spec K B0 r k v w') : I8 K S W0 B0 p n base df r (listed.setIfInBounds j true) (a.put (some d) v) w' := by
 have hj' : j < 143 := by have := (List.getElem?_eq_some_iff.1 hj).1; rw [kinds_len] at this; exact this
 have hdr := dst_range hj hd
 refine ⟨(put_size _ _ _).trans h.size, (put_defs _ _ _).trans h.defs, fun e he h7 => ?_, fun i k' e hi he hli => ?_, h.at_.stay hst hqb, ho, hst.cell h.box, hst.cell h.ins, fun h00 => ?_, h.bqo⟩
 ·rw [getD_put (by omega)]; exact h.old e he h7
 ·by_cases hij : i = j
  ·subst hij
   rw [hj] at hi; cases hi
   rw [hd] at he; cases he
   rw [getD_put_self (by rw [h.size]; exact hdr.2)]
   exact hv
  ·have hne : e ≠ d := fun e' => hij (dst_once hi hj (by rw [he, e']) hd)
   rw [getD_set_ne false (Ne.symm hij)] at hli
   rw [getD_put hne]
   exact (h.done i k' e hi he hli).stay hst
 ·rw [getD_set_ne false h0] at h00
  obtain ⟨hf, l, h1, h2, h3, h4⟩ := h.map h00
  refine ⟨hf, l, hm l h1, h2, fun i key s j' hi => ?_, fun key v' hkv => ?_⟩
  ·have hij : i ≠ j := fun e => by subst e; rw [hj] at hi; cases hi; cases hd
   rw [getD_set_ne false (Ne.symm hij)]
   exact h3 i key s j' hi
  ·obtain ⟨i, s, j', k', h5, h6, h7⟩ := h4 key v' hkv
   exact ⟨i, s, j', k', h5, h6, h7.stay hst⟩
theorem I8.put0 (h : I8 K S W0 B0 p n base df r listed a w) {j : Nat} {k : Kd} {d : Nat} {v : Value} (hs : listed.size = 143) (hj : kinds[j]? = some k) (hd : k.dst = some d) (hl : listed.getD j false = false) (h0 : j ≠ 0) (hv : Spec K B0 r k v w) :
 I8 K S W0 B0 p n base df r (listed.setIfInBounds j true) (a.put (some d) v) w := h.put hs hj hd hl h0 (Stay.refl _) rfl h.only (fun _ h => h) hv
theorem I8.putB (h : I8 K S W0 B0 p n base df r listed a w) {j : Nat} {k : Kd} {d : Nat} {v : Value} (hs : listed.size = 143) (hj : kinds[j]? = some k) (hd : k.dst = some d) (hl : listed.getD j false = false) (h0 : j ≠ 0) (hb : Below w.heap.size w w') (hv : Spec K B0 r k v w') :
 I8 K S W0 B0 p n base df r (listed.setIfInBounds j true) (a.put (some d) v) w' := h.put hs hj hd hl h0 (Stay.below hb) (hb.block _ h.at_.hp.map.lt) (h.only.trans (Only.of_below hb)) (fun _ h => h.later hb) hv
end
end Go.Proofs.YtabenhpjgjjgnaaGreatDoor
