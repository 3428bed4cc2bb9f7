/- A runner of closed calls, as a function that the kernel can run: values whose memory is the run's own, by numbers of its own; what it answers holds of the program in whatever world (proved elsewhere). No condition. -/
import GoSem.Step
namespace Go.Proofs.YtiibijhldlillaaGreat.Eng
noncomputable section

inductive T (α : Type) where
  | leaf
  | node (v : Option α) (l r : T α)
namespace T
variable {α : Type}
def get (t : T α) : List Bool → Option α := T.rec (fun _ => none) (fun v _ _ gl gr p => List.rec v (fun b p _ => Bool.rec (gr p) (gl p) b) p) t
def nodeP (p : List Bool) (v : Option α) : T α := List.rec (.node v .leaf .leaf) (fun b _ ih => Bool.rec (.node none .leaf ih) (.node none ih .leaf) b) p
def setP (t : T α) : List Bool → Option α → T α := T.rec nodeP (fun v l r sl sr p u => List.rec (.node u l r) (fun b p _ => Bool.rec (.node v l (sr p u)) (.node v (sl p u) r) b) p) t
end T
/-- A number's way down. -/
def pathF (n : Nat) : Nat → List Bool := Nat.rec (fun _ => []) (fun _ ih k => Nat.rec [] (fun k _ => Nat.beq (Nat.mod k 2) 0 :: ih (Nat.div k 2)) k) n
def path (k : Nat) : List Bool := pathF (k + 1) k
namespace T
variable {α : Type}
def at_ (t : T α) (k : Nat) : Option α := t.get (path k)
def set (t : T α) (k : Nat) (v : α) : T α := t.setP (path k) (some v)
def del (t : T α) (k : Nat) : T α := t.setP (path k) none
def ofL (l : List α) : Nat → T α → T α := List.rec (fun _ t => t) (fun a _ ih i t => ih (i + 1) (t.set i a)) l
end T

/-- A slice's capacity: so much; or to the end of its room, but for so much. -/
inductive Cp where
  | ex (c : Nat)
  | gap (g : Nat)
inductive AV where
  | bot
  | int (k : IntKind) (n : Int)
  | bool (b : Bool)
  | str (s : List Nat)
  | lit (v : Value)
  | ptr (b o : Nat)
  | slc (b o n : Nat) (c : Cp)
  | map (b : Nat)
  | agg (l : List AV)
  | tup (l : List AV)
  | ifc (t : Nat) (v : AV)
  | fn (f : Nat) (first cap : List AV)
  | cls (k : IntKind) (m r : Nat)
  | emp
  deriving Inhabited
/-- (The last values: a number below 256 of which the remainder alone is known; an empty slice somewhere.) -/
abbrev AV.elc {γ : Type} (cl : IntKind → Nat → Nat → γ) (em o : γ) (i : IntKind → Int → γ) (b : Bool → γ) (s : List Nat → γ) (v : Value → γ) (p : Nat → Nat → γ) (sl : Nat → Nat → Nat → Cp → γ) (m : Nat → γ) (ag tu : List AV → γ) (ic : Nat → AV → γ) (fn : Nat → List AV → List AV → γ) (x : AV) : γ :=
  AV.rec (motive_1 := fun _ => γ) (motive_2 := fun _ => PUnit) o i b s v p sl m (fun l _ => ag l) (fun l _ => tu l) (fun t a _ => ic t a) (fun f a c _ _ => fn f a c) cl em ⟨⟩ (fun _ _ _ _ => ⟨⟩) x
abbrev AV.el {γ : Type} (o : γ) (i : IntKind → Int → γ) (b : Bool → γ) (s : List Nat → γ) (v : Value → γ) (p : Nat → Nat → γ) (sl : Nat → Nat → Nat → Cp → γ) (m : Nat → γ) (ag tu : List AV → γ) (ic : Nat → AV → γ) (fn : Nat → List AV → List AV → γ) (x : AV) : γ :=
  AV.elc (fun _ _ _ => o) o o i b s v p sl m ag tu ic fn x
/-- A row of values by their slots, the newest first. -/
inductive A where
  | nil
  | cons (k : Nat) (v : AV) (t : A)
/-- What kind of keys a map has. -/
inductive KK where
  | int (k : IntKind) | str | bool
inductive AObj where
  | cells (c : T (List AV)) (n size t : Nat) (room : Bool)
  | map (k : KK) (es : List (AV × AV))
  | siter (s : List Nat) (pos : Nat)
structure St where
  heap : T AObj
  next : Nat
  wr : List Nat
inductive Nx where
  | val (v : AV) (s : St)
  | call (f : Nat) (args : List AV) (s : St)
  | defer (f : Nat) (args : List AV) (s : St)
  | recov (s : St)
  | pan (v : AV) (s : St)
  | bad (n : Nat)
/-- What a slot holds that holds nothing. -/
def und : AV := .tup []
def mapR {α β : Type} (f : α → β) (l : List α) : List β := List.rec [] (fun a _ ih => f a :: ih) l
def appR {α : Type} (l m : List α) : List α := List.rec m (fun a _ ih => a :: ih) l
def lenR {α : Type} (l : List α) : Nat := List.rec 0 (fun _ _ ih => ih + 1) l
def atR {α : Type} (l : List α) : Nat → Option α := List.rec (fun _ => none) (fun a _ ih n => Nat.rec (some a) (fun n _ => ih n) n) l
def dropR {α : Type} (l : List α) : Nat → List α := List.rec (fun _ => []) (fun a l ih n => Nat.rec (a :: l) (fun n _ => ih n) n) l
def takeR {α : Type} (l : List α) : Nat → Option (List α) := List.rec (fun n => Nat.rec (some []) (fun _ _ => none) n) (fun a _ ih n => Nat.rec (some []) (fun n _ => Option.rec none (fun r => some (a :: r)) (ih n)) n) l
/-- A row laid over a row's beginning. -/
def overR {α : Type} (v : List α) : List α → List α := List.rec (fun l => l) (fun a _ ih l => List.rec [] (fun _ l _ => a :: ih l) l) v
def setR {α : Type} (v : List α) (o : Nat) : List α → List α := Nat.rec (fun l => overR v l) (fun _ ih l => List.rec [] (fun a l _ => a :: ih l) l) o
def strV (s : ByteArray) : AV := .str (mapR UInt8.toNat s.data.toList)
def ofV1 : Value → AV
  | .int k n => .int k n
  | .bool b => .bool b
  | .string s => strV s
  | v => .lit v
def ofV : Value → AV
  | .agg cs => .agg (mapR ofV1 cs.toList)
  | v => ofV1 v
structure Tm where
  g : T AV
  l : A
def getA (t : A) : Nat → AV := A.rec (fun _ => .bot) (fun k v _ ih q => Bool.rec (ih q) v (Nat.beq k q)) t
def orUnd (o : Option AV) : AV := Option.rec .bot (fun v => v) o
inductive MV where
  | loc (k : Nat)
  | nam (p : List Bool)
  | val (v : AV)
/-- Which slots are read beyond the region that writes them. -/
abbrev NS := T Unit
def mvT (ns : NS) (t : Nat) : MV := Option.rec (.loc t) (fun _ => .nam (path t)) (ns.at_ t)
def mv (ns : NS) : Operand → MV
  | .tmp t => mvT ns t
  | .const v => .val (ofV v)
  | .global g => .val (Bool.rec .bot (.ptr g 0) (Nat.ble (g + 1) 1000))
  | .func f => .val (.fn f [] [])
def ev (x : MV) : Tm → AV := MV.rec (fun k tm => getA tm.l k) (fun p tm => orUnd (tm.g.get p)) (fun v _ => v) x
inductive MD where
  | none
  | loc (k : Nat)
  | nam (p : List Bool)
def mdT (ns : NS) (t : Nat) : MD := Option.rec (.loc t) (fun _ => .nam (path t)) (ns.at_ t)
def md (ns : NS) (o : Option Nat) : MD := Option.rec .none (mdT ns) o
def put (d : MD) : AV → Tm → Tm := MD.rec (fun _ tm => tm) (fun k v tm => ⟨tm.g, .cons k v tm.l⟩) (fun p v tm => ⟨tm.g.setP p (some v), tm.l⟩) d
def cellsOf : AV → List AV
  | .agg l => l
  | v => [v]
def litB : Value → Bool
  | .float _ _ => true
  | .complex _ _ _ => true
  | .pointer none => true
  | .slice none _ _ => true
  | .map none => true
  | .nilFunc => true
  | .nilIface => true
  | _ => false
/-- Is it the value of one cell? -/
def oneB : AV → Bool
  | .bot => false
  | .agg _ => false
  | .tup _ => false
  | .cls _ _ _ => false
  | .lit v => litB v
  | _ => true
def oneL (l : List AV) : Bool := List.rec true (fun a _ ih => and (oneB a) ih) l
def St.get (s : St) (b : Nat) : Option AObj := s.heap.at_ b
def St.put (s : St) (b : Nat) (o : AObj) : St := ⟨s.heap.set b o, s.next, b :: s.wr⟩
def St.del (s : St) (b : Nat) : St := ⟨s.heap.del b, s.next, b :: s.wr⟩
/-- A new object. -/
def St.add (s : St) (o : AObj) : St := ⟨s.heap.set s.next o, s.next + 1, s.wr⟩
def newPtr : St → AObj → Nx | s, o => .val (.ptr s.next 0) (s.add o)
def newSlc : St → AObj → Nat → Cp → Nx | s, o, n, c => .val (.slc s.next 0 n c) (s.add o)
/-- What is asked of a type. -/
structure TI where
  d : TypeDesc
  size : Nat
  agg : Bool
  zero : Option AV
  held : Bool
  guard : Bool
  bytes : Nat
structure Tb where
  ty : T TI
  fn : T Func
  ext : T Nat
  xf : Nat → List AV → St → Option (AV × St)
def descAgg : TypeDesc → Bool
  | .struct _ | .array _ _ => true
  | _ => false
def tiOf (P : Program) (t : Nat) (i : TypeInfo) : TI := ⟨(P.underlying t).getD .invalid, i.size, descAgg ((P.underlying t).getD .invalid), i.zero.map ofV, P.stoodInHeld t, P.eqGuardType P.depth t, i.bytes⟩
def tisOf (P : Program) : List TypeInfo → Nat → List TI
  | [], _ => []
  | i :: l, t => tiOf P t i :: tisOf P l (t + 1)
def tb (P : Program) (ext : T Nat) (xf : Nat → List AV → St → Option (AV × St)) : Tb := ⟨T.ofL (tisOf P P.types.toList 0) 0 .leaf, T.ofL P.funcs.toList 0 .leaf, ext, xf⟩
def bytesT (P : Tb) (t : Nat) : Nat := Option.rec 0 (fun i => i.bytes) (P.ty.at_ t)
def zero (P : Tb) (t : Nat) : Option AV := Option.rec none (fun i => i.zero) (P.ty.at_ t)
def sizeT (P : Tb) (t : Nat) : Nat := Option.rec 0 (fun i => i.size) (P.ty.at_ t)
def aggT (P : Tb) (t : Nat) : Bool := Option.rec false (fun i => i.agg) (P.ty.at_ t)
def isInv : TypeDesc → Bool
  | .invalid => true
  | _ => false
def knownT (P : Tb) (t : Nat) : Bool := Option.rec false (fun i => not (isInv i.d)) (P.ty.at_ t)
def dsc (P : Tb) (t : Nat) : TypeDesc := Option.rec .invalid (fun i => i.d) (P.ty.at_ t)
def vl : Option AV → Nat → St → Nx
  | some v, _, s => .val v s
  | none, n, _ => .bad n
def aggO (o : Option (List AV)) : Option AV := Option.rec none (fun l => some (.agg l)) o
def subR (l : List AV) (o n : Nat) : Option (List AV) := takeR (dropR l o) n
def loadAt : Option (List AV) → Bool → Nat → Nat → St → Nx
  | none, _, _, _, _ => .bad 105
  | some l, true, o, n, s => vl (aggO (subR l o n)) 101 s
  | some l, false, o, _, s => vl (atR l o) 102 s
def loadO : Option AObj → Bool → Nat → Nat → St → Nx
  | some (.cells c _ size _ _), g, n, o, s => loadAt (c.at_ (Nat.div o size)) g (Nat.mod o size) n s
  | _, _, _, _, _ => .bad 103
def bad3 (n : Nat) : Bool → Nat → St → Nx := fun _ _ _ => .bad n
def loadP (b o : Nat) (g : Bool) (n : Nat) (s : St) : Nx := loadO (s.get b) g n o s
def loadA (v : AV) : Bool → Nat → St → Nx := v.el (bad3 104) (fun _ _ => bad3 104) (fun _ => bad3 104) (fun _ => bad3 104) (fun _ => bad3 104) loadP (fun _ _ _ _ => bad3 104) (fun _ => bad3 104) (fun _ => bad3 104) (fun _ => bad3 104) (fun _ _ => bad3 104) (fun _ _ _ => bad3 104)
def storeE : Option (List AV) → T (List AV) → Nat → Nat → Nat → Bool → Nat → Nat → List AV → Nat → St → Nx
  | none, _, _, _, _, _, _, _, _, _, _ => .bad 114
  | some l, c, n, size, e, r, b, o, vs, m, s => Bool.rec (.bad 111) (.val und (s.put b (.cells (c.set (Nat.div o size) (setR vs (Nat.mod o size) l)) n size e r))) (and (oneL vs) (and (Nat.beq (lenR vs) m) (Nat.ble (Nat.add (Nat.mod o size) m) size)))
def storeO : Option AObj → Nat → Nat → Nat → AV → St → Nx
  | some (.cells c n size e r), m, b, o, v, s => storeE (c.at_ (Nat.div o size)) c n size e r b o (cellsOf v) m s
  | _, _, _, _, _, _ => .bad 112
def badS (n : Nat) : Nat → AV → St → Nx := fun _ _ _ => .bad n
def storeP (b o m : Nat) (v : AV) (s : St) : Nx := storeO (s.get b) m b o v s
def storeA (p : AV) : Nat → AV → St → Nx := p.el (badS 113) (fun _ _ => badS 113) (fun _ => badS 113) (fun _ => badS 113) (fun _ => badS 113) storeP (fun _ _ _ _ => badS 113) (fun _ => badS 113) (fun _ => badS 113) (fun _ => badS 113) (fun _ _ => badS 113) (fun _ _ _ => badS 113)
/-- Parts laid over a zero: place, size, part. -/
def fillQ (ps : List (Nat × Nat × AV)) : List AV → Option (List AV) :=
  List.rec (fun l => some l) (fun p _ ih l => Bool.rec none (ih (setR (cellsOf p.2.2) p.1 l)) (and (oneL (cellsOf p.2.2)) (and (Nat.beq (lenR (cellsOf p.2.2)) p.2.1) (Nat.ble (Nat.add p.1 (lenR (cellsOf p.2.2))) (lenR l))))) ps
def buildO : Option (List AV) → List (Nat × Nat × AV) → Option AV
  | some z, ps => Bool.rec none (aggO (fillQ ps z)) (oneL z)
  | none, _ => none
def reps (z : List AV) (n : Nat) : T (List AV) := Nat.rec .leaf (fun n ih => ih.set n z) n
/-- Elements from a place on. -/
def putE (l : List (List AV)) : Nat → T (List AV) → T (List AV) := List.rec (fun _ c => c) (fun a _ ih i c => ih (i + 1) (c.set i a)) l
def getE (c : T (List AV)) (n : Nat) : Nat → Option (List (List AV)) := Nat.rec (fun _ => some []) (fun _ ih i => Option.rec none (fun l => Option.rec none (fun r => some (l :: r)) (ih (i + 1))) (c.at_ i)) n
def fillE (size n : Nat) (ps : List (Nat × AV)) : T (List AV) → Option (T (List AV)) :=
  List.rec (fun c => some c) (fun p _ ih c => Bool.rec none (ih (c.set p.1 (cellsOf p.2))) (and (oneL (cellsOf p.2)) (and (Nat.beq (lenR (cellsOf p.2)) size) (Nat.ble (p.1 + 1) n)))) ps
def eqL (l : List Nat) : List Nat → Bool := List.rec (fun m => List.rec true (fun _ _ _ => false) m) (fun a _ ih m => List.rec false (fun b m _ => Bool.rec false (ih m) (Nat.beq a b)) m) l
def ltL (l : List Nat) : List Nat → Bool := List.rec (fun m => List.rec false (fun _ _ _ => true) m) (fun a _ ih m => List.rec false (fun b m _ => Bool.rec (Bool.rec false (ih m) (Nat.beq a b)) true (Nat.ble (a + 1) b)) m) l
/-- What is held against what, cell by cell. -/
inductive EK where
  | bool | int | str | cplx | ptr | iface | slc | map | fn
/-- The same, or not; none: not told here. -/
def eq1 : EK → AV → AV → Option Bool
  | .bool, .bool x, .bool y => some (x == y)
  | .int, .int k x, .int k' y => if k = k' then some (x == y) else none
  | .str, .str x, .str y => some (eqL x y)
  | .cplx, .lit (.complex .f64 x y), .lit (.complex .f64 x' y') => some (Op.floatEq .f64 x x' && Op.floatEq .f64 y y')
  | .ptr, .lit (.pointer none), .lit (.pointer none) => some true
  | .ptr, .lit (.pointer none), .ptr _ _ => some false
  | .ptr, .ptr _ _, .lit (.pointer none) => some false
  | .iface, .lit .nilIface, .lit .nilIface => some true
  | .iface, .lit .nilIface, .ifc _ _ => some false
  | .iface, .ifc _ _, .lit .nilIface => some false
  | .slc, .lit (.slice none 0 0), .lit (.slice none 0 0) => some true
  | .slc, .lit (.slice none 0 0), .slc .. => some false
  | .slc, .slc .., .lit (.slice none 0 0) => some false
  | .fn, .lit .nilFunc, .lit .nilFunc => some true
  | .fn, .lit .nilFunc, .fn .. => some false
  | .fn, .fn .., .lit .nilFunc => some false
  | .map, .lit (.map none), .lit (.map none) => some true
  | .map, .map _, .lit (.map none) => some false
  | .map, .lit (.map none), .map _ => some false
  | _, _, _ => none
/-- Each pair the same. -/
def eqS (ks : List EK) : List AV → List AV → Option Bool :=
  List.rec (fun l m => List.rec (List.rec (some true) (fun _ _ _ => none) m) (fun _ _ _ => none) l) (fun k _ ih l m => List.rec none (fun a l _ => List.rec none (fun b m _ => Option.rec none (fun r => Option.rec none (fun q => some (and r q)) (ih l m)) (eq1 k a b)) m) l) ks
/-- How a type's values are held against each other. -/
inductive EQ where
  | no
  | one (k : EK)
  | many (ks : List EK)
def eqA : EQ → AV → AV → Option Bool
  | .one k, a, b => eq1 k a b
  | .many ks, .agg l, .agg m => eqS ks l m
  | _, _, _ => none
def kkEq : KK → KK → Bool
  | .int a, .int b => decide (a = b)
  | .str, .str => true
  | .bool, .bool => true
  | _, _ => false
def fits : KK → AV → Bool
  | .int k, .int k' _ => decide (k = k')
  | .str, .str _ => true
  | .bool, .bool _ => true
  | _, _ => false
/-- A key is the same. -/
def eqV : AV → AV → Bool
  | .int _ x, .int _ y => x == y
  | .bool x, .bool y => x == y
  | .str x, .str y => eqL x y
  | _, _ => false
def bitOp : BinOp → IntKind → Int → Int → Option AV
  | .and, k, .ofNat a, .ofNat b => some (.int k (k.wrap (.ofNat (Nat.land a b))))
  | .or, k, .ofNat a, .ofNat b => some (.int k (k.wrap (.ofNat (Nat.lor a b))))
  | .xor, k, .ofNat a, .ofNat b => some (.int k (k.wrap (.ofNat (Nat.xor a b))))
  | .andNot, k, .ofNat a, .ofNat b => some (.int k (k.wrap (.ofNat (Nat.xor a (Nat.land a b)))))
  | _, _, _, _ => none
def intOp : BinOp → IntKind → Int → Int → Option AV
  | .add, k, x, y => some (.int k (k.wrap (x + y)))
  | .sub, k, x, y => some (.int k (k.wrap (x - y)))
  | .mul, k, x, y => some (.int k (k.wrap (x * y)))
  | .quo, k, x, y => if y = 0 then none else some (.int k (k.wrap (x.tdiv y)))
  | .rem, k, x, y => if y = 0 then none else some (.int k (x.tmod y))
  | .eql, _, x, y => some (.bool (x == y))
  | .neq, _, x, y => some (.bool (x != y))
  | .lss, _, x, y => some (.bool (decide (x < y)))
  | .leq, _, x, y => some (.bool (decide (x ≤ y)))
  | .gtr, _, x, y => some (.bool (decide (y < x)))
  | .geq, _, x, y => some (.bool (decide (y ≤ x)))
  | op, k, x, y => bitOp op k x y
def shl : Int → IntKind → Int → Option AV
  | .ofNat n, k, a => some (.int k (k.wrap (a * .ofNat (2 ^ min n k.bits))))
  | _, _, _ => none
def shr : Int → IntKind → Int → Option AV
  | .ofNat n, k, a => some (.int k (a.fdiv (.ofNat (2 ^ min n k.bits))))
  | _, _, _ => none
def strOp : BinOp → List Nat → List Nat → Option AV
  | .add, a, b => Bool.rec none (some (.str (appR a b))) (Nat.ble (Nat.add (lenR a) (lenR b)) 1000000000000)
  | .lss, a, b => some (.bool (ltL a b))
  | .gtr, a, b => some (.bool (ltL b a))
  | .leq, a, b => some (.bool (!ltL b a))
  | .geq, a, b => some (.bool (!ltL a b))
  | .eql, a, b => some (.bool (eqL a b))
  | .neq, a, b => some (.bool (!eqL a b))
  | _, _, _ => none
def boolO (o : Option Bool) : Option AV := Option.rec none (fun b => some (.bool b)) o
def notO (o : Option Bool) : Option AV := Option.rec none (fun b => some (.bool (!b))) o
def cplxOp : BinOp → AV → AV → Option AV
  | .eql, x, y => boolO (eq1 .cplx x y)
  | .neq, x, y => notO (eq1 .cplx x y)
  | _, _, _ => none
def anyOp : BinOp → EQ → AV → AV → Option AV
  | op, .one .cplx, x, y => cplxOp op x y
  | .eql, k, x, y => boolO (eqA k x y)
  | .neq, k, x, y => notO (eqA k x y)
  | _, _, _, _ => none
def numOp : BinOp → IntKind → Int → IntKind → Int → Option AV
  | .shl, k, a, _, b => shl b k a
  | .shr, k, a, _, b => shr b k a
  | op, k, a, k', b => if k = k' then intOp op k a b else none
def binI (k : IntKind) (a : Int) (y : AV) : BinOp → EQ → Option AV := y.el (fun _ _ => none) (fun k' b op _ => numOp op k a k' b) (fun _ _ _ => none) (fun _ _ _ => none) (fun _ _ _ => none) (fun _ _ _ _ => none) (fun _ _ _ _ _ _ => none) (fun _ _ _ => none) (fun _ _ _ => none) (fun _ _ _ => none) (fun _ _ _ _ => none) (fun _ _ _ _ _ => none)
def binS (a : List Nat) (y : AV) : BinOp → EQ → Option AV := y.el (fun _ _ => none) (fun _ _ _ _ => none) (fun _ _ _ => none) (fun b op _ => strOp op a b) (fun _ _ _ => none) (fun _ _ _ _ => none) (fun _ _ _ _ _ _ => none) (fun _ _ _ => none) (fun _ _ _ => none) (fun _ _ _ => none) (fun _ _ _ _ => none) (fun _ _ _ _ _ => none)
def remC : BinOp → IntKind → Nat → Nat → AV → Option AV
  | .rem, k, m, r, .int k' (.ofNat y) => if k = k' then Bool.rec none (some (.int k (.ofNat (Nat.mod r y)))) (and (Nat.ble 1 y) (Nat.beq (Nat.mod m y) 0)) else none
  | _, _, _, _, _ => none
def binA (x : AV) : AV → BinOp → EQ → Option AV := x.elc (fun k m r y op _ => remC op k m r y) (fun _ _ _ => none) (fun _ _ _ => none) binI (fun b y op k => anyOp op k (.bool b) y) binS (fun v y op k => anyOp op k (.lit v) y) (fun b o y op k => anyOp op k (.ptr b o) y) (fun b o n c y op k => anyOp op k (.slc b o n c) y) (fun b y op k => anyOp op k (.map b) y) (fun l y op k => anyOp op k (.agg l) y) (fun _ _ _ _ => none) (fun t v y op k => anyOp op k (.ifc t v) y) (fun f a c y op k => anyOp op k (.fn f a c) y)
def findM (k : AV) (es : List (AV × AV)) : Option AV := List.rec none (fun e _ ih => Bool.rec ih (some e.2) (eqV k e.1)) es
def putM (k v : AV) (es : List (AV × AV)) : List (AV × AV) := List.rec [(k, v)] (fun e es ih => Bool.rec (e :: ih) ((k, v) :: es) (eqV k e.1)) es
def idx : AV → Nat → Option Nat
  | .int _ (.ofNat i), len => Bool.rec none (some i) (Nat.ble (i + 1) len)
  | _, _ => none
def bnd : Option AV → Nat → Option Nat
  | none, d => some d
  | some (.int _ (.ofNat i)), _ => some i
  | _, _ => none
def byteC (b : Nat) : List AV := [.int .u8 (.ofNat b)]
def byteOf : List AV → Option Nat
  | [.int .u8 (.ofNat b)] => Bool.rec none (some b) (Nat.ble b 255)
  | _ => none
def toBytes (l : List (List AV)) : Option (List Nat) := List.rec (some []) (fun a _ ih => Option.rec none (fun b => Option.rec none (fun r => some (b :: r)) ih) (byteOf a)) l
def pairO (n : Nat) (o : Option (List (List AV))) : Option (List (List AV) × Nat) := Option.rec none (fun l => some (l, n)) o
def rowO : Option AObj → Nat → Nat → Nat → Option (List (List AV) × Nat)
  | some (.cells c _ size _ _), o, n, z => Bool.rec none (pairO n (getE c n (Nat.div o size))) (and (Nat.beq size z) (Nat.beq (Nat.mod o size) 0))
  | _, _, _, _ => none
/-- The elements of a slice or a string, each of so many cells. -/
def rowOf : AV → Nat → St → Option (List (List AV) × Nat)
  | .lit (.slice none 0 0), _, _ => some ([], 0)
  | .emp, _, _ => some ([], 0)
  | .str l, 1, _ => some (mapR byteC l, lenR l)
  | .slc b o n _, z, s => rowO (s.get b) o n z
  | _, _, _ => none
/-- The first elements. -/
def keepE (cs : T (List AV)) (n k : Nat) : Option (T (List AV)) := Bool.rec (Option.rec none (fun l => some (putE l 0 .leaf)) (getE cs n 0)) (some cs) (Nat.beq n k)
def appNew : Option (List (List AV)) → List (List AV) → Nat → Nat → Nat → Nat → St → Nx
  | some old, new, n, m, size, e, s => newSlc s (.cells (putE new n (putE old 0 .leaf)) (Nat.add n m) size e true) (Nat.add n m) (.gap 0)
  | none, _, _, _, _, _, _ => .bad 121
def appKept : Option (T (List AV)) → Nat → List (List AV) → Nat → Nat → Nat → Nat → St → Nx
  | some cs, b, new, n, m, size, e, s => newSlc (s.del b) (.cells (putE new n cs) (Nat.add n m) size e true) (Nat.add n m) (.gap 0)
  | none, _, _, _, _, _, _, _ => .bad 122
def appCap : Cp → T (List AV) → Nat → Nat → Nat → Bool → Nat → Nat → Nat → List (List AV) → Nat → St → Nx
  | .ex c, cs, k, size, e, r, b, o, n, new, m, s => Bool.rec (appNew (getE cs n (Nat.div o size)) new n m size e s) (Bool.rec (.bad 127) (.val (.slc b o (Nat.add n m) (.ex c)) (s.put b (.cells (putE new (Nat.add (Nat.div o size) n) cs) k size e r))) (Nat.ble (Nat.add (Nat.add (Nat.div o size) n) m) k)) (Nat.ble (Nat.add n m) c)
  | .gap g, cs, k, size, e, r, b, o, n, new, m, s => Bool.rec (.bad 123) (appKept (keepE cs n k) b new n m size e s) (and (and (Nat.beq o 0) (Nat.beq g 0)) (and r (Nat.ble n k)))
def appO : Option AObj → Cp → Nat → Nat → Nat → Nat → Nat → List (List AV) → Nat → St → Nx
  | some (.cells cs k size t r), c, b, o, n, e, z, new, m, s => Bool.rec (.bad 128) (appCap c cs k size t r b o n new m s) (and (and (Nat.beq size z) (Nat.beq t e)) (and (Nat.beq (Nat.mod o size) 0) (Nat.ble (Nat.add n m) 67108864)))
  | _, _, _, _, _, _, _, _, _, _ => .bad 124
def appTo : AV → Nat → Nat → List (List AV) → Nat → St → Nx
  | .lit (.slice none 0 0), e, z, new, m, s => Bool.rec (Bool.rec (.bad 129) (newSlc s (.cells (putE new 0 .leaf) m z e true) m (.gap 0)) (Nat.ble m 67108864)) (.val (.lit (.slice none 0 0)) s) (Nat.beq m 0)
  | .slc b o n c, e, z, new, m, s => appO (s.get b) c b o n e z new m s
  | _, _, _, _, _, _ => .bad 125
def appR2 : Option (List (List AV) × Nat) → AV → Nat → Nat → St → Nx
  | some p, x, e, z, s => appTo x e z p.1 p.2 s
  | none, _, _, _, _ => .bad 120
def appendA : AV → AV → Nat → Nat → St → Nx
  | x, y, e, z, s => appR2 (rowOf y z s) x e z s
def intO : Option Nat → St → Nx
  | some n, s => .val (.int .i64 (.ofNat n)) s
  | none, _ => .bad 150
def lenM : Option AObj → Option Nat
  | some (.map _ es) => some (lenR es)
  | _ => none
/-- Of what a length is asked. -/
inductive LK where
  | str | slc | map
def lenA : LK → AV → St → Option Nat
  | .str, .str l, _ => some (lenR l)
  | .slc, .slc _ _ n _, _ => some n
  | .slc, .lit (.slice none 0 0), _ => some 0
  | .slc, .emp, _ => some 0
  | .map, .lit (.map none), _ => some 0
  | .map, .map b, s => lenM (s.get b)
  | _, _, _ => none
def strO (o : Option (List Nat)) : Option AV := Option.rec none (fun l => some (.str l)) o
def cutS : Option Nat → Option Nat → List Nat → Option AV
  | some a, some b, l => Bool.rec none (strO (takeR (dropR l a) (Nat.sub b a))) (and (Nat.ble a b) (Nat.ble b (lenR l)))
  | _, _, _ => none
def cutC : Cp → Nat → Nat → Nat → Nat → Nat → Nat → Option AV
  | .ex c, b, o, _, size, i, j => Bool.rec none (some (.slc b (Bool.rec (Nat.add o (Nat.mul i size)) o (Nat.beq c i)) (Nat.sub j i) (.ex (Nat.sub c i)))) (and (Nat.ble i j) (Nat.ble j c))
  | .gap g, b, o, n, size, i, j => Bool.rec none (Bool.rec (Bool.rec (some .emp) (some (.slc b (Nat.add o (Nat.mul i size)) (Nat.sub j i) (.gap (Nat.add g i)))) (Nat.ble (i + 1) j)) (some (.slc b o j (.gap g))) (Nat.beq i 0)) (and (Nat.ble i j) (Nat.ble j n))
def cutE : Option Nat → Option Nat → Nat → Nat → Nat → Nat → Cp → Option AV
  | some i, some j, z, b, o, n, c => cutC c b o n z i j
  | _, _, _, _, _, _, _ => none
def cutN : Option Nat → Option Nat → AV → Option AV
  | some 0, some 0, x => some x
  | _, _, _ => none
def sliceA : AV → Option Nat → Option AV → Option AV → Option AV
  | .str l, none, lo, hi => cutS (bnd lo 0) (bnd hi (lenR l)) l
  | .slc b o n c, some z, lo, hi => cutE (bnd lo 0) (bnd hi n) z b o n c
  | .lit (.slice none 0 0), some _, lo, hi => cutN (bnd lo 0) (bnd hi 0) (.lit (.slice none 0 0))
  | _, _, _, _ => none
/-- Which conversion. -/
inductive CK where
  | int (k : IntKind) | float (k : FloatKind) | str | bytes (e : Nat) | ofBytes | rune | no
def byteT : TypeDesc → Bool
  | .int .u8 => true
  | _ => false
def ckOf : TypeDesc → TypeDesc → Tb → CK
  | .int _, .int k, _ => .int k
  | .int _, .float k, _ => .float k
  | .string, .string, _ => .str
  | .int _, .string, _ => .rune
  | .string, .slice e, P => Bool.rec .no (.bytes e) (byteT (dsc P e))
  | .slice e, .string, P => Bool.rec .no .ofBytes (byteT (dsc P e))
  | _, _, _ => .no
def convB : Option (List (List AV) × Nat) → St → Nx
  | some p, s => vl (strO (toBytes p.1)) 131 s
  | _, _ => .bad 132
def wideB : IntKind → Bool
  | .i8 => false
  | _ => true
def convA : CK → AV → St → Nx
  | .int k, .int _ n, s => .val (.int k (k.wrap n)) s
  | .float k, .int _ n, s => .val (.lit (.float k (k.nearest n))) s
  | .int k, .cls _ m r, s => Bool.rec (.bad 135) (.val (.cls k m r) s) (wideB k)
  | .str, .str l, s => .val (.str l) s
  | .rune, .int _ n, s => .val (strV (Utf8.encode n)) s
  | .bytes e, .str l, s => newSlc s (.cells (putE (mapR byteC l) 0 .leaf) (lenR l) 1 e true) (lenR l) (.gap 0)
  | .ofBytes, .slc b o n c, s => convB (rowOf (.slc b o n c) 1 s) s
  | .ofBytes, .lit (.slice none 0 0), s => .val (.str []) s
  | _, _, _ => .bad 134
def partA : Bool → Nat → List AV → Nat → Option AV
  | true, n, l, o => aggO (subR l o n)
  | false, _, l, o => atR l o
def callV : AV → List AV → St → Nx
  | .fn f first cap, args, s => .call f (appR first (appR args cap)) s
  | _, _, _ => .bad 140
def maxA : AV → AV → Nat → St → Nx
  | .int k x, .int _ y, 0, s => .val (.int k (if x < y then y else x)) s
  | .int k x, .int _ y, 1, s => .val (.int k (if y < x then y else x)) s
  | .lit (.float .f64 x), .lit (.float .f64 y), 2, s => .val (.lit (.complex .f64 x y)) s
  | _, _, _, _ => .bad 152
def fst (l : List AV) : AV := List.rec und (fun a _ _ => a) l
def snd (l : List AV) : AV := List.rec und (fun _ l _ => fst l) l
def oPick : AV → AV → AV → St → Nx
  | .bool true, a, _, s => .val a s
  | .bool false, _, b, s => .val b s
  | _, _, _, _ => .bad 1
def oneEl (l : List AV) : T (List AV) := .node (some l) .leaf .leaf
def oBox (l : List AV) (size t : Nat) (s : St) : Nx := Bool.rec (.bad 53) (newPtr s (.cells (oneEl l) 1 size t false)) (and (oneL l) (Nat.beq (lenR l) size))
def oAlloc : Option (List AV) → Nat → Nat → St → Nx
  | some z, size, t, s => oBox z size t s
  | none, _, _, _ => .bad 2
def rowMade : Option (T (List AV)) → Nat → Nat → Nat → St → Nx
  | some c, n, size, e, s => newSlc s (.cells c n size e false) n (.ex n)
  | none, _, _, _, _ => .bad 4
def oRow : Option (List AV) → Nat → Nat → Nat → List (Nat × AV) → St → Nx
  | some z, n, size, e, ps, s => Bool.rec (.bad 54) (rowMade (fillE size n ps (reps z n)) n size e s) (and (Nat.ble (Nat.mul n size) 16777216) (and (oneL z) (Nat.beq (lenR z) size)))
  | none, _, _, _, _, _ => .bad 5
def oNil : AV → St → Nx
  | .ptr b o, s => .val (.ptr b o) s
  | .fn f a c, s => .val (.fn f a c) s
  | .ifc t v, s => .val (.ifc t v) s
  | _, _ => .bad 7
def oUn : UnOp → AV → St → Nx
  | .not, .bool b, s => .val (.bool (!b)) s
  | .neg, .int k n, s => .val (.int k (k.wrap (0 - n))) s
  | _, _, _ => .bad 9
def oMade : Option (List AV) → Nat → Nat → Nat → Nat → Nat → St → Nx
  | some z, n, m, size, bytes, e, s => Bool.rec (.bad 10) (newSlc s (.cells (reps z m) m size e false) n (.ex m)) (and (and (Nat.ble n m) (and (Nat.ble m 1048576) (Nat.ble bytes 1048576))) (and (oneL z) (Nat.beq (lenR z) size)))
  | none, _, _, _, _, _, _ => .bad 11
def oMakeSlice : AV → AV → Option (List AV) → Nat → Nat → Nat → St → Nx
  | .int _ (.ofNat n), .int _ (.ofNat m), z, size, bytes, e, s => oMade z n m size bytes e s
  | _, _, _, _, _, _, _ => .bad 12
def ptrO : Option Nat → Nat → Nat → St → Nx
  | some k, b, o, s => .val (.ptr b (Nat.add o k)) s
  | none, _, _, _ => .bad 14
def badF (n : Nat) : Option Nat → St → Nx := fun _ _ => .bad n
def ptrF (b o : Nat) (k : Option Nat) (s : St) : Nx := ptrO k b o s
def oFieldAddr (v : AV) : Option Nat → St → Nx := v.el (badF 15) (fun _ _ => badF 15) (fun _ => badF 15) (fun _ => badF 15) (fun _ => badF 15) ptrF (fun _ _ _ _ => badF 15) (fun _ => badF 15) (fun _ => badF 15) (fun _ => badF 15) (fun _ _ => badF 15) (fun _ _ _ => badF 15)
/-- Where a field is: place, of many cells, size. -/
structure FI where
  off : Nat
  agg : Bool
  size : Nat
def partF : Option FI → List AV → St → Nx
  | some f, l, s => vl (partA f.agg f.size l f.off) 16 s
  | none, _, _ => .bad 17
def oField : AV → Option FI → St → Nx
  | .agg l, f, s => partF f l s
  | _, _, _ => .bad 18
def elO : Option Nat → Nat → Nat → Nat → St → Nx
  | some j, b, o, size, s => .val (.ptr b (Nat.add o (Nat.mul j size))) s
  | none, _, _, _, _ => .bad 19
def arrN : Option Nat → AV → AV → Nat → St → Nx
  | some n, .ptr b o, i, z, s => elO (idx i n) b o z s
  | _, _, _, _, _ => .bad 21
def oIndexAddr : AV → AV → Option Nat → Nat → St → Nx
  | .slc b o n _, i, none, z, s => elO (idx i n) b o z s
  | x, i, n, z, s => arrN n x i z s
def byteO (o : Option Nat) : Option AV := Option.rec none (fun b => some (.int .u8 (.ofNat b))) o
def idxS : Option Nat → List Nat → St → Nx
  | some j, l, s => vl (byteO (atR l j)) 22 s
  | none, _, _ => .bad 23
def idxA : Option Nat → Bool → Nat → List AV → St → Nx
  | some j, g, z, l, s => vl (partA g z l (Nat.mul j z)) 24 s
  | none, _, _, _, _ => .bad 25
def oIndex : AV → AV → Option Nat → Bool → Nat → St → Nx
  | .str l, i, none, _, _, s => idxS (idx i (lenR l)) l s
  | .agg l, i, some n, g, z, s => idxA (idx i n) g z l s
  | _, _, _, _, _, _ => .bad 26
def findO : Option AObj → KK → AV → Option (Option AV)
  | some (.map kk es), k, i => Bool.rec none (some (findM i es)) (and (kkEq kk k) (fits kk i))
  | _, _, _ => none
def foundIn : AV → KK → AV → St → Option (Option AV)
  | .map b, k, i, s => findO (s.get b) k i
  | .lit (.map none), k, i, _ => Bool.rec none (some none) (fits k i)
  | _, _, _, _ => none
def okTup (ok : Bool) (u : AV) (b : Bool) : AV := Bool.rec u (.tup [u, .bool b]) ok
def zeroTup : Option AV → Bool → St → Nx
  | some z, ok, s => .val (okTup ok z false) s
  | none, _, _ => .bad 27
def lookF : Option (Option AV) → Option AV → Bool → St → Nx
  | some (some u), _, ok, s => .val (okTup ok u true) s
  | some none, z, ok, s => zeroTup z ok s
  | none, _, _, _ => .bad 28
def updO : Option AObj → KK → AV → AV → Nat → St → Nx
  | some (.map kk es), c, k, x, b, s => Bool.rec (.bad 30) (.val und (s.put b (.map kk (putM k x es)))) (and (kkEq kk c) (fits kk k))
  | _, _, _, _, _, _ => .bad 31
def oUpdate : AV → KK → AV → AV → St → Nx
  | .map b, c, k, x, s => updO (s.get b) c k x b s
  | _, _, _, _, _ => .bad 32
def oRange : AV → St → Nx
  | .str l, s => newPtr s (.siter l 0)
  | _, _ => .bad 33
/-- A row of bytes as a string. -/
def bys (l : List Nat) : ByteArray := ⟨(l.map UInt8.ofNat).toArray⟩
def nextU : Nat × Nat → List Nat → Nat → Nat → St → Nx
  | (c, n), l, p, k, s => .val (.tup [.bool true, .int .i64 (.ofNat p), .int .i32 (.ofNat c)]) (s.put k (.siter l (p + n)))
def nextS : List Nat → List Nat → Nat → Nat → St → Nx
  | [], _, _, _, s => .val (.tup [.bool false]) s
  | b :: _, l, p, k, s => Bool.rec (nextU (Utf8.decode (bys l) p) l p k s) (.val (.tup [.bool true, .int .i64 (.ofNat p), .int .i32 (.ofNat b)]) (s.put k (.siter l (Nat.add p 1)))) (Nat.ble b 127)
def nextO : Option AObj → Bool → Nat → St → Nx
  | some (.siter l p), true, k, s => nextS (dropR l p) l p k s
  | _, _, _, _ => .bad 49
def oNext : AV → Bool → St → Nx
  | .ptr b 0, str, s => nextO (s.get b) str b s
  | _, _, _ => .bad 50
def missT : Bool → Option AV → St → Nx
  | true, z, s => zeroTup z true s
  | false, _, _ => .bad 36
def oAssert : AV → Option AV → Nat → Bool → St → Nx
  | .ifc u w, z, t, ok, s => Bool.rec (missT ok z s) (.val (okTup ok w true) s) (Nat.beq u t)
  | .lit .nilIface, z, _, ok, s => missT ok z s
  | _, _, _, _, _ => .bad 39
def oExtract : AV → Nat → St → Nx
  | .tup l, i, s => vl (atR l i) 40 s
  | _, _, _ => .bad 41
def evs (l : List MV) (tm : Tm) : List AV := List.rec [] (fun x _ ih => ev x tm :: ih) l
def evp (l : List (Nat × MV)) (tm : Tm) : List (Nat × AV) := List.rec [] (fun x _ ih => (x.1, ev x.2 tm) :: ih) l
def evq (l : List (Nat × Nat × MV)) (tm : Tm) : List (Nat × Nat × AV) := List.rec [] (fun x _ ih => (x.1, x.2.1, ev x.2.2 tm) :: ih) l
def evo (o : Option MV) (tm : Tm) : Option AV := Option.rec none (fun x => some (ev x tm)) o
def panA : AV → St → Nx
  | .ifc t v, s => .pan (.ifc t v) s
  | _, _ => .bad 46
def deferN : Nx → Nx
  | .call f a s => .defer f a s
  | _ => .bad 43
/-- An operation, its types looked up. -/
inductive MOp where
  | mov (x : MV)
  | pick (c a b : MV)
  | alloc (z : Option (List AV)) (size t : Nat)
  | box (size t : Nat) (x : MV)
  | build (z : Option (List AV)) (ps : List (Nat × Nat × MV))
  | row (z : Option (List AV)) (n size e : Nat) (ps : List (Nat × MV))
  | load (g : Bool) (size : Nat) (a : MV)
  | store (size : Nat) (a x : MV)
  | isNil (x : MV)
  | bin (op : BinOp) (k : EQ) (x y : MV)
  | un (op : UnOp) (x : MV)
  | conv (k : CK) (x : MV)
  | ifc (t : Nat) (x : MV)
  | func (f : Nat) (a c : List MV)
  | mkMap (k : KK)
  | mkSlice (z : Option (List AV)) (size bytes e : Nat) (l c : MV)
  | slice (size : Option Nat) (x : MV) (lo hi : Option MV)
  | fieldAddr (o : Option Nat) (x : MV)
  | field (f : Option FI) (x : MV)
  | indexAddr (n : Option Nat) (size : Nat) (x i : MV)
  | index (n : Option Nat) (g : Bool) (size : Nat) (x i : MV)
  | lookup (kk : KK) (z : Option AV) (ok : Bool) (x i : MV)
  | update (kk : KK) (m k x : MV)
  | range (x : MV)
  | next (x : MV) (str : Bool)
  | assert (z : Option AV) (t : Nat) (ok : Bool) (x : MV)
  | extract (x : MV) (i : Nat)
  | append (size e : Nat) (x y : MV)
  | len (k : LK) (x : MV)
  | mm (k : Nat) (x y : MV)
  | recov
  | call (f : MV) (a : List MV)
  | defer (f : MV) (a : List MV)
  | panic (x : MV)
  | none
def zeroC (P : Tb) (t : Nat) : Option (List AV) := Option.rec none (fun z => some (cellsOf z)) (zero P t)
def fsOf : TypeDesc → List Field
  | .struct fs => fs.toList
  | _ => []
def fiOf (P : Tb) (o : Option Field) : Option FI := Option.rec none (fun f => Bool.rec none (some ⟨f.offset, aggT P f.type, sizeT P f.type⟩) (knownT P f.type)) o
def offOf (P : Tb) (o : Option Field) : Option Nat := Option.rec none (fun f => Bool.rec none (some f.offset) (and (knownT P f.type) (Nat.ble 1 (sizeT P f.type)))) o
def structB : TypeDesc → Bool
  | .struct _ => true
  | _ => false
def kn (P : Tb) (t : Nat) (m : MOp) : MOp := Bool.rec .none m (knownT P t)
/-- All the fields' types are known. -/
def knF (P : Tb) (fs : List Field) : Bool := List.rec true (fun f _ ih => and (knownT P f.type) ih) fs
def partF2 (P : Tb) (x : MV) (o : Option Field) (r : Option (List (Nat × Nat × MV))) : Option (List (Nat × Nat × MV)) := Option.rec Option.none (fun f => Option.rec Option.none (fun l => some ((f.offset, sizeT P f.type, x) :: l)) r) o
def partsS (P : Tb) (ns : NS) (fs : List Field) (ps : List (Nat × Operand)) : Option (List (Nat × Nat × MV)) := List.rec (some []) (fun p _ ih => partF2 P (mv ns p.2) (atR fs p.1) ih) ps
def bldM (z : Option (List AV)) (o : Option (List (Nat × Nat × MV))) : MOp := Option.rec .none (fun l => .build z l) o
def bldOf (ns : NS) : TypeDesc → Option (List AV) → Tb → List (Nat × Operand) → MOp
  | .struct fs, z, P, ps => Bool.rec .none (bldM z (partsS P ns fs.toList ps)) (knF P fs.toList)
  | .array _ e, z, P, ps => kn P e (.build z (mapR (fun p => (Nat.mul p.1 (sizeT P e), sizeT P e, mv ns p.2)) ps))
  | _, _, _, _ => .none
def elS : TypeDesc → Nat
  | .slice e => e
  | .array _ e => e
  | .map _ e => e
  | _ => 0
def arrS : TypeDesc → Option Nat
  | .array n _ => some n
  | _ => Option.none
/-- Is a type's zero told, in as many cells as it has? -/
def zOk (z : Option (List AV)) (size : Nat) : Bool := Option.rec false (fun l => and (oneL l) (Nat.beq (lenR l) size)) z
def srcB : TypeDesc → Bool
  | .slice _ => true
  | .string => true
  | _ => false
def appC (P : Tb) (tx : TypeDesc) (x y : MV) : TypeDesc → MOp
  | .slice e => kn P e (Bool.rec .none (.append (sizeT P e) e x y) (and (and (srcB tx) (Nat.ble (bytesT P e) 1048576)) (and (Nat.ble 1 (sizeT P e)) (zOk (zeroC P e) (sizeT P e)))))
  | _ => .none
def lenC (x : MV) : TypeDesc → MOp
  | .string => .len .str x
  | .slice _ => .len .slc x
  | .map _ _ => .len .map x
  | _ => .none
def cmpB (ns : NS) : Builtin → List Operand → List Nat → Tb → MOp
  | .append, [x, y], [t, tx], P => appC P (dsc P tx) (mv ns x) (mv ns y) (dsc P t)
  | .len, [x], [t], P => lenC (mv ns x) (dsc P t)
  | .max, [x, y], _, _ => .mm 0 (mv ns x) (mv ns y)
  | .min, [x, y], _, _ => .mm 1 (mv ns x) (mv ns y)
  | .complex, [x, y], _, _ => .mm 2 (mv ns x) (mv ns y)
  | .recover, _, _, _ => .recov
  | _, _, _, _ => .none
def cmpC (ns : NS) : Callee → Call → Tb → MOp
  | .builtin b, c, P => cmpB ns b c.args.toList c.argTypes.toList P
  | .value f, c, _ => .call (mv ns f) (mapR (mv ns) c.args.toList)
  | _, _, _ => .none
def cmpD (ns : NS) : Callee → Call → MOp
  | .value f, c => .defer (mv ns f) (mapR (mv ns) c.args.toList)
  | _, _ => .none
def cmpF : Fn → List MV → List MV → MOp
  | .func f, a, c => .func f a c
  | _, _, _ => .none
def cmpS : Option Operand → MOp → MOp
  | Option.none, m => m
  | some _, _ => .none
def cutOf (P : Tb) (x : MV) (lo hi : Option MV) : TypeDesc → MOp
  | .string => .slice Option.none x lo hi
  | .slice e => kn P e (.slice (some (sizeT P e)) x lo hi)
  | _ => .none
def iaOf (P : Tb) (x i : MV) : TypeDesc → MOp
  | .slice e => kn P e (.indexAddr Option.none (sizeT P e) x i)
  | .array n e => kn P e (.indexAddr (some n) (sizeT P e) x i)
  | _ => .none
def ixOf (P : Tb) (x i : MV) : TypeDesc → MOp
  | .string => .index Option.none false 0 x i
  | .array n e => kn P e (.index (some n) (aggT P e) (sizeT P e) x i)
  | _ => .none
def mvo (ns : NS) (o : Option Operand) : Option MV := Option.rec Option.none (fun x => some (mv ns x)) o
def ifaceB : TypeDesc → Bool
  | .interface _ => true
  | _ => false
def isC : Operand → Bool
  | .const _ => true
  | _ => false
def ekOf : TypeDesc → Option EK
  | .bool => some .bool
  | .int _ => some .int
  | .string => some .str
  | .complex _ => some .cplx
  | .pointer _ => some .ptr
  | .interface _ => some .iface
  | .slice _ => some .slc
  | .map _ _ => some .map
  | .func _ _ _ => some .fn
  | _ => Option.none
/-- The kinds of a struct's cells: each field one cell, none without a name. -/
def ksC (k : Option EK) (r : Option (List EK)) : Option (List EK) := Option.rec Option.none (fun a => Option.rec Option.none (fun b => some (a :: b)) r) k
def ksF (P : Tb) (fs : List Field) : Nat → Option (List EK) := List.rec (fun _ => some []) (fun x _ ih at_ => Bool.rec Option.none (ksC (ekOf (dsc P x.type)) (ih (at_ + 1))) (and (Nat.beq x.offset at_) (not (x.name == "_")))) fs
def heldT (P : Tb) (t : Nat) : Bool := Option.rec true (fun i => i.held) (P.ty.at_ t)
def guardT (P : Tb) (t : Nat) : Bool := Option.rec true (fun i => i.guard) (P.ty.at_ t)
def manyO (o : Option (List EK)) : EQ := Option.rec .no .many o
def oneO (o : Option EK) : EQ := Option.rec .no .one o
def eqD (P : Tb) (t : Nat) (c : Bool) : TypeDesc → EQ
  | .struct fs => Bool.rec (manyO (ksF P fs.toList 0)) .no (or (heldT P t) (guardT P t))
  | .interface _ => Bool.rec (Bool.rec (.one .iface) .no (guardT P t)) (.one .iface) c
  | d => oneO (ekOf d)
def eqOf (P : Tb) (t : Nat) (c : Bool) : EQ := eqD P t c (dsc P t)
/-- A slice's type, its elements' known. -/
def slcK (P : Tb) : TypeDesc → MOp → MOp
  | .slice e, m => kn P e m
  | _, _ => .none
def kkD : TypeDesc → Option KK
  | .int k => some (.int k)
  | .string => some .str
  | .bool => some .bool
  | _ => Option.none
def kkOf (P : Tb) : TypeDesc → Option KK
  | .map k _ => kkD (dsc P k)
  | _ => Option.none
def mapM2 (f : KK → MOp) (o : Option KK) : MOp := Option.rec .none f o
def cmpMk : Option Operand → Option KK → MOp
  | Option.none, some k => .mkMap k
  | _, _ => .none
def rngC (x : MV) : TypeDesc → MOp
  | .string => .range x
  | _ => .none
def cmp (ns : NS) : Op → Tb → MOp
  | .move x, _ => .mov (mv ns x)
  | .assign x, _ => .mov (mv ns x)
  | .pick c a b, _ => .pick (mv ns c) (mv ns a) (mv ns b)
  | .alloc t, P => kn P t (.alloc (zeroC P t) (sizeT P t) t)
  | .box t x, P => kn P t (.box (sizeT P t) t (mv ns x))
  | .build t ps, P => bldOf ns (dsc P t) (zeroC P t) P ps.toList
  | .buildSlice t n ps, P => slcK P (dsc P t) (.row (zeroC P (elS (dsc P t))) n (sizeT P (elS (dsc P t))) (elS (dsc P t)) (mapR (fun p => (p.1, mv ns p.2)) ps.toList))
  | .load t a, P => kn P t (.load (aggT P t) (sizeT P t) (mv ns a))
  | .store t a x, P => kn P t (.store (sizeT P t) (mv ns a) (mv ns x))
  | .nilCheck x, _ => .isNil (mv ns x)
  | .binOp op t x y _, P => .bin op (eqOf P t (or (isC x) (isC y))) (mv ns x) (mv ns y)
  | .unOp op _ x, _ => .un op (mv ns x)
  | .convert a b x, P => .conv (ckOf (dsc P a) (dsc P b) P) (mv ns x)
  | .makeInterface t x, P => kn P t (Bool.rec (.ifc t (mv ns x)) .none (ifaceB (dsc P t)))
  | .makeFunc f a c, _ => cmpF f (mapR (mv ns) a.toList) (mapR (mv ns) c.toList)
  | .makeMap t r, P => cmpMk r (kkOf P (dsc P t))
  | .makeSlice t l c, P => slcK P (dsc P t) (.mkSlice (zeroC P (elS (dsc P t))) (sizeT P (elS (dsc P t))) (bytesT P (elS (dsc P t))) (elS (dsc P t)) (mv ns l) (mv ns c))
  | .slice t x lo hi m, P => cmpS m (cutOf P (mv ns x) (mvo ns lo) (mvo ns hi) (dsc P t))
  | .fieldAddr t x i, P => .fieldAddr (offOf P (atR (fsOf (dsc P t)) i)) (mv ns x)
  | .field t x i, P => .field (fiOf P (atR (fsOf (dsc P t)) i)) (mv ns x)
  | .indexAddr t x i, P => iaOf P (mv ns x) (mv ns i) (dsc P t)
  | .index t x i, P => ixOf P (mv ns x) (mv ns i) (dsc P t)
  | .lookup t x i ok, P => mapM2 (fun k => .lookup k (zero P (elS (dsc P t))) ok (mv ns x) (mv ns i)) (kkOf P (dsc P t))
  | .mapUpdate t m k x, P => mapM2 (fun c => .update c (mv ns m) (mv ns k) (mv ns x)) (kkOf P (dsc P t))
  | .insert t m k x, P => mapM2 (fun c => .update c (mv ns m) (mv ns k) (mv ns x)) (kkOf P (dsc P t))
  | .range t x, P => rngC (mv ns x) (dsc P t)
  | .next x str, _ => .next (mv ns x) str
  | .typeAssert x _ t ok, P => kn P t (Bool.rec (.assert (zero P t) t ok (mv ns x)) .none (ifaceB (dsc P t)))
  | .extract x i, _ => .extract (mv ns x) i
  | .call c, P => cmpC ns c.callee c P
  | .defer c, _ => cmpD ns c.callee c
  | .panic x, _ => .panic (mv ns x)
  | _, _ => .none
def opA (o : MOp) : Tm → St → Nx := MOp.rec
  (fun x tm s => .val (ev x tm) s)
  (fun c a b tm s => oPick (ev c tm) (ev a tm) (ev b tm) s)
  (fun z size t _ s => oAlloc z size t s)
  (fun size t x tm s => oBox (cellsOf (ev x tm)) size t s)
  (fun z ps tm s => vl (buildO z (evq ps tm)) 3 s)
  (fun z n size e ps tm s => oRow z n size e (evp ps tm) s)
  (fun g size a tm s => loadA (ev a tm) g size s)
  (fun size a x tm s => storeA (ev a tm) size (ev x tm) s)
  (fun x tm s => oNil (ev x tm) s)
  (fun op k x y tm s => vl (binA (ev x tm) (ev y tm) op k) 8 s)
  (fun op x tm s => oUn op (ev x tm) s)
  (fun k x tm s => convA k (ev x tm) s)
  (fun t x tm s => .val (.ifc t (ev x tm)) s)
  (fun f a c tm s => .val (.fn f (evs a tm) (evs c tm)) s)
  (fun k _ s => .val (.map s.next) (s.add (.map k [])))
  (fun z size bytes e l c tm s => oMakeSlice (ev l tm) (ev c tm) z size bytes e s)
  (fun size x lo hi tm s => vl (sliceA (ev x tm) size (evo lo tm) (evo hi tm)) 13 s)
  (fun o x tm s => oFieldAddr (ev x tm) o s)
  (fun f x tm s => oField (ev x tm) f s)
  (fun n size x i tm s => oIndexAddr (ev x tm) (ev i tm) n size s)
  (fun n g size x i tm s => oIndex (ev x tm) (ev i tm) n g size s)
  (fun kk z ok x i tm s => lookF (foundIn (ev x tm) kk (ev i tm) s) z ok s)
  (fun kk m k x tm s => oUpdate (ev m tm) kk (ev k tm) (ev x tm) s)
  (fun x tm s => oRange (ev x tm) s)
  (fun x str tm s => oNext (ev x tm) str s)
  (fun z t ok x tm s => oAssert (ev x tm) z t ok s)
  (fun x i tm s => oExtract (ev x tm) i s)
  (fun size e x y tm s => appendA (ev x tm) (ev y tm) e size s)
  (fun k x tm s => intO (lenA k (ev x tm) s) s)
  (fun k x y tm s => maxA (ev x tm) (ev y tm) k s)
  (fun _ s => .recov s)
  (fun f a tm s => callV (ev f tm) (evs a tm) s)
  (fun f a tm s => deferN (callV (ev f tm) (evs a tm) s))
  (fun x tm s => panA (ev x tm) s)
  (fun _ _ => .bad 45) o
abbrev Ds := List (Nat × List AV)
/-- How code ends. -/
inductive Ex where
  | normal | exit (id : Nat) | goto (l : Nat) | ret
/-- What a frame is at when it leaves: it returns; or it is in a panic, recovered or not. -/
inductive Md where
  | ret
  | pan (v : AV) (done : Bool)
inductive Out where
  | ok (e : Ex) (tm : Tm) (ds : Ds) (s : St)
  | ret (v : AV) (s : St)
  | pan (v : AV) (tm : Tm) (ds : Ds) (s : St)
  | okR (e : Ex) (tm : Tm) (m : Md) (s : St)
  | retR (m : Md) (s : St)
  | bad (n : List Nat)
/-- A function's operation: the work, where the answer goes, when it is done. -/
structure MO where
  op : MOp
  dst : MD
  guard : Option (MV × Bool)
def dstAt (l : List Oper) : Nat → Option Nat := List.rec (fun _ => none) (fun o _ ih n => Nat.rec o.dst (fun n _ => ih n) n) l
def gdOf (ns : NS) (all : List Oper) (p : Nat × Bool) : Option (MV × Bool) := some (Option.rec (.val und) (fun d => mvT ns d) (dstAt all p.1), p.2)
/-- An answer's slot is one of the function's. -/
def dstC (nt : Nat) (m : MOp) (d : Option Nat) : MOp := Option.rec m (fun d => Bool.rec .none m (Nat.ble (d + 1) nt)) d
def moOf (P : Tb) (ns : NS) (nt : Nat) (all : List Oper) (o : Oper) : MO := ⟨dstC nt (cmp ns o.op P) o.dst, md ns o.dst, Option.rec none (gdOf ns all) o.guard⟩
def mosOf (P : Tb) (ns : NS) (nt : Nat) (l : Array Oper) : List MO := mapR (moOf P ns nt l.toList) l.toList
/-- An operation of a region that draws its order: the work, which come ahead of it (by bits), what it looks at. -/
structure DO where
  mo : MO
  slot : Option Nat
  pre : Option Nat
  rd : List MV
/-- What such an operation has done: its number, where its answer went, the blocks that it looked at, those that it may have turned, the numbers that it took. -/
structure Rc where
  ix : Nat
  md : MD
  fp : List Nat
  tl : List Nat
  lo : Nat
  hi : Nat
  call : Bool
def bitR (m n : Nat) : Bool := Nat.beq (Nat.land 1 (Nat.shiftRight m n)) 1
def orP (p q : Option Nat) (i : Nat) : Option Nat := Option.rec none (fun p => Option.rec none (fun q => some (Nat.lor (Nat.lor p (Nat.shiftLeft 1 i)) q)) q) p
def preOf (ps : T Nat) (l : List Edge) : Option Nat := List.rec (some 0) (fun e _ ih => Bool.rec ih (orP (ps.at_ e.on) ih e.on) (Region.binds .any e)) l
def setO (o : Option Nat) (i : Nat) (ps : T Nat) : T Nat := Option.rec ps (fun p => ps.set i p) o
def dosL (P : Tb) (ns : NS) (nt : Nat) (all : List Oper) (l : List Oper) : Nat → T Nat → List DO :=
  List.rec (fun _ _ => []) (fun o _ ih i ps => ⟨moOf P ns nt all o, o.dst, preOf ps o.after.toList, mapR (mv ns) o.op.operands.toList⟩ :: ih (i + 1) (setO (preOf ps o.after.toList) i ps)) l
def dosOf (P : Tb) (ns : NS) (nt : Nat) (l : Array Oper) : List DO := dosL P ns nt l.toList l.toList 0 .leaf
inductive Task where
  | ops (l : List MO) (tm : Tm) (ds : Ds) (s : St)
  | dops (l : List DO) (rs : List Rc) (dn : Nat) (base : Nat) (tm : Tm) (s : St)
  | code (c : Code) (f : Nat) (tm : Tm) (ds : Ds) (s : St)
  | fn (f : Nat) (args : List AV) (s : St)
  | lv (f : Nat) (tm : Tm) (ds : Ds) (m : Md) (s : St)
  | rfn (f : Nat) (args : List AV) (m : Md) (s : St)
  | rcode (c : Code) (f : Nat) (tm : Tm) (m : Md) (s : St)
  | rops (l : List MO) (tm : Tm) (m : Md) (s : St)
/-- Is it this truth value? none: not told. -/
def isB (v : AV) : Bool → Option Bool := v.el (fun _ => none) (fun _ _ _ => none) (fun b w => some (Bool.rec (not w) w b)) (fun _ _ => none) (fun _ _ => none) (fun _ _ _ => none) (fun _ _ _ _ _ => none) (fun _ _ => none) (fun _ _ => none) (fun _ _ => some false) (fun _ _ _ => none) (fun _ _ _ _ => none)
def wantedA (g : Option (MV × Bool)) : Tm → Option Bool := Option.rec (fun _ => some true) (fun p tm => isB (ev p.1 tm) p.2) g
/-- The slots that code reads where it has not written them in the same region. -/
def tmpOf : Operand → List Nat → List Nat
  | .tmp t, l => t :: l
  | _, l => l
def insR (a : Nat) (l : List Nat) : Bool := List.rec false (fun b _ ih => Bool.rec ih true (Nat.beq a b)) l
def readsR (xs : List Operand) (done acc : List Nat) : List Nat := List.rec acc (fun x _ ih => List.rec ih (fun t _ _ => Bool.rec (t :: ih) ih (insR t done)) (tmpOf x [])) xs
def consD (o : Option Nat) (l : List Nat) : List Nat := Option.rec l (fun d => d :: l) o
def regR (l : List Oper) : List Nat → List Nat → List Nat := List.rec (fun _ acc => acc) (fun o _ ih done acc => ih (consD o.dst done) (readsR o.op.operands.toList done acc)) l
def readsC (c : Code) : List Nat → List Nat := Code.rec (fun acc => acc) (fun _ ops _ acc => regR ops.toList [] acc) (fun _ _ ia ib acc => ia (ib acc)) (fun x _ _ ia ib acc => ia (ib (tmpOf x acc))) (fun _ _ ih acc => ih acc) (fun _ ih acc => ih acc) (fun _ _ _ _ _ _ acc => acc) (fun _ acc => acc) (fun _ ih acc => ih acc) (fun _ acc => acc) (fun _ acc => acc) (fun acc => acc) (fun _ acc => acc) c
def resR : ResultVar → List Nat → List Nat
  | .tmp t, l => t :: l
  | .cell a _, l => a :: l
def nsL (l : List Nat) : NS := List.rec .leaf (fun a _ ih => ih.set a ()) l
def nsO (o : Option Func) : NS := Option.rec .leaf (fun fn => nsL (readsC (Option.rec .skip (fun c => c) fn.body) (List.rec [] (fun r _ ih => resR r ih) fn.results.toList))) o
def nsOf (P : Tb) (f : Nat) : NS := nsO (P.fn.at_ f)
def ntOf (P : Tb) (f : Nat) : Nat := Option.rec 0 (fun fn => fn.ntmps) (P.fn.at_ f)
def valO : Nx → Option AV
  | .val v _ => some v
  | _ => none
def consO : Option AV → Option (List AV) → Option (List AV)
  | some v, some l => some (v :: l)
  | _, _ => none
def res1 : ResultVar → NS → Tb → Tm → St → Option AV
  | .tmp t, ns, _, tm, _ => some (ev (mvT ns t) tm)
  | .cell a t, ns, P, tm, s => Bool.rec none (valO (loadA (ev (mvT ns a) tm) (aggT P t) (sizeT P t) s)) (knownT P t)
def resL (l : List ResultVar) (ns : NS) (P : Tb) (tm : Tm) (s : St) : Option (List AV) := List.rec (some []) (fun r _ ih => consO (res1 r ns P tm s) ih) l
def resT : Option (List AV) → Option AV
  | some [v] => some v
  | some l => some (.tup l)
  | none => none
abbrev Rn := Task → Out
def ret2 (r : Out) : Rn → List MO → MD → Tm → Ds → Out := Out.rec (fun _ _ _ _ _ _ _ _ _ => .bad [910]) (fun v s run l d tm ds => run (.ops l (put d v tm) ds s)) (fun v _ _ s _ _ _ tm ds => .pan v tm ds s) (fun _ _ _ _ _ _ _ _ _ => .bad [910]) (fun _ _ _ _ _ _ _ => .bad [910]) (fun e _ _ _ _ _ => .bad e) r
/-- Is it a call? -/
def callB : MOp → Bool
  | .call _ _ => true
  | _ => false
/-- What kind of act it is: a call, a deferred one, a panic, a recover. -/
def actB : MOp → Nat
  | .call _ _ => 1
  | .defer _ _ => 2
  | .panic _ => 3
  | .recov => 4
  | _ => 0
def nextOps (x : Nx) : MOp → Rn → List MO → MD → Tm → Ds → Out := Nx.rec
  (fun v s _ run l d tm ds => run (.ops l (put d v tm) ds s))
  (fun f a s m run l d tm ds => Bool.rec (.bad [916]) (ret2 (run (.fn f a s)) run l d tm ds) (callB m))
  (fun f a s m run l d tm ds => Bool.rec (.bad [913]) (run (.ops l (put d und tm) ((f, a) :: ds) s)) (Nat.beq (actB m) 2))
  (fun _ _ _ _ _ _ _ => .bad [914])
  (fun v s m _ _ _ tm ds => Bool.rec (.bad [915]) (.pan v tm ds s) (Nat.beq (actB m) 3))
  (fun e _ _ _ _ _ _ => .bad [e]) x
def goB (b : Bool) : MO → Rn → List MO → Tm → Ds → St → Out := Bool.rec (fun o run l tm ds s => run (.ops l (put o.dst und tm) ds s)) (fun o run l tm ds s => nextOps (opA o.op tm s) o.op run l o.dst tm ds) b
def goOp (b : Option Bool) : MO → Rn → List MO → Tm → Ds → St → Out := Option.rec (fun _ _ _ _ _ _ => .bad [904]) goB b
/-- Objects laid over objects: those of the given numbers. -/
def lay (src : T AObj) (l : List Nat) (dst : T AObj) : T AObj := List.rec dst (fun b _ ih => ih.setP (path b) (src.at_ b)) l
def blkA (v : AV) : List Nat := v.el [] (fun _ _ => []) (fun _ => []) (fun _ => []) (fun _ => []) (fun b _ => [b]) (fun b _ _ _ => [b]) (fun b => [b]) (fun _ => []) (fun _ => []) (fun _ _ => []) (fun _ _ _ => [])
def fpR (l : List MV) (tm : Tm) : List Nat := List.rec [] (fun x _ ih => appR (blkA (ev x tm)) ih) l
def unR (pre : Nat) (rs : List Rc) : List Rc := List.rec [] (fun r _ ih => Bool.rec (r :: ih) ih (bitR pre r.ix)) rs
def botU (rs : List Rc) (tm : Tm) : Tm := List.rec tm (fun r _ ih => put r.md .bot ih) rs
/-- The slots of those behind that do not wait for it. -/
def latO (d : MD) (tm : Tm) (ix : Nat) (p : Option Nat) : Tm := Option.rec (put d .bot tm) (fun p => Bool.rec (put d .bot tm) tm (bitR p ix)) p
def latR (ix : Nat) (l : List DO) (tm : Tm) : Tm := List.rec tm (fun o _ ih => latO o.mo.dst ih ix o.pre) l
def flatR (f : Rc → List Nat) (rs : List Rc) : List Nat := List.rec [] (fun r _ ih => appR (f r) ih) rs
def anyR {α : Type} (p : α → Bool) (l : List α) : Bool := List.rec false (fun a _ ih => or (p a) ih) l
def disj (l m : List Nat) : Bool := List.rec true (fun a _ ih => and (not (insR a m)) ih) l
def nilB {α : Type} (l : List α) : Bool := List.rec true (fun _ _ _ => false) l
def numR (lo n : Nat) : List Nat := Nat.rec (fun _ => []) (fun _ ih lo => lo :: ih (lo + 1)) n lo
def inB (lo hi b : Nat) : Bool := and (Nat.ble lo b) (Nat.ble (b + 1) hi)
def okN (un : List Rc) (fp lg : List Nat) : Bool := and (disj fp (flatR Rc.tl un)) (and (disj lg (appR (flatR Rc.fp un) (flatR Rc.tl un))) (not (anyR (fun r => and r.call (or (not (nilB lg)) (anyR (inB r.lo r.hi) fp))) un)))
def okC (un : List Rc) (nx : Nat) (lg : List Nat) : Bool := and (not (anyR Rc.call un)) (and (not (anyR (Nat.ble nx) (flatR Rc.tl un))) (disj (appR (flatR Rc.fp un) (flatR Rc.tl un)) lg))
def oldR (base : Nat) (l acc : List Nat) : List Nat := List.rec acc (fun b _ ih => Bool.rec ih (b :: ih) (Nat.ble (b + 1) base)) l
/-- On with the rest, an operation's answer laid. -/
def goD (run : Rn) (l : List DO) (rs : List Rc) (dn base : Nat) (tm : Tm) (d : MD) (v : AV) (r : Rc) (s : St) : Out := run (.dops l (r :: rs) dn base (put d v tm) s)
def ixR (rs : List Rc) : Nat := List.rec 0 (fun r _ _ => r.ix + 1) rs
def endN (un : List Rc) (fp : List Nat) (run : Rn) (l : List DO) (rs : List Rc) (dn base : Nat) (tm : Tm) (d : MD) (s : St) (v : AV) (g : St) : Out :=
  Bool.rec (.bad [920]) (goD run l rs dn base tm d v ⟨ixR rs, d, fp, appR g.wr (numR s.next (Nat.sub g.next s.next)), s.next, g.next, false⟩ ⟨lay g.heap (appR g.wr (numR s.next (Nat.sub g.next s.next))) s.heap, g.next, oldR base g.wr s.wr⟩) (and (Nat.ble s.next g.next) (okN un fp g.wr))
def endC (un : List Rc) (run : Rn) (l : List DO) (rs : List Rc) (dn base : Nat) (tm : Tm) (d : MD) (s : St) (v : AV) (g : St) : Out :=
  Bool.rec (.bad [921]) (goD run l rs dn base tm d v ⟨ixR rs, d, [], g.wr, s.next, g.next, true⟩ ⟨lay s.heap (flatR Rc.tl un) g.heap, g.next, oldR base g.wr s.wr⟩) (and (Nat.ble s.next g.next) (okC un s.next g.wr))
def retD : Out → (AV → St → Out) → (AV → St → Out) → Out
  | .ret v g, k, _ => k v g
  | .pan v _ _ g, _, q => q v g
  | .bad e, _, _ => .bad e
  | _, _, _ => .bad [910]
/-- A panic, where all that is ahead is done and all that is behind waits for it. -/
def latB (ix : Nat) (l : List DO) : Bool := List.rec true (fun o _ ih => and (Option.rec false (fun p => bitR p ix) o.pre) ih) l
def panC (un : List Rc) (l : List DO) (rs : List Rc) (base : Nat) (tm : Tm) (s : St) (v : AV) (g : St) : Out :=
  Bool.rec (.bad [925]) (.pan v tm [] ⟨g.heap, g.next, oldR base g.wr s.wr⟩) (and (nilB un) (latB (ixR rs) l))
def callD (x : Nx) (run : Rn) (k q : AV → St → Out) : Out := Nx.rec (fun _ _ => .bad [922]) (fun f a s => retD (run (.fn f a s)) k q) (fun _ _ _ => .bad [913]) (fun _ => .bad [914]) (fun _ _ => .bad [915]) (fun e => .bad [e]) x
def valD (x : Nx) (k : AV → St → Out) : Out := Nx.rec k (fun _ _ _ => .bad [916]) (fun _ _ _ => .bad [913]) (fun _ => .bad [914]) (fun _ _ => .bad [915]) (fun e => .bad [e]) x
def doD (call : Bool) (un : List Rc) (o : DO) (tb : Tm) (run : Rn) (l : List DO) (rs : List Rc) (dn base : Nat) (tm : Tm) (s : St) : Out :=
  Bool.rec (valD (opA o.mo.op tb ⟨lay s.heap (fpR o.rd tb) .leaf, s.next, []⟩) (endN un (fpR o.rd tb) run l rs dn base tm o.mo.dst s)) (callD (opA o.mo.op tb ⟨lay .leaf (flatR Rc.tl un) s.heap, s.next, []⟩) run (endC un run l rs dn base tm o.mo.dst s) (panC un l rs base tm s)) call
def wantD (b : Option Bool) (un : List Rc) (o : DO) (tb : Tm) (run : Rn) (l : List DO) (rs : List Rc) (dn base : Nat) (tm : Tm) (s : St) : Out :=
  Option.rec (.bad [904]) (fun b => Bool.rec (goD run l rs dn base tm o.mo.dst und ⟨ixR rs, o.mo.dst, [], [], s.next, s.next, false⟩ s) (doD (callB o.mo.op) un o tb run l rs dn base tm s) b) b
def dnO (d : Option Nat) (dn : Nat) : Option Nat := Option.rec (some dn) (fun d => Bool.rec (some (Nat.lor dn (Nat.shiftLeft 1 d))) none (bitR dn d)) d
def preD (pre : Option Nat) (dn : Option Nat) (o : DO) (run : Rn) (l : List DO) (rs : List Rc) (base : Nat) (tm : Tm) (s : St) : Out :=
  Option.rec (.bad [923]) (fun p => Option.rec (.bad [924]) (fun dn => wantD (wantedA o.mo.guard (botU (unR p rs) (latR (ixR rs) l tm))) (unR p rs) o (botU (unR p rs) (latR (ixR rs) l tm)) run l rs dn base tm s) dn) pre
def stepD (l : List DO) : Rn → List Rc → Nat → Nat → Tm → St → Out := List.rec (fun _ _ _ _ tm s => .ok .normal tm [] s) (fun o l _ run rs dn base tm s => preD o.pre (dnO o.slot dn) o run l rs base tm s) l
def stepOps (l : List MO) : Rn → Tm → Ds → St → Out := List.rec (fun _ tm ds s => .ok .normal tm ds s) (fun o l _ run tm ds s => goOp (wantedA o.guard tm) o run l tm ds s) l
def badIn : Out → Nat → Out
  | .bad e, id => .bad (id :: e)
  | r, _ => r
def setDs : Out → Ds → Out
  | .ok e tm [] s, ds => .ok e tm ds s
  | .pan v tm [] s, ds => .pan v tm ds s
  | .bad e, _ => .bad e
  | _, _ => .bad [940]
def seqO : Out → Rn → Code → Nat → Out
  | .ok .normal tm ds s, run, b, f => run (.code b f tm ds s)
  | r, _, _, _ => r
def condO (v : AV) : Rn → Code → Code → Nat → Tm → Ds → St → Out := v.el (fun _ _ _ _ _ _ _ => .bad [902]) (fun _ _ _ _ _ _ _ _ _ => .bad [902]) (fun t => Bool.rec (fun run _ b f tm ds s => run (.code b f tm ds s)) (fun run a _ f tm ds s => run (.code a f tm ds s)) t) (fun _ _ _ _ _ _ _ _ => .bad [902]) (fun _ _ _ _ _ _ _ _ => .bad [902]) (fun _ _ _ _ _ _ _ _ _ => .bad [902]) (fun _ _ _ _ _ _ _ _ _ _ _ => .bad [902]) (fun _ _ _ _ _ _ _ _ => .bad [902]) (fun _ _ _ _ _ _ _ _ => .bad [902]) (fun _ _ _ _ _ _ _ _ => .bad [902]) (fun _ _ _ _ _ _ _ _ _ => .bad [902]) (fun _ _ _ _ _ _ _ _ _ _ => .bad [902])
def blockO : Out → Nat → Out
  | .ok (.exit i) tm ds s, id => Bool.rec (.ok (.exit i) tm ds s) (.ok .normal tm ds s) (Nat.beq i id)
  | r, _ => r
def stepCode (c : Code) : Tb → Rn → Nat → Tm → Ds → St → Out := Code.rec (motive := fun _ => Tb → Rn → Nat → Tm → Ds → St → Out)
  (fun _ _ _ tm ds s => .ok .normal tm ds s)
  (fun id ops dr P run f tm ds s => badIn (Bool.rec (run (.ops (mosOf P (nsOf P f) (ntOf P f) ops) ⟨tm.g, .nil⟩ ds s)) (setDs (run (.dops (dosOf P (nsOf P f) (ntOf P f) ops) [] 0 s.next ⟨tm.g, .nil⟩ s)) ds) dr) id)
  (fun a b _ _ _ run f tm ds s => seqO (run (.code a f tm ds s)) run b f)
  (fun c a b _ _ P run f tm ds s => condO (ev (mv (nsOf P f) c) tm) run a b f tm ds s)
  (fun id b _ _ run f tm ds s => blockO (run (.code b f tm ds s)) id)
  (fun b _ _ run f tm ds s => seqO (run (.code b f tm ds s)) run (.loop b) f)
  (fun _ _ _ _ _ _ _ _ _ _ _ _ => .bad [903])
  (fun id _ _ _ tm ds s => .ok (.exit id) tm ds s)
  (fun _ _ _ _ _ _ _ _ => .bad [903])
  (fun _ _ _ _ tm ds s => .ok .normal tm ds s)
  (fun _ _ _ _ _ _ _ => .bad [903])
  (fun _ _ _ tm ds s => .ok .ret tm ds s)
  (fun _ _ _ _ _ _ _ => .bad [903]) c
def retO : Option AV → Nat → St → Out
  | some v, _, s => .ret v s
  | none, f, _ => .bad [f, 905]
def endE : Ex → Bool
  | .normal => true
  | .ret => true
  | _ => false
def ret1 (f : Nat) (fn : Func) (P : Tb) (tm : Tm) (s : St) : Out := retO (resT (resL fn.results.toList (nsOf P f) P tm s)) f s
def leaveN (f : Nat) (fn : Func) (P : Tb) (run : Rn) (tm : Tm) (s : St) (ds : Ds) : Out := List.rec (ret1 f fn P tm s) (fun d ds _ => run (.lv f tm (d :: ds) .ret s)) ds
def leaveP (f : Nat) (run : Rn) (v : AV) (tm : Tm) (s : St) (ds : Ds) : Out := List.rec (.pan v ⟨.leaf, .nil⟩ [] s) (fun d ds _ => run (.lv f tm (d :: ds) (.pan v false) s)) ds
def leaveFn : Out → Nat → Func → Tb → Rn → Out
  | .ok e tm ds s, f, fn, P, run => Bool.rec (.bad [f, 917]) (leaveN f fn P run tm s ds) (endE e)
  | .pan v tm ds s, f, _, _, run => leaveP f run v tm s ds
  | .bad e, f, _, _, _ => .bad (f :: e)
  | _, f, _, _, _ => .bad [f, 911]
def argsT (l : List AV) : Nat → Tm → Tm := List.rec (fun _ tm => tm) (fun a _ ih i tm => ih (i + 1) ⟨tm.g.set i a, tm.l⟩) l
/-- Functions without a Go body. -/
def findB (c : Nat) (l : List Nat) : Nat → Int := List.rec (fun _ => -1) (fun b _ ih i => Bool.rec (ih (i + 1)) (.ofNat i) (Nat.beq b c)) l
/-- Does a row begin with another one; does it hold it? -/
def begR (m : List Nat) : List Nat → Bool := List.rec (fun _ => true) (fun a _ ih l => List.rec false (fun b l _ => Bool.rec false (ih l) (Nat.beq a b)) l) m
def hasR (m l : List Nat) : Bool := List.rec (begR m []) (fun a l ih => Bool.rec ih true (begR m (a :: l))) l
def bodyO : Option Code → Func → Tb → Rn → Nat → List AV → St → Out
  | some c, fn, P, run, f, args, s => Bool.rec (.bad [f, 918]) (leaveFn (run (.code c f (argsT args 0 ⟨.leaf, .nil⟩) [] s)) f fn P run) (Nat.ble (lenR args) fn.ntmps)
  | none, _, _, _, f, _, _ => .bad [f, 912]
def fnO : Option Func → Tb → Rn → Nat → List AV → St → Out
  | some fn, P, run, f, args, s => bodyO fn.body fn P run f args s
  | none, _, _, f, _, _ => .bad [f, 909]
def extO : Option (AV × St) → Tb → Rn → Nat → List AV → St → Out
  | some p, _, _, _, _, _ => .ret p.1 p.2
  | none, P, run, f, args, s => fnO (P.fn.at_ f) P run f args s
def callO : Option Nat → Tb → Rn → Nat → List AV → St → Out
  | some c, P, run, f, args, s => extO (P.xf c args s) P run f args s
  | none, P, run, f, args, s => fnO (P.fn.at_ f) P run f args s
def settleM : Md → Md
  | .pan v false => .pan v false
  | _ => .ret
def endM : Md → Nat → Func → Tb → Tm → St → Out
  | .ret, f, fn, P, tm, s => ret1 f fn P tm s
  | .pan v false, _, _, _, _, s => .pan v ⟨.leaf, .nil⟩ [] s
  | .pan _ true, f, _, _, _, _ => .bad [f, 930]
def endO : Option Func → Md → Nat → Tb → Tm → St → Out
  | some fn, m, f, P, tm, s => endM m f fn P tm s
  | none, _, f, _, _, _ => .bad [f, 931]
def nextLv : Out → Nat → Tm → Ds → Rn → Out
  | .retR m s, f, tm, ds, run => run (.lv f tm ds (settleM m) s)
  | .bad e, f, _, _, _ => .bad (f :: e)
  | _, f, _, _, _ => .bad [f, 932]
def stepLv (ds : Ds) : Tb → Rn → Nat → Tm → Md → St → Out := List.rec (fun P _ f tm m s => endO (P.fn.at_ f) m f P tm s) (fun d ds _ _ run f tm m s => nextLv (run (.rfn d.1 d.2 m s)) f tm ds run) ds
def resB (o : Option AV) : Bool := Option.rec false (fun _ => true) o
def leaveR : Out → Nat → Func → Tb → Out
  | .okR e tm m s, f, fn, P => Bool.rec (.bad [f, 933]) (.retR m s) (and (endE e) (resB (resT (resL fn.results.toList (nsOf P f) P tm s))))
  | .bad e, f, _, _ => .bad (f :: e)
  | _, f, _, _ => .bad [f, 934]
def bodyR : Option Code → Func → Tb → Rn → Nat → List AV → Md → St → Out
  | some c, fn, P, run, f, args, m, s => Bool.rec (.bad [f, 918]) (leaveR (run (.rcode c f (argsT args 0 ⟨.leaf, .nil⟩) m s)) f fn P) (Nat.ble (lenR args) fn.ntmps)
  | none, _, _, _, f, _, _, _ => .bad [f, 912]
def fnR : Option Func → Tb → Rn → Nat → List AV → Md → St → Out
  | some fn, P, run, f, args, m, s => bodyR fn.body fn P run f args m s
  | none, _, _, f, _, _, _ => .bad [f, 909]
def callR : Option Nat → Tb → Rn → Nat → List AV → Md → St → Out
  | some _, _, _, f, _, _, _ => .bad [f, 935]
  | none, P, run, f, args, m, s => fnR (P.fn.at_ f) P run f args m s
def seqR : Out → Rn → Code → Nat → Out
  | .okR .normal tm m s, run, b, f => run (.rcode b f tm m s)
  | r, _, _, _ => r
def condR (v : AV) : Rn → Code → Code → Nat → Tm → Md → St → Out := v.el (fun _ _ _ _ _ _ _ => .bad [902]) (fun _ _ _ _ _ _ _ _ _ => .bad [902]) (fun t => Bool.rec (fun run _ b f tm m s => run (.rcode b f tm m s)) (fun run a _ f tm m s => run (.rcode a f tm m s)) t) (fun _ _ _ _ _ _ _ _ => .bad [902]) (fun _ _ _ _ _ _ _ _ => .bad [902]) (fun _ _ _ _ _ _ _ _ _ => .bad [902]) (fun _ _ _ _ _ _ _ _ _ _ _ => .bad [902]) (fun _ _ _ _ _ _ _ _ => .bad [902]) (fun _ _ _ _ _ _ _ _ => .bad [902]) (fun _ _ _ _ _ _ _ _ => .bad [902]) (fun _ _ _ _ _ _ _ _ _ => .bad [902]) (fun _ _ _ _ _ _ _ _ _ _ => .bad [902])
def fromOk : Out → Md → Out
  | .ok e tm [] s, m => .okR e tm m s
  | .bad e, _ => .bad e
  | _, _ => .bad [936]
def stepRcode (c : Code) : Tb → Rn → Nat → Tm → Md → St → Out := Code.rec (motive := fun _ => Tb → Rn → Nat → Tm → Md → St → Out)
  (fun _ run f tm m s => fromOk (run (.code .skip f tm [] s)) m)
  (fun id ops dr P run f tm m s => Bool.rec (badIn (run (.rops (mosOf P (nsOf P f) (ntOf P f) ops) ⟨tm.g, .nil⟩ m s)) id) (fromOk (run (.code (.region id ops true) f tm [] s)) m) dr)
  (fun a b _ _ _ run f tm m s => seqR (run (.rcode a f tm m s)) run b f)
  (fun c a b _ _ P run f tm m s => condR (ev (mv (nsOf P f) c) tm) run a b f tm m s)
  (fun id b _ _ run f tm m s => fromOk (run (.code (.block id b) f tm [] s)) m)
  (fun b _ _ run f tm m s => fromOk (run (.code (.loop b) f tm [] s)) m)
  (fun _ _ _ _ _ _ _ _ _ _ _ _ => .bad [903])
  (fun id _ run f tm m s => fromOk (run (.code (.exit id) f tm [] s)) m)
  (fun _ _ _ _ _ _ _ _ => .bad [903])
  (fun _ _ _ _ _ _ _ => .bad [903])
  (fun _ _ _ _ _ _ _ => .bad [903])
  (fun _ run f tm m s => fromOk (run (.code .ret f tm [] s)) m)
  (fun _ _ _ _ _ _ _ => .bad [903]) c
def recM : Md → AV × Md
  | .pan v false => (v, .pan v true)
  | m => (.lit .nilIface, m)
def retR2 : Out → Rn → List MO → MD → Tm → Md → Out
  | .ret v s, run, l, d, tm, m => run (.rops l (put d v tm) m s)
  | .bad e, _, _, _, _, _ => .bad e
  | _, _, _, _, _, _ => .bad [937]
def nextR (x : Nx) : MOp → Rn → List MO → MD → Tm → Md → Out := Nx.rec
  (fun v s _ run l d tm m => run (.rops l (put d v tm) m s))
  (fun f a s o run l d tm m => Bool.rec (.bad [916]) (retR2 (run (.fn f a s)) run l d tm m) (callB o))
  (fun _ _ _ _ _ _ _ _ _ => .bad [938])
  (fun s o run l d tm m => Bool.rec (.bad [914]) (run (.rops l (put d (recM m).1 tm) (recM m).2 s)) (Nat.beq (actB o) 4))
  (fun _ _ _ _ _ _ _ _ => .bad [939])
  (fun e _ _ _ _ _ _ => .bad [e]) x
def goRB (b : Bool) : MO → Rn → List MO → Tm → Md → St → Out := Bool.rec (fun o run l tm m s => run (.rops l (put o.dst und tm) m s)) (fun o run l tm m s => nextR (opA o.op tm s) o.op run l o.dst tm m) b
def goR (b : Option Bool) : MO → Rn → List MO → Tm → Md → St → Out := Option.rec (fun _ _ _ _ _ _ => .bad [904]) goRB b
def stepRops (l : List MO) : Rn → Tm → Md → St → Out := List.rec (fun _ tm m s => .okR .normal tm m s) (fun o l _ run tm m s => goR (wantedA o.guard tm) o run l tm m s) l
def stepT (t : Task) : Tb → Rn → Out := Task.rec (fun l tm ds s _ run => stepOps l run tm ds s) (fun l rs dn base tm s _ run => stepD l run rs dn base tm s) (fun c f tm ds s P run => stepCode c P run f tm ds s) (fun f args s P run => callO (P.ext.at_ f) P run f args s) (fun f tm ds m s P run => stepLv ds P run f tm m s) (fun f args m s P run => callR (P.ext.at_ f) P run f args m s) (fun c f tm m s P run => stepRcode c P run f tm m s) (fun l tm m s _ run => stepRops l run tm m s) t
def run (P : Tb) (n : Nat) : Rn := Nat.rec (fun _ => .bad [900]) (fun _ ih t => stepT t P ih) n
/-- A literal says of what is computed what that says. -/
def eqLit : Value → Value → Bool
  | .pointer none, .pointer none => true
  | .slice none 0 0, .slice none 0 0 => true
  | .map none, .map none => true
  | .nilFunc, .nilFunc => true
  | .nilIface, .nilIface => true
  | .complex .f64 a b, .complex .f64 c d => and (Nat.beq a c) (Nat.beq b d)
  | .float .f64 a, .float .f64 b => Nat.beq a b
  | _, _ => false
def eqCp : Cp → Cp → Bool
  | .ex a, .ex b => Nat.beq a b
  | .gap a, .gap b => Nat.beq a b
  | _, _ => false
def eqN (k : IntKind) (n : Int) : AV → Bool
  | .int k' m => and (decide (k = k')) (decide (n = m))
  | _ => false
def eqB (b : Bool) : AV → Bool
  | .bool c => b == c
  | _ => false
def eqS1 (s : List Nat) : AV → Bool
  | .str t => eqL s t
  | _ => false
def eqV1 (v : Value) : AV → Bool
  | .lit u => eqLit v u
  | _ => false
def eqP (b o : Nat) : AV → Bool
  | .ptr c p => and (Nat.beq b c) (Nat.beq o p)
  | _ => false
def eqSl (b o n : Nat) (c : Cp) : AV → Bool
  | .slc b' o' n' c' => and (and (Nat.beq b b') (Nat.beq o o')) (and (Nat.beq n n') (eqCp c c'))
  | _ => false
def eqM (b : Nat) : AV → Bool
  | .map c => Nat.beq b c
  | _ => false
def eqAg (ih : List AV → Bool) : AV → Bool
  | .agg m => ih m
  | _ => false
def eqTu (ih : List AV → Bool) : AV → Bool
  | .tup m => ih m
  | _ => false
def eqI (t : Nat) (ih : AV → Bool) : AV → Bool
  | .ifc u a => and (Nat.beq t u) (ih a)
  | _ => false
def eqF (f : Nat) (i1 i2 : List AV → Bool) : AV → Bool
  | .fn g a c => and (Nat.beq f g) (and (i1 a) (i2 c))
  | _ => false
def eqE : AV → Bool
  | .emp => true
  | _ => false
def eqNil : List AV → Bool
  | [] => true
  | _ => false
def eqCons (i1 : AV → Bool) (i2 : List AV → Bool) : List AV → Bool
  | b :: m => and (i1 b) (i2 m)
  | [] => false
def eqAV (x : AV) : AV → Bool := AV.rec (motive_1 := fun _ => AV → Bool) (motive_2 := fun _ => List AV → Bool) (fun _ => true) eqN eqB eqS1 eqV1 eqP eqSl eqM (fun _ ih => eqAg ih) (fun _ ih => eqTu ih) (fun t _ ih => eqI t ih) (fun f _ _ i1 i2 => eqF f i1 i2) (fun _ _ _ _ => false) eqE eqNil (fun _ _ i1 i2 => eqCons i1 i2) x
def eqAVs (l : List AV) : List AV → Bool := AV.rec_1 (motive_1 := fun _ => AV → Bool) (motive_2 := fun _ => List AV → Bool) (fun _ => true) eqN eqB eqS1 eqV1 eqP eqSl eqM (fun _ ih => eqAg ih) (fun _ ih => eqTu ih) (fun t _ ih => eqI t ih) (fun f _ _ i1 i2 => eqF f i1 i2) (fun _ _ _ _ => false) eqE eqNil (fun _ _ i1 i2 => eqCons i1 i2) l
/-- An object that is known: its number, its elements, their size, their type, whether it has room. -/
structure OB where
  b : Nat
  rows : List (List AV)
  size : Nat
  t : Nat
  room : Bool
def OB.obj (o : OB) : AObj := .cells (putE o.rows 0 .leaf) (lenR o.rows) o.size o.t o.room
def layM (l : List OB) (h : T AObj) : T AObj := List.rec h (fun o _ ih => ih.set o.b o.obj) l
def okRow (lit : List (List AV)) (c : T (List AV)) : Nat → Bool := List.rec (fun _ => true) (fun l _ ih i => and (and (oneL l) (Option.rec false (fun m => eqAVs l m) (c.at_ i))) (ih (i + 1))) lit
def okOb (o : OB) : Option AObj → Bool
  | some (.cells c n size t room) => and (and (okRow o.rows c 0) (Nat.beq (lenR o.rows) n)) (and (Nat.beq o.size size) (and (Nat.beq o.t t) (o.room == room)))
  | _ => false
def okObs (c0 : Nat) (h : T AObj) (l : List OB) : Bool := List.rec true (fun o _ ih => and (and (Nat.ble c0 o.b) (okOb o (h.at_ o.b))) ih) l
/-- What a call answers from an empty memory, whose numbers begin at c0. -/
structure Memo where
  args : List AV
  c0 : Nat
  v : AV
  objs : List OB
  c1 : Nat
def memB (m : Memo) : Out → Bool
  | .ret v s => and (eqAV m.v v) (and (Nat.ble s.next m.c1) (okObs m.c0 s.heap m.objs))
  | _ => false
def findMemo (l : List Memo) (args : List AV) (s : St) : Option (AV × St) := List.rec none (fun m _ ih => Bool.rec ih (some (m.v, ⟨layM m.objs s.heap, m.c1, s.wr⟩)) (and (eqAVs m.args args) (Nat.ble s.next m.c0))) l
/-- Does a run answer true? -/
def isTrue : Out → Bool
  | .ret (.bool true) _ => true
  | _ => false
def st0 : St := ⟨.leaf, 1000, []⟩
def Out.code : Out → List Nat
  | .ret _ _ => []
  | .ok _ _ _ _ => [1001]
  | .pan _ _ _ _ => [1000]
  | .okR _ _ _ _ => [1002]
  | .retR _ _ => [1003]
  | .bad l => l
end
end Go.Proofs.YtiibijhldlillaaGreat.Eng
