/- A runner of closed calls, as a function that the kernel can . Condition: what each theorem says. -/
import GoSem.Step
namespace Go.Proofs.YtlpombjidhloiaaGreat.Eng
noncomputable section
inductive T(α:Type) where
 |leaf
 |node (v:Option α) (l r:T α)
namespace T
variable {α:Type}
def get(t:T α):List Bool→Option α:=T.rec (fun _=>none) (fun v _ _ gl gr p=>List.rec v (fun b p _=>Bool.rec (gr p) (gl p) b) p) t
def nodeP(p:List Bool)(v:Option α):T α:=List.rec (.node v .leaf .leaf) (fun b _ ih=>Bool.rec (.node none .leaf ih) (.node none ih .leaf) b) p
def setP(t:T α):List Bool→Option α→T α:=T.rec nodeP (fun v l r sl sr p u=>List.rec (.node u l r) (fun b p _=>Bool.rec (.node v l (sr p u)) (.node v (sl p u) r) b) p) t
end T
def tH(n:Nat):Nat→List Bool:=Nat.rec (fun _=>[]) (fun _ ih k=>Nat.rec [] (fun k _=>Nat.beq (Nat.mod k 2) 0::ih (Nat.div k 2)) k) n
def iC(k:Nat):List Bool:=tH (k+1) k
namespace T
variable {α:Type}
def at_(t:T α)(k:Nat):Option α:=t.get (iC k)
def set(t:T α)(k:Nat)(v:α):T α:=t.setP (iC k) (some v)
def del(t:T α)(k:Nat):T α:=t.setP (iC k) none
def ofL(l:List α):Nat→T α→T α:=List.rec (fun _ t=>t) (fun a _ ih i t=>ih (i+1) (t.set i a)) l
end T
inductive Cp where
 |ex (c:Nat)
 |gap (g:Nat)
inductive AV where
 |bot
 |int (k:IntKind) (n:Int)
 |bool (b:Bool)
 |str (s:List Nat)
 |lit (v:Value)
 |ptr (b o:Nat)
 |slc (b o n:Nat) (c:Cp)
 |map (b:Nat)
 |agg (l:List AV)
 |tup (l:List AV)
 |ifc (t:Nat) (v:AV)
 |fn (f:Nat) (first cap:List AV)
 |cls (k:IntKind) (m r:Nat)
 |emp
 deriving Inhabited
abbrev AV.elc{γ:Type}(cl:IntKind→Nat→Nat→γ)(em o:γ)(i:IntKind→Int→γ)(b:Bool→γ)(s:List Nat→γ)(v:Value→γ)(p:Nat→Nat→γ)(sl:Nat→Nat→Nat→Cp→γ)(m:Nat→γ)(ag tu:List AV→γ)(ic:Nat→AV→γ)(fn:Nat→List AV→List AV→γ)(x:AV):γ:=
 AV.rec (motive_1:=fun _=>γ) (motive_2:=fun _=>PUnit) o i b s v p sl m (fun l _=>ag l) (fun l _=>tu l) (fun t a _=>ic t a) (fun f a c _ _=>fn f a c) cl em ⟨⟩ (fun _ _ _ _=>⟨⟩) x
abbrev AV.el{γ:Type}(o:γ)(i:IntKind→Int→γ)(b:Bool→γ)(s:List Nat→γ)(v:Value→γ)(p:Nat→Nat→γ)(sl:Nat→Nat→Nat→Cp→γ)(m:Nat→γ)(ag tu:List AV→γ)(ic:Nat→AV→γ)(fn:Nat→List AV→List AV→γ)(x:AV):γ:=
 AV.elc (fun _ _ _=>o) o o i b s v p sl m ag tu ic fn x
inductive A where
 |nil
 |cons (k:Nat) (v:AV) (t:A)
inductive KK where
 |int (k:IntKind)|str|bool
inductive bk where
 |cells (c:T (List AV)) (n size t:Nat) (room:Bool)
 |map (k:KK) (es:List (AV×AV))
 |siter (s:List Nat) (pos:Nat)
structure St where
 heap:T bk
 next:Nat
 wr:List Nat
inductive Nx where
 |val (v:AV) (s:St)
 |call (f:Nat) (args:List AV) (s:St)
 |defer (f:Nat) (args:List AV) (s:St)
 |recov (s:St)
 |pan (v:AV) (s:St)
 |bad (n:Nat)
def und:AV:=.tup []
def bZ{α β:Type}(f:α→β)(l:List α):List β:=List.rec [] (fun a _ ih=>f a::ih) l
def iD{α:Type}(l m:List α):List α:=List.rec m (fun a _ ih=>a::ih) l
def cK{α:Type}(l:List α):Nat:=List.rec 0 (fun _ _ ih=>ih+1) l
def jH{α:Type}(l:List α):Nat→Option α:=List.rec (fun _=>none) (fun a _ ih n=>Nat.rec (some a) (fun n _=>ih n) n) l
def rM{α:Type}(l:List α):Nat→List α:=List.rec (fun _=>[]) (fun a l ih n=>Nat.rec (a::l) (fun n _=>ih n) n) l
def oO{α:Type}(l:List α):Nat→Option (List α):=List.rec (fun n=>Nat.rec (some []) (fun _ _=>none) n) (fun a _ ih n=>Nat.rec (some []) (fun n _=>Option.rec none (fun r=>some (a::r)) (ih n)) n) l
def lL{α:Type}(v:List α):List α→List α:=List.rec (fun l=>l) (fun a _ ih l=>List.rec [] (fun _ l _=>a::ih l) l) v
def jU{α:Type}(v:List α)(o:Nat):List α→List α:=Nat.rec (fun l=>lL v l) (fun _ ih l=>List.rec [] (fun a l _=>a::ih l) l) o
def fm(s:ByteArray):AV:=.str (bZ UInt8.toNat s.data.toList)
def rN:Value→AV
 |.int k n=>.int k n
 |.bool b=>.bool b
 |.string s=>fm s
 |v=>.lit v
def cR:Value→AV
 |.agg cs=>.agg (bZ rN cs.toList)
 |v=>rN v
structure Tm where
 g:T AV
 l:A
def vH(t:A):Nat→AV:=A.rec (fun _=>.bot) (fun k v _ ih q=>Bool.rec (ih q) v (Nat.beq k q)) t
def vI(o:Option AV):AV:=Option.rec .bot (fun v=>v) o
inductive MV where
 |loc (k:Nat)
 |nam (p:List Bool)
 |val (v:AV)
abbrev NS:=T Unit
def bM(ns:NS)(t:Nat):MV:=Option.rec (.loc t) (fun _=>.nam (iC t)) (ns.at_ t)
def mv(ns:NS):Operand→MV
 |.tmp t=>bM ns t
 |.const v=>.val (cR v)
 |.global g=>.val (Bool.rec .bot (.ptr g 0) (Nat.ble (g+1) 1000))
 |.func f=>.val (.fn f [] [])
def ev(x:MV):Tm→AV:=MV.rec (fun k tm=>vH tm.l k) (fun p tm=>vI (tm.g.get p)) (fun v _=>v) x
inductive MD where
 |none
 |loc (k:Nat)
 |nam (p:List Bool)
def Eb(ns:NS)(t:Nat):MD:=Option.rec (.loc t) (fun _=>.nam (iC t)) (ns.at_ t)
def md(ns:NS)(o:Option Nat):MD:=Option.rec .none (Eb ns) o
def put(d:MD):AV→Tm→Tm:=MD.rec (fun _ tm=>tm) (fun k v tm=>⟨tm.g,.cons k v tm.l⟩) (fun p v tm=>⟨tm.g.setP p (some v),tm.l⟩) d
def cellsOf:AV→List AV
 |.agg l=>l
 |v=>[v]
def WD:Value→Bool
 |.float _ _=>true
 |.complex _ _ _=>true
 |.pointer none=>true
 |.slice none _ _=>true
 |.map none=>true
 |.nilFunc=>true
 |.nilIface=>true
 |_=>false
def iE:AV→Bool
 |.bot=>false
 |.agg _=>false
 |.tup _=>false
 |.cls _ _ _=>false
 |.lit v=>WD v
 |_=>true
def fL(l:List AV):Bool:=List.rec true (fun a _ ih=>and (iE a) ih) l
def St.get(s:St)(b:Nat):Option bk:=s.heap.at_ b
def St.put(s:St)(b:Nat)(o:bk):St:=⟨s.heap.set b o,s.next,b::s.wr⟩
def St.del(s:St)(b:Nat):St:=⟨s.heap.del b,s.next,b::s.wr⟩
def St.add(s:St)(o:bk):St:=⟨s.heap.set s.next o,s.next+1,s.wr⟩
def KD:St→bk→Nx|s,o=>.val (.ptr s.next 0) (s.add o)
def oP:St→bk→Nat→Cp→Nx|s,o,n,c=>.val (.slc s.next 0 n c) (s.add o)
structure TI where
 d:TypeDesc
 size:Nat
 agg:Bool
 zero:Option AV
 held:Bool
 guard:Bool
 bytes:Nat
structure Tb where
 ty:T TI
 fn:T Func
 ext:T Nat
 xf:Nat→List AV→St→Option (AV×St)
def Ec:TypeDesc→Bool
 |.struct _|.array _ _=>true
 |_=>false
def KE(P:Program)(t:Nat)(i:TypeInfo):TI:=⟨(P.underlying t).getD .invalid,i.size,Ec ((P.underlying t).getD .invalid),i.zero.map cR,P.stoodInHeld t,P.eqGuardType P.depth t,i.bytes⟩
def qj(P:Program):List TypeInfo→Nat→List TI
 |[],_=>[]
 |i::l,t=>KE P t i::qj P l (t+1)
def tb(P:Program)(ext:T Nat)(xf:Nat→List AV→St→Option (AV×St)):Tb:=⟨T.ofL (qj P P.types.toList 0) 0 .leaf,T.ofL P.funcs.toList 0 .leaf,ext,xf⟩
def rO(P:Tb)(t:Nat):Nat:=Option.rec 0 (fun i=>i.bytes) (P.ty.at_ t)
def zero(P:Tb)(t:Nat):Option AV:=Option.rec none (fun i=>i.zero) (P.ty.at_ t)
def aN(P:Tb)(t:Nat):Nat:=Option.rec 0 (fun i=>i.size) (P.ty.at_ t)
def iS(P:Tb)(t:Nat):Bool:=Option.rec false (fun i=>i.agg) (P.ty.at_ t)
def KG:TypeDesc→Bool
 |.invalid=>true
 |_=>false
def eD(P:Tb)(t:Nat):Bool:=Option.rec false (fun i=>not (KG i.d)) (P.ty.at_ t)
def dsc(P:Tb)(t:Nat):TypeDesc:=Option.rec .invalid (fun i=>i.d) (P.ty.at_ t)
def vl:Option AV→Nat→St→Nx
 |some v,_,s=>.val v s
 |none,n,_=>.bad n
def tI(o:Option (List AV)):Option AV:=Option.rec none (fun l=>some (.agg l)) o
def rP(l:List AV)(o n:Nat):Option (List AV):=oO (rM l o) n
def loadAt:Option (List AV)→Bool→Nat→Nat→St→Nx
 |none,_,_,_,_=>.bad 105
 |some l,true,o,n,s=>vl (tI (rP l o n)) 101 s
 |some l,false,o,_,s=>vl (jH l o) 102 s
def KH:Option bk→Bool→Nat→Nat→St→Nx
 |some (.cells c _ size _ _),g,n,o,s=>loadAt (c.at_ (Nat.div o size)) g (Nat.mod o size) n s
 |_,_,_,_,_=>.bad 103
def kE(n:Nat):Bool→Nat→St→Nx:=fun _ _ _=>.bad n
def WE(b o:Nat)(g:Bool)(n:Nat)(s:St):Nx:=KH (s.get b) g n o s
def qk(v:AV):Bool→Nat→St→Nx:=v.el (kE 104) (fun _ _=>kE 104) (fun _=>kE 104) (fun _=>kE 104) (fun _=>kE 104) WE (fun _ _ _ _=>kE 104) (fun _=>kE 104) (fun _=>kE 104) (fun _=>kE 104) (fun _ _=>kE 104) (fun _ _ _=>kE 104)
def KI:Option (List AV)→T (List AV)→Nat→Nat→Nat→Bool→Nat→Nat→List AV→Nat→St→Nx
 |none,_,_,_,_,_,_,_,_,_,_=>.bad 114
 |some l,c,n,size,e,r,b,o,vs,m,s=>Bool.rec (.bad 111) (.val und (s.put b (.cells (c.set (Nat.div o size) (jU vs (Nat.mod o size) l)) n size e r))) (and (fL vs) (and (Nat.beq (cK vs) m) (Nat.ble (Nat.add (Nat.mod o size) m) size)))
def KJ:Option bk→Nat→Nat→Nat→AV→St→Nx
 |some (.cells c n size e r),m,b,o,v,s=>KI (c.at_ (Nat.div o size)) c n size e r b o (cellsOf v) m s
 |_,_,_,_,_,_=>.bad 112
def mH(n:Nat):Nat→AV→St→Nx:=fun _ _ _=>.bad n
def WG(b o m:Nat)(v:AV)(s:St):Nx:=KJ (s.get b) m b o v s
def zd(p:AV):Nat→AV→St→Nx:=p.el (mH 113) (fun _ _=>mH 113) (fun _=>mH 113) (fun _=>mH 113) (fun _=>mH 113) WG (fun _ _ _ _=>mH 113) (fun _=>mH 113) (fun _=>mH 113) (fun _=>mH 113) (fun _ _=>mH 113) (fun _ _ _=>mH 113)
def vJ(ps:List (Nat×Nat×AV)):List AV→Option (List AV):=
 List.rec (fun l=>some l) (fun p _ ih l=>Bool.rec none (ih (jU (cellsOf p.2.2) p.1 l)) (and (fL (cellsOf p.2.2)) (and (Nat.beq (cK (cellsOf p.2.2)) p.2.1) (Nat.ble (Nat.add p.1 (cK (cellsOf p.2.2))) (cK l))))) ps
def KL:Option (List AV)→List (Nat×Nat×AV)→Option AV
 |some z,ps=>Bool.rec none (tI (vJ ps z)) (fL z)
 |none,_=>none
def mI(z:List AV)(n:Nat):T (List AV):=Nat.rec .leaf (fun n ih=>ih.set n z) n
def fR(l:List (List AV)):Nat→T (List AV)→T (List AV):=List.rec (fun _ c=>c) (fun a _ ih i c=>ih (i+1) (c.set i a)) l
def kZ(c:T (List AV))(n:Nat):Nat→Option (List (List AV)):=Nat.rec (fun _=>some []) (fun _ ih i=>Option.rec none (fun l=>Option.rec none (fun r=>some (l::r)) (ih (i+1))) (c.at_ i)) n
def tJ(size n:Nat)(ps:List (Nat×AV)):T (List AV)→Option (T (List AV)):=
 List.rec (fun c=>some c) (fun p _ ih c=>Bool.rec none (ih (c.set p.1 (cellsOf p.2))) (and (fL (cellsOf p.2)) (and (Nat.beq (cK (cellsOf p.2)) size) (Nat.ble (p.1+1) n)))) ps
def gA(l:List Nat):List Nat→Bool:=List.rec (fun m=>List.rec true (fun _ _ _=>false) m) (fun a _ ih m=>List.rec false (fun b m _=>Bool.rec false (ih m) (Nat.beq a b)) m) l
def jI(l:List Nat):List Nat→Bool:=List.rec (fun m=>List.rec false (fun _ _ _=>true) m) (fun a _ ih m=>List.rec false (fun b m _=>Bool.rec (Bool.rec false (ih m) (Nat.beq a b)) true (Nat.ble (a+1) b)) m) l
inductive EK where
 |bool|int|str|cplx|ptr|iface|slc|map|fn
def jJ:EK→AV→AV→Option Bool
 |.bool,.bool x,.bool y=>some (x==y)
 |.int,.int k x,.int k' y=>if k=k' then some (x==y)else none
 |.str,.str x,.str y=>some (gA x y)
 |.cplx,.lit (.complex .f64 x y),.lit (.complex .f64 x' y')=>some (Op.floatEq .f64 x x'&&Op.floatEq .f64 y y')
 |.ptr,.lit (.pointer none),.lit (.pointer none)=>some true
 |.ptr,.lit (.pointer none),.ptr _ _=>some false
 |.ptr,.ptr _ _,.lit (.pointer none)=>some false
 |.iface,.lit .nilIface,.lit .nilIface=>some true
 |.iface,.lit .nilIface,.ifc _ _=>some false
 |.iface,.ifc _ _,.lit .nilIface=>some false
 |.slc,.lit (.slice none 0 0),.lit (.slice none 0 0)=>some true
 |.slc,.lit (.slice none 0 0),.slc .. =>some false
 |.slc,.slc ..,.lit (.slice none 0 0)=>some false
 |.fn,.lit .nilFunc,.lit .nilFunc=>some true
 |.fn,.lit .nilFunc,.fn .. =>some false
 |.fn,.fn ..,.lit .nilFunc=>some false
 |.map,.lit (.map none),.lit (.map none)=>some true
 |.map,.map _,.lit (.map none)=>some false
 |.map,.lit (.map none),.map _=>some false
 |_,_,_=>none
def tK(ks:List EK):List AV→List AV→Option Bool:=
 List.rec (fun l m=>List.rec (List.rec (some true) (fun _ _ _=>none) m) (fun _ _ _=>none) l) (fun k _ ih l m=>List.rec none (fun a l _=>List.rec none (fun b m _=>Option.rec none (fun r=>Option.rec none (fun q=>some (and r q)) (ih l m)) (jJ k a b)) m) l) ks
inductive EQ where
 |no
 |one (k:EK)
 |many (ks:List EK)
def tL:EQ→AV→AV→Option Bool
 |.one k,a,b=>jJ k a b
 |.many ks,.agg l,.agg m=>tK ks l m
 |_,_,_=>none
def Ed:KK→KK→Bool
 |.int a,.int b=>decide (a=b)
 |.str,.str=>true
 |.bool,.bool=>true
 |_,_=>false
def fits:KK→AV→Bool
 |.int k,.int k' _=>decide (k=k')
 |.str,.str _=>true
 |.bool,.bool _=>true
 |_,_=>false
def fM:AV→AV→Bool
 |.int _ x,.int _ y=>x==y
 |.bool x,.bool y=>x==y
 |.str x,.str y=>gA x y
 |_,_=>false
def KN:BinOp→IntKind→Int→Int→Option AV
 |.and,k,.ofNat a,.ofNat b=>some (.int k (k.wrap (.ofNat (Nat.land a b))))
 |.or,k,.ofNat a,.ofNat b=>some (.int k (k.wrap (.ofNat (Nat.lor a b))))
 |.xor,k,.ofNat a,.ofNat b=>some (.int k (k.wrap (.ofNat (Nat.xor a b))))
 |.andNot,k,.ofNat a,.ofNat b=>some (.int k (k.wrap (.ofNat (Nat.xor a (Nat.land a b)))))
 |_,_,_,_=>none
def rQ:BinOp→IntKind→Int→Int→Option AV
 |.add,k,x,y=>some (.int k (k.wrap (x+y)))
 |.sub,k,x,y=>some (.int k (k.wrap (x-y)))
 |.mul,k,x,y=>some (.int k (k.wrap (x*y)))
 |.quo,k,x,y=>if y=0 then none else some (.int k (k.wrap (x.tdiv y)))
 |.rem,k,x,y=>if y=0 then none else some (.int k (x.tmod y))
 |.eql,_,x,y=>some (.bool (x==y))
 |.neq,_,x,y=>some (.bool (x != y))
 |.lss,_,x,y=>some (.bool (decide (x<y)))
 |.leq,_,x,y=>some (.bool (decide (x≤y)))
 |.gtr,_,x,y=>some (.bool (decide (y<x)))
 |.geq,_,x,y=>some (.bool (decide (y≤x)))
 |op,k,x,y=>KN op k x y
def shl:Int→IntKind→Int→Option AV
 |.ofNat n,k,a=>some (.int k (k.wrap (a*.ofNat (2^ min n k.bits))))
 |_,_,_=>none
def shr:Int→IntKind→Int→Option AV
 |.ofNat n,k,a=>some (.int k (a.fdiv (.ofNat (2^ min n k.bits))))
 |_,_,_=>none
def ze:BinOp→List Nat→List Nat→Option AV
 |.add,a,b=>Bool.rec none (some (.str (iD a b))) (Nat.ble (Nat.add (cK a) (cK b)) 1000000000000)
 |.lss,a,b=>some (.bool (jI a b))
 |.gtr,a,b=>some (.bool (jI b a))
 |.leq,a,b=>some (.bool (!jI b a))
 |.geq,a,b=>some (.bool (!jI a b))
 |.eql,a,b=>some (.bool (gA a b))
 |.neq,a,b=>some (.bool (!gA a b))
 |_,_,_=>none
def zf(o:Option Bool):Option AV:=Option.rec none (fun b=>some (.bool b)) o
def zg(o:Option Bool):Option AV:=Option.rec none (fun b=>some (.bool (!b))) o
def KO:BinOp→AV→AV→Option AV
 |.eql,x,y=>zf (jJ .cplx x y)
 |.neq,x,y=>zg (jJ .cplx x y)
 |_,_,_=>none
def oQ:BinOp→EQ→AV→AV→Option AV
 |op,.one .cplx,x,y=>KO op x y
 |.eql,k,x,y=>zf (tL k x y)
 |.neq,k,x,y=>zg (tL k x y)
 |_,_,_,_=>none
def zh:BinOp→IntKind→Int→IntKind→Int→Option AV
 |.shl,k,a,_,b=>shl b k a
 |.shr,k,a,_,b=>shr b k a
 |op,k,a,k',b=>if k=k' then rQ op k a b else none
def WH(k:IntKind)(a:Int)(y:AV):BinOp→EQ→Option AV:=y.el (fun _ _=>none) (fun k' b op _=>zh op k a k' b) (fun _ _ _=>none) (fun _ _ _=>none) (fun _ _ _=>none) (fun _ _ _ _=>none) (fun _ _ _ _ _ _=>none) (fun _ _ _=>none) (fun _ _ _=>none) (fun _ _ _=>none) (fun _ _ _ _=>none) (fun _ _ _ _ _=>none)
def WI(a:List Nat)(y:AV):BinOp→EQ→Option AV:=y.el (fun _ _=>none) (fun _ _ _ _=>none) (fun _ _ _=>none) (fun b op _=>ze op a b) (fun _ _ _=>none) (fun _ _ _ _=>none) (fun _ _ _ _ _ _=>none) (fun _ _ _=>none) (fun _ _ _=>none) (fun _ _ _=>none) (fun _ _ _ _=>none) (fun _ _ _ _ _=>none)
def KP:BinOp→IntKind→Nat→Nat→AV→Option AV
 |.rem,k,m,r,.int k' (.ofNat y)=>if k=k' then Bool.rec none (some (.int k (.ofNat (Nat.mod r y)))) (and (Nat.ble 1 y) (Nat.beq (Nat.mod m y) 0))else none
 |_,_,_,_,_=>none
def Ee(x:AV):AV→BinOp→EQ→Option AV:=x.elc (fun k m r y op _=>KP op k m r y) (fun _ _ _=>none) (fun _ _ _=>none) WH (fun b y op k=>oQ op k (.bool b) y) WI (fun v y op k=>oQ op k (.lit v) y) (fun b o y op k=>oQ op k (.ptr b o) y) (fun b o n c y op k=>oQ op k (.slc b o n c) y) (fun b y op k=>oQ op k (.map b) y) (fun l y op k=>oQ op k (.agg l) y) (fun _ _ _ _=>none) (fun t v y op k=>oQ op k (.ifc t v) y) (fun f a c y op k=>oQ op k (.fn f a c) y)
def iF(k:AV)(es:List (AV×AV)):Option AV:=List.rec none (fun e _ ih=>Bool.rec ih (some e.2) (fM k e.1)) es
def gK(k v:AV)(es:List (AV×AV)):List (AV×AV):=List.rec [(k,v)] (fun e es ih=>Bool.rec (e::ih) ((k,v)::es) (fM k e.1)) es
def idx:AV→Nat→Option Nat
 |.int _ (.ofNat i),len=>Bool.rec none (some i) (Nat.ble (i+1) len)
 |_,_=>none
def gL:Option AV→Nat→Option Nat
 |none,d=>some d
 |some (.int _ (.ofNat i)),_=>some i
 |_,_=>none
def zi(b:Nat):List AV:=[.int .u8 (.ofNat b)]
def zj:List AV→Option Nat
 |[.int .u8 (.ofNat b)]=>Bool.rec none (some b) (Nat.ble b 255)
 |_=>none
def qm(l:List (List AV)):Option (List Nat):=List.rec (some []) (fun a _ ih=>Option.rec none (fun b=>Option.rec none (fun r=>some (b::r)) ih) (zj a)) l
def Ef(n:Nat)(o:Option (List (List AV))):Option (List (List AV)×Nat):=Option.rec none (fun l=>some (l,n)) o
def KQ:Option bk→Nat→Nat→Nat→Option (List (List AV)×Nat)
 |some (.cells c _ size _ _),o,n,z=>Bool.rec none (Ef n (kZ c n (Nat.div o size))) (and (Nat.beq size z) (Nat.beq (Nat.mod o size) 0))
 |_,_,_,_=>none
def oS:AV→Nat→St→Option (List (List AV)×Nat)
 |.lit (.slice none 0 0),_,_=>some ([],0)
 |.emp,_,_=>some ([],0)
 |.str l,1,_=>some (bZ zi l,cK l)
 |.slc b o n _,z,s=>KQ (s.get b) o n z
 |_,_,_=>none
def vK(cs:T (List AV))(n k:Nat):Option (T (List AV)):=Bool.rec (Option.rec none (fun l=>some (fR l 0 .leaf)) (kZ cs n 0)) (some cs) (Nat.beq n k)
def KR:Option (List (List AV))→List (List AV)→Nat→Nat→Nat→Nat→St→Nx
 |some old,new,n,m,size,e,s=>oP s (.cells (fR new n (fR old 0 .leaf)) (Nat.add n m) size e true) (Nat.add n m) (.gap 0)
 |none,_,_,_,_,_,_=>.bad 121
def KS:Option (T (List AV))→Nat→List (List AV)→Nat→Nat→Nat→Nat→St→Nx
 |some cs,b,new,n,m,size,e,s=>oP (s.del b) (.cells (fR new n cs) (Nat.add n m) size e true) (Nat.add n m) (.gap 0)
 |none,_,_,_,_,_,_,_=>.bad 122
def KT:Cp→T (List AV)→Nat→Nat→Nat→Bool→Nat→Nat→Nat→List (List AV)→Nat→St→Nx
 |.ex c,cs,k,size,e,r,b,o,n,new,m,s=>Bool.rec (KR (kZ cs n (Nat.div o size)) new n m size e s) (Bool.rec (.bad 127) (.val (.slc b o (Nat.add n m) (.ex c)) (s.put b (.cells (fR new (Nat.add (Nat.div o size) n) cs) k size e r))) (Nat.ble (Nat.add (Nat.add (Nat.div o size) n) m) k)) (Nat.ble (Nat.add n m) c)
 |.gap g,cs,k,size,e,r,b,o,n,new,m,s=>Bool.rec (.bad 123) (KS (vK cs n k) b new n m size e s) (and (and (Nat.beq o 0) (Nat.beq g 0)) (and r (Nat.ble n k)))
def KU:Option bk→Cp→Nat→Nat→Nat→Nat→Nat→List (List AV)→Nat→St→Nx
 |some (.cells cs k size t r),c,b,o,n,e,z,new,m,s=>Bool.rec (.bad 128) (KT c cs k size t r b o n new m s) (and (and (Nat.beq size z) (Nat.beq t e)) (and (Nat.beq (Nat.mod o size) 0) (Nat.ble (Nat.add n m) 67108864)))
 |_,_,_,_,_,_,_,_,_,_=>.bad 124
def zk:AV→Nat→Nat→List (List AV)→Nat→St→Nx
 |.lit (.slice none 0 0),e,z,new,m,s=>Bool.rec (Bool.rec (.bad 129) (oP s (.cells (fR new 0 .leaf) m z e true) m (.gap 0)) (Nat.ble m 67108864)) (.val (.lit (.slice none 0 0)) s) (Nat.beq m 0)
 |.slc b o n c,e,z,new,m,s=>KU (s.get b) c b o n e z new m s
 |_,_,_,_,_,_=>.bad 125
def KW:Option (List (List AV)×Nat)→AV→Nat→Nat→St→Nx
 |some p,x,e,z,s=>zk x e z p.1 p.2 s
 |none,_,_,_,_=>.bad 120
def KY:AV→AV→Nat→Nat→St→Nx
 |x,y,e,z,s=>KW (oS y z s) x e z s
def KZ:Option Nat→St→Nx
 |some n,s=>.val (.int .i64 (.ofNat n)) s
 |none,_=>.bad 150
def La:Option bk→Option Nat
 |some (.map _ es)=>some (cK es)
 |_=>none
inductive LK where
 |str|slc|map
def qo:LK→AV→St→Option Nat
 |.str,.str l,_=>some (cK l)
 |.slc,.slc _ _ n _,_=>some n
 |.slc,.lit (.slice none 0 0),_=>some 0
 |.slc,.emp,_=>some 0
 |.map,.lit (.map none),_=>some 0
 |.map,.map b,s=>La (s.get b)
 |_,_,_=>none
def zm(o:Option (List Nat)):Option AV:=Option.rec none (fun l=>some (.str l)) o
def Lb:Option Nat→Option Nat→List Nat→Option AV
 |some a,some b,l=>Bool.rec none (zm (oO (rM l a) (Nat.sub b a))) (and (Nat.ble a b) (Nat.ble b (cK l)))
 |_,_,_=>none
def Eg:Cp→Nat→Nat→Nat→Nat→Nat→Nat→Option AV
 |.ex c,b,o,_,size,i,j=>Bool.rec none (some (.slc b (Bool.rec (Nat.add o (Nat.mul i size)) o (Nat.beq c i)) (Nat.sub j i) (.ex (Nat.sub c i)))) (and (Nat.ble i j) (Nat.ble j c))
 |.gap g,b,o,n,size,i,j=>Bool.rec none (Bool.rec (Bool.rec (some .emp) (some (.slc b (Nat.add o (Nat.mul i size)) (Nat.sub j i) (.gap (Nat.add g i)))) (Nat.ble (i+1) j)) (some (.slc b o j (.gap g))) (Nat.beq i 0)) (and (Nat.ble i j) (Nat.ble j n))
def Lc:Option Nat→Option Nat→Nat→Nat→Nat→Nat→Cp→Option AV
 |some i,some j,z,b,o,n,c=>Eg c b o n z i j
 |_,_,_,_,_,_,_=>none
def Eh:Option Nat→Option Nat→AV→Option AV
 |some 0,some 0,x=>some x
 |_,_,_=>none
def vL:AV→Option Nat→Option AV→Option AV→Option AV
 |.str l,none,lo,hi=>Lb (gL lo 0) (gL hi (cK l)) l
 |.slc b o n c,some z,lo,hi=>Lc (gL lo 0) (gL hi n) z b o n c
 |.lit (.slice none 0 0),some _,lo,hi=>Eh (gL lo 0) (gL hi 0) (.lit (.slice none 0 0))
 |_,_,_,_=>none
inductive CK where
 |int (k:IntKind)|float (k:FloatKind)|str|bytes (e:Nat)|ofBytes|rune|no
def oU:TypeDesc→Bool
 |.int .u8=>true
 |_=>false
def qp:TypeDesc→TypeDesc→Tb→CK
 |.int _,.int k,_=>.int k
 |.int _,.float k,_=>.float k
 |.string,.string,_=>.str
 |.int _,.string,_=>.rune
 |.string,.slice e,P=>Bool.rec .no (.bytes e) (oU (dsc P e))
 |.slice e,.string,P=>Bool.rec .no .ofBytes (oU (dsc P e))
 |_,_,_=>.no
def WJ:Option (List (List AV)×Nat)→St→Nx
 |some p,s=>vl (zm (qm p.1)) 131 s
 |_,_=>.bad 132
def vM:IntKind→Bool
 |.i8=>false
 |_=>true
def oW:CK→AV→St→Nx
 |.int k,.int _ n,s=>.val (.int k (k.wrap n)) s
 |.float k,.int _ n,s=>.val (.lit (.float k (k.nearest n))) s
 |.int k,.cls _ m r,s=>Bool.rec (.bad 135) (.val (.cls k m r) s) (vM k)
 |.str,.str l,s=>.val (.str l) s
 |.rune,.int _ n,s=>.val (fm (Utf8.encode n)) s
 |.bytes e,.str l,s=>oP s (.cells (fR (bZ zi l) 0 .leaf) (cK l) 1 e true) (cK l) (.gap 0)
 |.ofBytes,.slc b o n c,s=>WJ (oS (.slc b o n c) 1 s) s
 |.ofBytes,.lit (.slice none 0 0),s=>.val (.str []) s
 |_,_,_=>.bad 134
def tM:Bool→Nat→List AV→Nat→Option AV
 |true,n,l,o=>tI (rP l o n)
 |false,_,l,o=>jH l o
def rR:AV→List AV→St→Nx
 |.fn f first cap,args,s=>.call f (iD first (iD args cap)) s
 |_,_,_=>.bad 140
def zn:AV→AV→Nat→St→Nx
 |.int k x,.int _ y,0,s=>.val (.int k (if x<y then y else x)) s
 |.int k x,.int _ y,1,s=>.val (.int k (if y<x then y else x)) s
 |.lit (.float .f64 x),.lit (.float .f64 y),2,s=>.val (.lit (.complex .f64 x y)) s
 |_,_,_,_=>.bad 152
def fst(l:List AV):AV:=List.rec und (fun a _ _=>a) l
def snd(l:List AV):AV:=List.rec und (fun _ l _=>fst l) l
def zo:AV→AV→AV→St→Nx
 |.bool true,a,_,s=>.val a s
 |.bool false,_,b,s=>.val b s
 |_,_,_,_=>.bad 1
def qq(l:List AV):T (List AV):=.node (some l) .leaf .leaf
def tN(l:List AV)(size t:Nat)(s:St):Nx:=Bool.rec (.bad 53) (KD s (.cells (qq l) 1 size t false)) (and (fL l) (Nat.beq (cK l) size))
def Ld:Option (List AV)→Nat→Nat→St→Nx
 |some z,size,t,s=>tN z size t s
 |none,_,_,_=>.bad 2
def Le:Option (T (List AV))→Nat→Nat→Nat→St→Nx
 |some c,n,size,e,s=>oP s (.cells c n size e false) n (.ex n)
 |none,_,_,_,_=>.bad 4
def Ei:Option (List AV)→Nat→Nat→Nat→List (Nat×AV)→St→Nx
 |some z,n,size,e,ps,s=>Bool.rec (.bad 54) (Le (tJ size n ps (mI z n)) n size e s) (and (Nat.ble (Nat.mul n size) 16777216) (and (fL z) (Nat.beq (cK z) size)))
 |none,_,_,_,_,_=>.bad 5
def Lf:AV→St→Nx
 |.ptr b o,s=>.val (.ptr b o) s
 |.fn f a c,s=>.val (.fn f a c) s
 |.ifc t v,s=>.val (.ifc t v) s
 |_,_=>.bad 7
def Lg:UnOp→AV→St→Nx
 |.not,.bool b,s=>.val (.bool (!b)) s
 |.neg,.int k n,s=>.val (.int k (k.wrap (0-n))) s
 |_,_,_=>.bad 9
def WK:Option (List AV)→Nat→Nat→Nat→Nat→Nat→St→Nx
 |some z,n,m,size,bytes,e,s=>Bool.rec (.bad 10) (oP s (.cells (mI z m) m size e false) n (.ex m)) (and (and (Nat.ble n m) (and (Nat.ble m 1048576) (Nat.ble bytes 1048576))) (and (fL z) (Nat.beq (cK z) size)))
 |none,_,_,_,_,_,_=>.bad 11
def zp:AV→AV→Option (List AV)→Nat→Nat→Nat→St→Nx
 |.int _ (.ofNat n),.int _ (.ofNat m),z,size,bytes,e,s=>WK z n m size bytes e s
 |_,_,_,_,_,_,_=>.bad 12
def Lh:Option Nat→Nat→Nat→St→Nx
 |some k,b,o,s=>.val (.ptr b (Nat.add o k)) s
 |none,_,_,_=>.bad 14
def mJ(n:Nat):Option Nat→St→Nx:=fun _ _=>.bad n
def WL(b o:Nat)(k:Option Nat)(s:St):Nx:=Lh k b o s
def Ej(v:AV):Option Nat→St→Nx:=v.el (mJ 15) (fun _ _=>mJ 15) (fun _=>mJ 15) (fun _=>mJ 15) (fun _=>mJ 15) WL (fun _ _ _ _=>mJ 15) (fun _=>mJ 15) (fun _=>mJ 15) (fun _=>mJ 15) (fun _ _=>mJ 15) (fun _ _ _=>mJ 15)
structure FI where
 off:Nat
 agg:Bool
 size:Nat
def WM:Option FI→List AV→St→Nx
 |some f,l,s=>vl (tM f.agg f.size l f.off) 16 s
 |none,_,_=>.bad 17
def Ek:AV→Option FI→St→Nx
 |.agg l,f,s=>WM f l s
 |_,_,_=>.bad 18
def vN:Option Nat→Nat→Nat→Nat→St→Nx
 |some j,b,o,size,s=>.val (.ptr b (Nat.add o (Nat.mul j size))) s
 |none,_,_,_,_=>.bad 19
def WN:Option Nat→AV→AV→Nat→St→Nx
 |some n,.ptr b o,i,z,s=>vN (idx i n) b o z s
 |_,_,_,_,_=>.bad 21
def Em:AV→AV→Option Nat→Nat→St→Nx
 |.slc b o n _,i,none,z,s=>vN (idx i n) b o z s
 |x,i,n,z,s=>WN n x i z s
def Li(o:Option Nat):Option AV:=Option.rec none (fun b=>some (.int .u8 (.ofNat b))) o
def Lj:Option Nat→List Nat→St→Nx
 |some j,l,s=>vl (Li (jH l j)) 22 s
 |none,_,_=>.bad 23
def Ll:Option Nat→Bool→Nat→List AV→St→Nx
 |some j,g,z,l,s=>vl (tM g z l (Nat.mul j z)) 24 s
 |none,_,_,_,_=>.bad 25
def Eo:AV→AV→Option Nat→Bool→Nat→St→Nx
 |.str l,i,none,_,_,s=>Lj (idx i (cK l)) l s
 |.agg l,i,some n,g,z,s=>Ll (idx i n) g z l s
 |_,_,_,_,_,_=>.bad 26
def Lm:Option bk→KK→AV→Option (Option AV)
 |some (.map kk es),k,i=>Bool.rec none (some (iF i es)) (and (Ed kk k) (fits kk i))
 |_,_,_=>none
def vO:AV→KK→AV→St→Option (Option AV)
 |.map b,k,i,s=>Lm (s.get b) k i
 |.lit (.map none),k,i,_=>Bool.rec none (some none) (fits k i)
 |_,_,_,_=>none
def mK(ok:Bool)(u:AV)(b:Bool):AV:=Bool.rec u (.tup [u,.bool b]) ok
def Ep:Option AV→Bool→St→Nx
 |some z,ok,s=>.val (mK ok z false) s
 |none,_,_=>.bad 27
def Er:Option (Option AV)→Option AV→Bool→St→Nx
 |some (some u),_,ok,s=>.val (mK ok u true) s
 |some none,z,ok,s=>Ep z ok s
 |none,_,_,_=>.bad 28
def Ln:Option bk→KK→AV→AV→Nat→St→Nx
 |some (.map kk es),c,k,x,b,s=>Bool.rec (.bad 30) (.val und (s.put b (.map kk (gK k x es)))) (and (Ed kk c) (fits kk k))
 |_,_,_,_,_,_=>.bad 31
def Es:AV→KK→AV→AV→St→Nx
 |.map b,c,k,x,s=>Ln (s.get b) c k x b s
 |_,_,_,_,_=>.bad 32
def Lo:AV→St→Nx
 |.str l,s=>KD s (.siter l 0)
 |_,_=>.bad 33
def bw(l:List Nat):ByteArray:=⟨(l.map UInt8.ofNat).toArray⟩
def Lp:Nat×Nat→List Nat→Nat→Nat→St→Nx
 |(c,n),l,p,k,s=>.val (.tup [.bool true,.int .i64 (.ofNat p),.int .i32 (.ofNat c)]) (s.put k (.siter l (p+n)))
def Et:List Nat→List Nat→Nat→Nat→St→Nx
 |[],_,_,_,s=>.val (.tup [.bool false]) s
 |b::_,l,p,k,s=>Bool.rec (Lp (Utf8.decode (bw l) p) l p k s) (.val (.tup [.bool true,.int .i64 (.ofNat p),.int .i32 (.ofNat b)]) (s.put k (.siter l (Nat.add p 1)))) (Nat.ble b 127)
def Eu:Option bk→Bool→Nat→St→Nx
 |some (.siter l p),true,k,s=>Et (rM l p) l p k s
 |_,_,_,_=>.bad 49
def Ev:AV→Bool→St→Nx
 |.ptr b 0,str,s=>Eu (s.get b) str b s
 |_,_,_=>.bad 50
def Ew:Bool→Option AV→St→Nx
 |true,z,s=>Ep z true s
 |false,_,_=>.bad 36
def zq:AV→Option AV→Nat→Bool→St→Nx
 |.ifc u w,z,t,ok,s=>Bool.rec (Ew ok z s) (.val (mK ok w true) s) (Nat.beq u t)
 |.lit .nilIface,z,_,ok,s=>Ew ok z s
 |_,_,_,_,_=>.bad 39
def Lq:AV→Nat→St→Nx
 |.tup l,i,s=>vl (jH l i) 40 s
 |_,_,_=>.bad 41
def nA(l:List MV)(tm:Tm):List AV:=List.rec [] (fun x _ ih=>ev x tm::ih) l
def zr(l:List (Nat×MV))(tm:Tm):List (Nat×AV):=List.rec [] (fun x _ ih=>(x.1,ev x.2 tm)::ih) l
def tO(l:List (Nat×Nat×MV))(tm:Tm):List (Nat×Nat×AV):=List.rec [] (fun x _ ih=>(x.1,x.2.1,ev x.2.2 tm)::ih) l
def jh(o:Option MV)(tm:Tm):Option AV:=Option.rec none (fun x=>some (ev x tm)) o
def Ey:AV→St→Nx
 |.ifc t v,s=>.pan (.ifc t v) s
 |_,_=>.bad 46
def Ez:Nx→Nx
 |.call f a s=>.defer f a s
 |_=>.bad 43
inductive cg where
 |mov (x:MV)
 |pick (c a b:MV)
 |alloc (z:Option (List AV)) (size t:Nat)
 |box (size t:Nat) (x:MV)
 |build (z:Option (List AV)) (ps:List (Nat×Nat×MV))
 |row (z:Option (List AV)) (n size e:Nat) (ps:List (Nat×MV))
 |load (g:Bool) (size:Nat) (a:MV)
 |store (size:Nat) (a x:MV)
 |isNil (x:MV)
 |bin (op:BinOp) (k:EQ) (x y:MV)
 |un (op:UnOp) (x:MV)
 |conv (k:CK) (x:MV)
 |ifc (t:Nat) (x:MV)
 |func (f:Nat) (a c:List MV)
 |mkMap (k:KK)
 |mkSlice (z:Option (List AV)) (size bytes e:Nat) (l c:MV)
 |slice (size:Option Nat) (x:MV) (lo hi:Option MV)
 |fieldAddr (o:Option Nat) (x:MV)
 |field (f:Option FI) (x:MV)
 |indexAddr (n:Option Nat) (size:Nat) (x i:MV)
 |index (n:Option Nat) (g:Bool) (size:Nat) (x i:MV)
 |lookup (kk:KK) (z:Option AV) (ok:Bool) (x i:MV)
 |update (kk:KK) (m k x:MV)
 |range (x:MV)
 |next (x:MV) (str:Bool)
 |assert (z:Option AV) (t:Nat) (ok:Bool) (x:MV)
 |extract (x:MV) (i:Nat)
 |append (size e:Nat) (x y:MV)
 |len (k:LK) (x:MV)
 |mm (k:Nat) (x y:MV)
 |recov
 |call (f:MV) (a:List MV)
 |defer (f:MV) (a:List MV)
 |panic (x:MV)
 |none
def hH(P:Tb)(t:Nat):Option (List AV):=Option.rec none (fun z=>some (cellsOf z)) (zero P t)
def zt:TypeDesc→List Field
 |.struct fs=>fs.toList
 |_=>[]
def EA(P:Tb)(o:Option Field):Option FI:=Option.rec none (fun f=>Bool.rec none (some ⟨f.offset,iS P f.type,aN P f.type⟩) (eD P f.type)) o
def EB(P:Tb)(o:Option Field):Option Nat:=Option.rec none (fun f=>Bool.rec none (some f.offset) (and (eD P f.type) (Nat.ble 1 (aN P f.type)))) o
def kn(P:Tb)(t:Nat)(m:cg):cg:=Bool.rec .none m (eD P t)
def tP(P:Tb)(fs:List Field):Bool:=List.rec true (fun f _ ih=>and (eD P f.type) ih) fs
def Lr(P:Tb)(x:MV)(o:Option Field)(r:Option (List (Nat×Nat×MV))):Option (List (Nat×Nat×MV)):=Option.rec Option.none (fun f=>Option.rec Option.none (fun l=>some ((f.offset,aN P f.type,x)::l)) r) o
def rS(P:Tb)(ns:NS)(fs:List Field)(ps:List (Nat×Operand)):Option (List (Nat×Nat×MV)):=List.rec (some []) (fun p _ ih=>Lr P (mv ns p.2) (jH fs p.1) ih) ps
def Ls(z:Option (List AV))(o:Option (List (Nat×Nat×MV))):cg:=Option.rec .none (fun l=>.build z l) o
def EC(ns:NS):TypeDesc→Option (List AV)→Tb→List (Nat×Operand)→cg
 |.struct fs,z,P,ps=>Bool.rec .none (Ls z (rS P ns fs.toList ps)) (tP P fs.toList)
 |.array _ e,z,P,ps=>kn P e (.build z (bZ (fun p=>(Nat.mul p.1 (aN P e),aN P e,mv ns p.2)) ps))
 |_,_,_,_=>.none
def mL:TypeDesc→Nat
 |.slice e=>e
 |.array _ e=>e
 |.map _ e=>e
 |_=>0
def Lt(z:Option (List AV))(size:Nat):Bool:=Option.rec false (fun l=>and (fL l) (Nat.beq (cK l) size)) z
def Lu:TypeDesc→Bool
 |.slice _=>true
 |.string=>true
 |_=>false
def zv(P:Tb)(tx:TypeDesc)(x y:MV):TypeDesc→cg
 |.slice e=>kn P e (Bool.rec .none (.append (aN P e) e x y) (and (and (Lu tx) (Nat.ble (rO P e) 1048576)) (and (Nat.ble 1 (aN P e)) (Lt (hH P e) (aN P e)))))
 |_=>.none
def zw(x:MV):TypeDesc→cg
 |.string=>.len .str x
 |.slice _=>.len .slc x
 |.map _ _=>.len .map x
 |_=>.none
def tQ(ns:NS):Builtin→List Operand→List Nat→Tb→cg
 |.append,[x,y],[t,tx],P=>zv P (dsc P tx) (mv ns x) (mv ns y) (dsc P t)
 |.len,[x],[t],P=>zw (mv ns x) (dsc P t)
 |.max,[x,y],_,_=>.mm 0 (mv ns x) (mv ns y)
 |.min,[x,y],_,_=>.mm 1 (mv ns x) (mv ns y)
 |.complex,[x,y],_,_=>.mm 2 (mv ns x) (mv ns y)
 |.recover,_,_,_=>.recov
 |_,_,_,_=>.none
def vP(ns:NS):Callee→Call→Tb→cg
 |.builtin b,c,P=>tQ ns b c.args.toList c.argTypes.toList P
 |.value f,c,_=>.call (mv ns f) (bZ (mv ns) c.args.toList)
 |_,_,_=>.none
def ED(ns:NS):Callee→Call→cg
 |.value f,c=>.defer (mv ns f) (bZ (mv ns) c.args.toList)
 |_,_=>.none
def Lw:Fn→List MV→List MV→cg
 |.func f,a,c=>.func f a c
 |_,_,_=>.none
def Lx:Option Operand→cg→cg
 |Option.none,m=>m
 |some _,_=>.none
def zx(P:Tb)(x:MV)(lo hi:Option MV):TypeDesc→cg
 |.string=>.slice Option.none x lo hi
 |.slice e=>kn P e (.slice (some (aN P e)) x lo hi)
 |_=>.none
def EE(P:Tb)(x i:MV):TypeDesc→cg
 |.slice e=>kn P e (.indexAddr Option.none (aN P e) x i)
 |.array n e=>kn P e (.indexAddr (some n) (aN P e) x i)
 |_=>.none
def EF(P:Tb)(x i:MV):TypeDesc→cg
 |.string=>.index Option.none false 0 x i
 |.array n e=>kn P e (.index (some n) (iS P e) (aN P e) x i)
 |_=>.none
def gd(ns:NS)(o:Option Operand):Option MV:=Option.rec Option.none (fun x=>some (mv ns x)) o
def nB:TypeDesc→Bool
 |.interface _=>true
 |_=>false
def dj:Operand→Bool
 |.const _=>true
 |_=>false
def oX:TypeDesc→Option EK
 |.bool=>some .bool
 |.int _=>some .int
 |.string=>some .str
 |.complex _=>some .cplx
 |.pointer _=>some .ptr
 |.interface _=>some .iface
 |.slice _=>some .slc
 |.map _ _=>some .map
 |.func _ _ _=>some .fn
 |_=>Option.none
def EG(k:Option EK)(r:Option (List EK)):Option (List EK):=Option.rec Option.none (fun a=>Option.rec Option.none (fun b=>some (a::b)) r) k
def oY(P:Tb)(fs:List Field):Nat→Option (List EK):=List.rec (fun _=>some []) (fun x _ ih at_=>Bool.rec Option.none (EG (oX (dsc P x.type)) (ih (at_+1))) (and (Nat.beq x.offset at_) (not (x.name== "_")))) fs
def oZ(P:Tb)(t:Nat):Bool:=Option.rec true (fun i=>i.held) (P.ty.at_ t)
def jV(P:Tb)(t:Nat):Bool:=Option.rec true (fun i=>i.guard) (P.ty.at_ t)
def EH(o:Option (List EK)):EQ:=Option.rec .no .many o
def zy(o:Option EK):EQ:=Option.rec .no .one o
def rT(P:Tb)(t:Nat)(c:Bool):TypeDesc→EQ
 |.struct fs=>Bool.rec (EH (oY P fs.toList 0)) .no (or (oZ P t) (jV P t))
 |.interface _=>Bool.rec (Bool.rec (.one .iface) .no (jV P t)) (.one .iface) c
 |d=>zy (oX d)
def nC(P:Tb)(t:Nat)(c:Bool):EQ:=rT P t c (dsc P t)
def vQ(P:Tb):TypeDesc→cg→cg
 |.slice e,m=>kn P e m
 |_,_=>.none
def pd:TypeDesc→Option KK
 |.int k=>some (.int k)
 |.string=>some .str
 |.bool=>some .bool
 |_=>Option.none
def mM(P:Tb):TypeDesc→Option KK
 |.map k _=>pd (dsc P k)
 |_=>Option.none
def tR(f:KK→cg)(o:Option KK):cg:=Option.rec .none f o
def EI:Option Operand→Option KK→cg
 |Option.none,some k=>.mkMap k
 |_,_=>.none
def EJ(x:MV):TypeDesc→cg
 |.string=>.range x
 |_=>.none
def cmp(ns:NS):Op→Tb→cg
 |.move x,_=>.mov (mv ns x)
 |.assign x,_=>.mov (mv ns x)
 |.pick c a b,_=>.pick (mv ns c) (mv ns a) (mv ns b)
 |.alloc t,P=>kn P t (.alloc (hH P t) (aN P t) t)
 |.box t x,P=>kn P t (.box (aN P t) t (mv ns x))
 |.build t ps,P=>EC ns (dsc P t) (hH P t) P ps.toList
 |.buildSlice t n ps,P=>vQ P (dsc P t) (.row (hH P (mL (dsc P t))) n (aN P (mL (dsc P t))) (mL (dsc P t)) (bZ (fun p=>(p.1,mv ns p.2)) ps.toList))
 |.load t a,P=>kn P t (.load (iS P t) (aN P t) (mv ns a))
 |.store t a x,P=>kn P t (.store (aN P t) (mv ns a) (mv ns x))
 |.nilCheck x,_=>.isNil (mv ns x)
 |.binOp op t x y _,P=>.bin op (nC P t (or (dj x) (dj y))) (mv ns x) (mv ns y)
 |.unOp op _ x,_=>.un op (mv ns x)
 |.convert a b x,P=>.conv (qp (dsc P a) (dsc P b) P) (mv ns x)
 |.makeInterface t x,P=>kn P t (Bool.rec (.ifc t (mv ns x)) .none (nB (dsc P t)))
 |.makeFunc f a c,_=>Lw f (bZ (mv ns) a.toList) (bZ (mv ns) c.toList)
 |.makeMap t r,P=>EI r (mM P (dsc P t))
 |.makeSlice t l c,P=>vQ P (dsc P t) (.mkSlice (hH P (mL (dsc P t))) (aN P (mL (dsc P t))) (rO P (mL (dsc P t))) (mL (dsc P t)) (mv ns l) (mv ns c))
 |.slice t x lo hi m,P=>Lx m (zx P (mv ns x) (gd ns lo) (gd ns hi) (dsc P t))
 |.fieldAddr t x i,P=>.fieldAddr (EB P (jH (zt (dsc P t)) i)) (mv ns x)
 |.field t x i,P=>.field (EA P (jH (zt (dsc P t)) i)) (mv ns x)
 |.indexAddr t x i,P=>EE P (mv ns x) (mv ns i) (dsc P t)
 |.index t x i,P=>EF P (mv ns x) (mv ns i) (dsc P t)
 |.lookup t x i ok,P=>tR (fun k=>.lookup k (zero P (mL (dsc P t))) ok (mv ns x) (mv ns i)) (mM P (dsc P t))
 |.mapUpdate t m k x,P=>tR (fun c=>.update c (mv ns m) (mv ns k) (mv ns x)) (mM P (dsc P t))
 |.insert t m k x,P=>tR (fun c=>.update c (mv ns m) (mv ns k) (mv ns x)) (mM P (dsc P t))
 |.range t x,P=>EJ (mv ns x) (dsc P t)
 |.next x str,_=>.next (mv ns x) str
 |.typeAssert x _ t ok,P=>kn P t (Bool.rec (.assert (zero P t) t ok (mv ns x)) .none (nB (dsc P t)))
 |.extract x i,_=>.extract (mv ns x) i
 |.call c,P=>vP ns c.callee c P
 |.defer c,_=>ED ns c.callee c
 |.panic x,_=>.panic (mv ns x)
 |_,_=>.none
def fS(o:cg):Tm→St→Nx:=cg.rec
 (fun x tm s=>.val (ev x tm) s)
 (fun c a b tm s=>zo (ev c tm) (ev a tm) (ev b tm) s)
 (fun z size t _ s=>Ld z size t s)
 (fun size t x tm s=>tN (cellsOf (ev x tm)) size t s)
 (fun z ps tm s=>vl (KL z (tO ps tm)) 3 s)
 (fun z n size e ps tm s=>Ei z n size e (zr ps tm) s)
 (fun g size a tm s=>qk (ev a tm) g size s)
 (fun size a x tm s=>zd (ev a tm) size (ev x tm) s)
 (fun x tm s=>Lf (ev x tm) s)
 (fun op k x y tm s=>vl (Ee (ev x tm) (ev y tm) op k) 8 s)
 (fun op x tm s=>Lg op (ev x tm) s)
 (fun k x tm s=>oW k (ev x tm) s)
 (fun t x tm s=>.val (.ifc t (ev x tm)) s)
 (fun f a c tm s=>.val (.fn f (nA a tm) (nA c tm)) s)
 (fun k _ s=>.val (.map s.next) (s.add (.map k [])))
 (fun z size bytes e l c tm s=>zp (ev l tm) (ev c tm) z size bytes e s)
 (fun size x lo hi tm s=>vl (vL (ev x tm) size (jh lo tm) (jh hi tm)) 13 s)
 (fun o x tm s=>Ej (ev x tm) o s)
 (fun f x tm s=>Ek (ev x tm) f s)
 (fun n size x i tm s=>Em (ev x tm) (ev i tm) n size s)
 (fun n g size x i tm s=>Eo (ev x tm) (ev i tm) n g size s)
 (fun kk z ok x i tm s=>Er (vO (ev x tm) kk (ev i tm) s) z ok s)
 (fun kk m k x tm s=>Es (ev m tm) kk (ev k tm) (ev x tm) s)
 (fun x tm s=>Lo (ev x tm) s)
 (fun x str tm s=>Ev (ev x tm) str s)
 (fun z t ok x tm s=>zq (ev x tm) z t ok s)
 (fun x i tm s=>Lq (ev x tm) i s)
 (fun size e x y tm s=>KY (ev x tm) (ev y tm) e size s)
 (fun k x tm s=>KZ (qo k (ev x tm) s) s)
 (fun k x y tm s=>zn (ev x tm) (ev y tm) k s)
 (fun _ s=>.recov s)
 (fun f a tm s=>rR (ev f tm) (nA a tm) s)
 (fun f a tm s=>Ez (rR (ev f tm) (nA a tm) s))
 (fun x tm s=>Ey (ev x tm) s)
 (fun _ _=>.bad 45) o
abbrev Ds:=List (Nat×List AV)
inductive Ex where
 |normal|exit (id:Nat)|goto (l:Nat)|ret
inductive Md where
 |ret
 |pan (v:AV) (done:Bool)
inductive aS where
 |ok (e:Ex) (tm:Tm) (ds:Ds) (s:St)
 |ret (v:AV) (s:St)
 |pan (v:AV) (tm:Tm) (ds:Ds) (s:St)
 |okR (e:Ex) (tm:Tm) (m:Md) (s:St)
 |retR (m:Md) (s:St)
 |bad (n:List Nat)
structure MO where
 op:cg
 dst:MD
 guard:Option (MV×Bool)
def vR(l:List Oper):Nat→Option Nat:=List.rec (fun _=>none) (fun o _ ih n=>Nat.rec o.dst (fun n _=>ih n) n) l
def qt(ns:NS)(all:List Oper)(p:Nat×Bool):Option (MV×Bool):=some (Option.rec (.val und) (fun d=>bM ns d) (vR all p.1),p.2)
def kF(nt:Nat)(m:cg)(d:Option Nat):cg:=Option.rec m (fun d=>Bool.rec .none m (Nat.ble (d+1) nt)) d
def fo(P:Tb)(ns:NS)(nt:Nat)(all:List Oper)(o:Oper):MO:=⟨kF nt (cmp ns o.op P) o.dst,md ns o.dst,Option.rec none (qt ns all) o.guard⟩
def tS(P:Tb)(ns:NS)(nt:Nat)(l:Array Oper):List MO:=bZ (fo P ns nt l.toList) l.toList
structure DO where
 mo:MO
 slot:Option Nat
 pre:Option Nat
 rd:List MV
structure Rc where
 ix:Nat
 md:MD
 fp:List Nat
 tl:List Nat
 lo:Nat
 hi:Nat
 call:Bool
def cL(m n:Nat):Bool:=Nat.beq (Nat.land 1 (Nat.shiftRight m n)) 1
def EL(p q:Option Nat)(i:Nat):Option Nat:=Option.rec none (fun p=>Option.rec none (fun q=>some (Nat.lor (Nat.lor p (Nat.shiftLeft 1 i)) q)) q) p
def cX(ps:T Nat)(l:List Edge):Option Nat:=List.rec (some 0) (fun e _ ih=>Bool.rec ih (EL (ps.at_ e.on) ih e.on) (Region.binds .any e)) l
def pe(o:Option Nat)(i:Nat)(ps:T Nat):T Nat:=Option.rec ps (fun p=>ps.set i p) o
def lM(P:Tb)(ns:NS)(nt:Nat)(all:List Oper)(l:List Oper):Nat→T Nat→List DO:=
 List.rec (fun _ _=>[]) (fun o _ ih i ps=>⟨fo P ns nt all o,o.dst,cX ps o.after.toList,bZ (mv ns) o.op.operands.toList⟩::ih (i+1) (pe (cX ps o.after.toList) i ps)) l
def vS(P:Tb)(ns:NS)(nt:Nat)(l:Array Oper):List DO:=lM P ns nt l.toList l.toList 0 .leaf
inductive EM where
 |ops (l:List MO) (tm:Tm) (ds:Ds) (s:St)
 |dops (l:List DO) (rs:List Rc) (dn:Nat) (base:Nat) (tm:Tm) (s:St)
 |code (c:Code) (f:Nat) (tm:Tm) (ds:Ds) (s:St)
 |fn (f:Nat) (args:List AV) (s:St)
 |lv (f:Nat) (tm:Tm) (ds:Ds) (m:Md) (s:St)
 |rfn (f:Nat) (args:List AV) (m:Md) (s:St)
 |rcode (c:Code) (f:Nat) (tm:Tm) (m:Md) (s:St)
 |rops (l:List MO) (tm:Tm) (m:Md) (s:St)
def zA(v:AV):Bool→Option Bool:=v.el (fun _=>none) (fun _ _ _=>none) (fun b w=>some (Bool.rec (not w) w b)) (fun _ _=>none) (fun _ _=>none) (fun _ _ _=>none) (fun _ _ _ _ _=>none) (fun _ _=>none) (fun _ _=>none) (fun _ _=>some false) (fun _ _ _=>none) (fun _ _ _ _=>none)
def nD(g:Option (MV×Bool)):Tm→Option Bool:=Option.rec (fun _=>some true) (fun p tm=>zA (ev p.1 tm) p.2) g
def Ly:Operand→List Nat→List Nat
 |.tmp t,l=>t::l
 |_,l=>l
def tT(a:Nat)(l:List Nat):Bool:=List.rec false (fun b _ ih=>Bool.rec ih true (Nat.beq a b)) l
def WO(xs:List Operand)(done acc:List Nat):List Nat:=List.rec acc (fun x _ ih=>List.rec ih (fun t _ _=>Bool.rec (t::ih) ih (tT t done)) (Ly x [])) xs
def WQ(o:Option Nat)(l:List Nat):List Nat:=Option.rec l (fun d=>d::l) o
def WR(l:List Oper):List Nat→List Nat→List Nat:=List.rec (fun _ acc=>acc) (fun o _ ih done acc=>ih (WQ o.dst done) (WO o.op.operands.toList done acc)) l
def WS(c:Code):List Nat→List Nat:=Code.rec (fun acc=>acc) (fun _ ops _ acc=>WR ops.toList [] acc) (fun _ _ ia ib acc=>ia (ib acc)) (fun x _ _ ia ib acc=>ia (ib (Ly x acc))) (fun _ _ ih acc=>ih acc) (fun _ ih acc=>ih acc) (fun _ _ _ _ _ _ acc=>acc) (fun _ acc=>acc) (fun _ ih acc=>ih acc) (fun _ acc=>acc) (fun _ acc=>acc) (fun acc=>acc) (fun _ acc=>acc) c
def WT:ResultVar→List Nat→List Nat
 |.tmp t,l=>t::l
 |.cell a _,l=>a::l
def WU(l:List Nat):NS:=List.rec .leaf (fun a _ ih=>ih.set a ()) l
def WV(o:Option Func):NS:=Option.rec .leaf (fun fn=>WU (WS (Option.rec .skip (fun c=>c) fn.body) (List.rec [] (fun r _ ih=>WT r ih) fn.results.toList))) o
def cY(P:Tb)(f:Nat):NS:=WV (P.fn.at_ f)
def ew(P:Tb)(f:Nat):Nat:=Option.rec 0 (fun fn=>fn.ntmps) (P.fn.at_ f)
def EO:Nx→Option AV
 |.val v _=>some v
 |_=>none
def Lz:Option AV→Option (List AV)→Option (List AV)
 |some v,some l=>some (v::l)
 |_,_=>none
def vT:ResultVar→NS→Tb→Tm→St→Option AV
 |.tmp t,ns,_,tm,_=>some (ev (bM ns t) tm)
 |.cell a t,ns,P,tm,s=>Bool.rec none (EO (qk (ev (bM ns a) tm) (iS P t) (aN P t) s)) (eD P t)
def nE(l:List ResultVar)(ns:NS)(P:Tb)(tm:Tm)(s:St):Option (List AV):=List.rec (some []) (fun r _ ih=>Lz (vT r ns P tm s) ih) l
def tU:Option (List AV)→Option AV
 |some [v]=>some v
 |some l=>some (.tup l)
 |none=>none
abbrev Rn:=EM→aS
def vU(r:aS):Rn→List MO→MD→Tm→Ds→aS:=aS.rec (fun _ _ _ _ _ _ _ _ _=>.bad [910]) (fun v s run l d tm ds=>run (.ops l (put d v tm) ds s)) (fun v _ _ s _ _ _ tm ds=>.pan v tm ds s) (fun _ _ _ _ _ _ _ _ _=>.bad [910]) (fun _ _ _ _ _ _ _=>.bad [910]) (fun e _ _ _ _ _=>.bad e) r
def iG:cg→Bool
 |.call _ _=>true
 |_=>false
def pf:cg→Nat
 |.call _ _=>1
 |.defer _ _=>2
 |.panic _=>3
 |.recov=>4
 |_=>0
def LA(x:Nx):cg→Rn→List MO→MD→Tm→Ds→aS:=Nx.rec
 (fun v s _ run l d tm ds=>run (.ops l (put d v tm) ds s))
 (fun f a s m run l d tm ds=>Bool.rec (.bad [916]) (vU (run (.fn f a s)) run l d tm ds) (iG m))
 (fun f a s m run l d tm ds=>Bool.rec (.bad [913]) (run (.ops l (put d und tm) ((f,a)::ds) s)) (Nat.beq (pf m) 2))
 (fun _ _ _ _ _ _ _=>.bad [914])
 (fun v s m _ _ _ tm ds=>Bool.rec (.bad [915]) (.pan v tm ds s) (Nat.beq (pf m) 3))
 (fun e _ _ _ _ _ _=>.bad [e]) x
def WW(b:Bool):MO→Rn→List MO→Tm→Ds→St→aS:=Bool.rec (fun o run l tm ds s=>run (.ops l (put o.dst und tm) ds s)) (fun o run l tm ds s=>LA (fS o.op tm s) o.op run l o.dst tm ds) b
def LB(b:Option Bool):MO→Rn→List MO→Tm→Ds→St→aS:=Option.rec (fun _ _ _ _ _ _=>.bad [904]) WW b
def gf(src:T bk)(l:List Nat)(dst:T bk):T bk:=List.rec dst (fun b _ ih=>ih.setP (iC b) (src.at_ b)) l
def WX(v:AV):List Nat:=v.el [] (fun _ _=>[]) (fun _=>[]) (fun _=>[]) (fun _=>[]) (fun b _=>[b]) (fun b _ _ _=>[b]) (fun b=>[b]) (fun _=>[]) (fun _=>[]) (fun _ _=>[]) (fun _ _ _=>[])
def vV(l:List MV)(tm:Tm):List Nat:=List.rec [] (fun x _ ih=>iD (WX (ev x tm)) ih) l
def cI(pre:Nat)(rs:List Rc):List Rc:=List.rec [] (fun r _ ih=>Bool.rec (r::ih) ih (cL pre r.ix)) rs
def hU(rs:List Rc)(tm:Tm):Tm:=List.rec tm (fun r _ ih=>put r.md .bot ih) rs
def EP(d:MD)(tm:Tm)(ix:Nat)(p:Option Nat):Tm:=Option.rec (put d .bot tm) (fun p=>Bool.rec (put d .bot tm) tm (cL p ix)) p
def gM(ix:Nat)(l:List DO)(tm:Tm):Tm:=List.rec tm (fun o _ ih=>EP o.mo.dst ih ix o.pre) l
def iT(f:Rc→List Nat)(rs:List Rc):List Nat:=List.rec [] (fun r _ ih=>iD (f r) ih) rs
def tV{α:Type}(p:α→Bool)(l:List α):Bool:=List.rec false (fun a _ ih=>or (p a) ih) l
def vW(l m:List Nat):Bool:=List.rec true (fun a _ ih=>and (not (tT a m)) ih) l
def rU{α:Type}(l:List α):Bool:=List.rec true (fun _ _ _=>false) l
def nF(lo n:Nat):List Nat:=Nat.rec (fun _=>[]) (fun _ ih lo=>lo::ih (lo+1)) n lo
def ER(lo hi b:Nat):Bool:=and (Nat.ble lo b) (Nat.ble (b+1) hi)
def zB(un:List Rc)(fp lg:List Nat):Bool:=and (vW fp (iT Rc.tl un)) (and (vW lg (iD (iT Rc.fp un) (iT Rc.tl un))) (not (tV (fun r=>and r.call (or (not (rU lg)) (tV (ER r.lo r.hi) fp))) un)))
def zC(un:List Rc)(nx:Nat)(lg:List Nat):Bool:=and (not (tV Rc.call un)) (and (not (tV (Nat.ble nx) (iT Rc.tl un))) (vW (iD (iT Rc.fp un) (iT Rc.tl un)) lg))
def jj(base:Nat)(l acc:List Nat):List Nat:=List.rec acc (fun b _ ih=>Bool.rec ih (b::ih) (Nat.ble (b+1) base)) l
def vX(run:Rn)(l:List DO)(rs:List Rc)(dn base:Nat)(tm:Tm)(d:MD)(v:AV)(r:Rc)(s:St):aS:=run (.dops l (r::rs) dn base (put d v tm) s)
def gN(rs:List Rc):Nat:=List.rec 0 (fun r _ _=>r.ix+1) rs
def LC(un:List Rc)(fp:List Nat)(run:Rn)(l:List DO)(rs:List Rc)(dn base:Nat)(tm:Tm)(d:MD)(s:St)(v:AV)(g:St):aS:=
 Bool.rec (.bad [920]) (vX run l rs dn base tm d v ⟨gN rs,d,fp,iD g.wr (nF s.next (Nat.sub g.next s.next)),s.next,g.next,false⟩ ⟨gf g.heap (iD g.wr (nF s.next (Nat.sub g.next s.next))) s.heap,g.next,jj base g.wr s.wr⟩) (and (Nat.ble s.next g.next) (zB un fp g.wr))
def mN(un:List Rc)(run:Rn)(l:List DO)(rs:List Rc)(dn base:Nat)(tm:Tm)(d:MD)(s:St)(v:AV)(g:St):aS:=
 Bool.rec (.bad [921]) (vX run l rs dn base tm d v ⟨gN rs,d,[],g.wr,s.next,g.next,true⟩ ⟨gf s.heap (iT Rc.tl un) g.heap,g.next,jj base g.wr s.wr⟩) (and (Nat.ble s.next g.next) (zC un s.next g.wr))
def ES:aS→(AV→St→aS)→(AV→St→aS)→aS
 |.ret v g,k,_=>k v g
 |.pan v _ _ g,_,q=>q v g
 |.bad e,_,_=>.bad e
 |_,_,_=>.bad [910]
def zD(ix:Nat)(l:List DO):Bool:=List.rec true (fun o _ ih=>and (Option.rec false (fun p=>cL p ix) o.pre) ih) l
def EU(un:List Rc)(l:List DO)(rs:List Rc)(base:Nat)(tm:Tm)(s:St)(v:AV)(g:St):aS:=
 Bool.rec (.bad [925]) (.pan v tm [] ⟨g.heap,g.next,jj base g.wr s.wr⟩) (and (rU un) (zD (gN rs) l))
def LD(x:Nx)(run:Rn)(k q:AV→St→aS):aS:=Nx.rec (fun _ _=>.bad [922]) (fun f a s=>ES (run (.fn f a s)) k q) (fun _ _ _=>.bad [913]) (fun _=>.bad [914]) (fun _ _=>.bad [915]) (fun e=>.bad [e]) x
def LF(x:Nx)(k:AV→St→aS):aS:=Nx.rec k (fun _ _ _=>.bad [916]) (fun _ _ _=>.bad [913]) (fun _=>.bad [914]) (fun _ _=>.bad [915]) (fun e=>.bad [e]) x
def LG(call:Bool)(un:List Rc)(o:DO)(tb:Tm)(run:Rn)(l:List DO)(rs:List Rc)(dn base:Nat)(tm:Tm)(s:St):aS:=
 Bool.rec (LF (fS o.mo.op tb ⟨gf s.heap (vV o.rd tb) .leaf,s.next,[]⟩) (LC un (vV o.rd tb) run l rs dn base tm o.mo.dst s)) (LD (fS o.mo.op tb ⟨gf .leaf (iT Rc.tl un) s.heap,s.next,[]⟩) run (mN un run l rs dn base tm o.mo.dst s) (EU un l rs base tm s)) call
def LH(b:Option Bool)(un:List Rc)(o:DO)(tb:Tm)(run:Rn)(l:List DO)(rs:List Rc)(dn base:Nat)(tm:Tm)(s:St):aS:=
 Option.rec (.bad [904]) (fun b=>Bool.rec (vX run l rs dn base tm o.mo.dst und ⟨gN rs,o.mo.dst,[],[],s.next,s.next,false⟩ s) (LG (iG o.mo.op) un o tb run l rs dn base tm s) b) b
def rV(d:Option Nat)(dn:Nat):Option Nat:=Option.rec (some dn) (fun d=>Bool.rec (some (Nat.lor dn (Nat.shiftLeft 1 d))) none (cL dn d)) d
def LI(pre:Option Nat)(dn:Option Nat)(o:DO)(run:Rn)(l:List DO)(rs:List Rc)(base:Nat)(tm:Tm)(s:St):aS:=
 Option.rec (.bad [923]) (fun p=>Option.rec (.bad [924]) (fun dn=>LH (nD o.mo.guard (hU (cI p rs) (gM (gN rs) l tm))) (cI p rs) o (hU (cI p rs) (gM (gN rs) l tm)) run l rs dn base tm s) dn) pre
def WY(l:List DO):Rn→List Rc→Nat→Nat→Tm→St→aS:=List.rec (fun _ _ _ _ tm s=>.ok .normal tm [] s) (fun o l _ run rs dn base tm s=>LI o.pre (rV o.slot dn) o run l rs base tm s) l
def WZ(l:List MO):Rn→Tm→Ds→St→aS:=List.rec (fun _ tm ds s=>.ok .normal tm ds s) (fun o l _ run tm ds s=>LB (nD o.guard tm) o run l tm ds s) l
def tW:aS→Nat→aS
 |.bad e,id=>.bad (id::e)
 |r,_=>r
def EV:aS→Ds→aS
 |.ok e tm [] s,ds=>.ok e tm ds s
 |.pan v tm [] s,ds=>.pan v tm ds s
 |.bad e,_=>.bad e
 |_,_=>.bad [940]
def vY:aS→Rn→Code→Nat→aS
 |.ok .normal tm ds s,run,b,f=>run (.code b f tm ds s)
 |r,_,_,_=>r
def LJ(v:AV):Rn→Code→Code→Nat→Tm→Ds→St→aS:=v.el (fun _ _ _ _ _ _ _=>.bad [902]) (fun _ _ _ _ _ _ _ _ _=>.bad [902]) (fun t=>Bool.rec (fun run _ b f tm ds s=>run (.code b f tm ds s)) (fun run a _ f tm ds s=>run (.code a f tm ds s)) t) (fun _ _ _ _ _ _ _ _=>.bad [902]) (fun _ _ _ _ _ _ _ _=>.bad [902]) (fun _ _ _ _ _ _ _ _ _=>.bad [902]) (fun _ _ _ _ _ _ _ _ _ _ _=>.bad [902]) (fun _ _ _ _ _ _ _ _=>.bad [902]) (fun _ _ _ _ _ _ _ _=>.bad [902]) (fun _ _ _ _ _ _ _ _=>.bad [902]) (fun _ _ _ _ _ _ _ _ _=>.bad [902]) (fun _ _ _ _ _ _ _ _ _ _=>.bad [902])
def EW:aS→Nat→aS
 |.ok (.exit i) tm ds s,id=>Bool.rec (.ok (.exit i) tm ds s) (.ok .normal tm ds s) (Nat.beq i id)
 |r,_=>r
def Xa(c:Code):Tb→Rn→Nat→Tm→Ds→St→aS:=Code.rec (motive:=fun _=>Tb→Rn→Nat→Tm→Ds→St→aS)
 (fun _ _ _ tm ds s=>.ok .normal tm ds s)
 (fun id ops dr P run f tm ds s=>tW (Bool.rec (run (.ops (tS P (cY P f) (ew P f) ops) ⟨tm.g,.nil⟩ ds s)) (EV (run (.dops (vS P (cY P f) (ew P f) ops) [] 0 s.next ⟨tm.g,.nil⟩ s)) ds) dr) id)
 (fun a b _ _ _ run f tm ds s=>vY (run (.code a f tm ds s)) run b f)
 (fun c a b _ _ P run f tm ds s=>LJ (ev (mv (cY P f) c) tm) run a b f tm ds s)
 (fun id b _ _ run f tm ds s=>EW (run (.code b f tm ds s)) id)
 (fun b _ _ run f tm ds s=>vY (run (.code b f tm ds s)) run (.loop b) f)
 (fun _ _ _ _ _ _ _ _ _ _ _ _=>.bad [903])
 (fun id _ _ _ tm ds s=>.ok (.exit id) tm ds s)
 (fun _ _ _ _ _ _ _ _=>.bad [903])
 (fun _ _ _ _ tm ds s=>.ok .normal tm ds s)
 (fun _ _ _ _ _ _ _=>.bad [903])
 (fun _ _ _ tm ds s=>.ok .ret tm ds s)
 (fun _ _ _ _ _ _ _=>.bad [903]) c
def Xb:Option AV→Nat→St→aS
 |some v,_,s=>.ret v s
 |none,f,_=>.bad [f,905]
def tX:Ex→Bool
 |.normal=>true
 |.ret=>true
 |_=>false
def nG(f:Nat)(fn:Func)(P:Tb)(tm:Tm)(s:St):aS:=Xb (tU (nE fn.results.toList (cY P f) P tm s)) f s
def EX(f:Nat)(fn:Func)(P:Tb)(run:Rn)(tm:Tm)(s:St)(ds:Ds):aS:=List.rec (nG f fn P tm s) (fun d ds _=>run (.lv f tm (d::ds) .ret s)) ds
def LL(f:Nat)(run:Rn)(v:AV)(tm:Tm)(s:St)(ds:Ds):aS:=List.rec (.pan v ⟨.leaf,.nil⟩ [] s) (fun d ds _=>run (.lv f tm (d::ds) (.pan v false) s)) ds
def EY:aS→Nat→Func→Tb→Rn→aS
 |.ok e tm ds s,f,fn,P,run=>Bool.rec (.bad [f,917]) (EX f fn P run tm s ds) (tX e)
 |.pan v tm ds s,f,_,_,run=>LL f run v tm s ds
 |.bad e,f,_,_,_=>.bad (f::e)
 |_,f,_,_,_=>.bad [f,911]
def jW(l:List AV):Nat→Tm→Tm:=List.rec (fun _ tm=>tm) (fun a _ ih i tm=>ih (i+1) ⟨tm.g.set i a,tm.l⟩) l
def LM:Option Code→Func→Tb→Rn→Nat→List AV→St→aS
 |some c,fn,P,run,f,args,s=>Bool.rec (.bad [f,918]) (EY (run (.code c f (jW args 0 ⟨.leaf,.nil⟩) [] s)) f fn P run) (Nat.ble (cK args) fn.ntmps)
 |none,_,_,_,f,_,_=>.bad [f,912]
def rW:Option Func→Tb→Rn→Nat→List AV→St→aS
 |some fn,P,run,f,args,s=>LM fn.body fn P run f args s
 |none,_,_,f,_,_=>.bad [f,909]
def LN:Option (AV×St)→Tb→Rn→Nat→List AV→St→aS
 |some p,_,_,_,_,_=>.ret p.1 p.2
 |none,P,run,f,args,s=>rW (P.fn.at_ f) P run f args s
def EZ:Option Nat→Tb→Rn→Nat→List AV→St→aS
 |some c,P,run,f,args,s=>LN (P.xf c args s) P run f args s
 |none,P,run,f,args,s=>rW (P.fn.at_ f) P run f args s
def Fa:Md→Md
 |.pan v false=>.pan v false
 |_=>.ret
def Xc:Md→Nat→Func→Tb→Tm→St→aS
 |.ret,f,fn,P,tm,s=>nG f fn P tm s
 |.pan v false,_,_,_,_,s=>.pan v ⟨.leaf,.nil⟩ [] s
 |.pan _ true,f,_,_,_,_=>.bad [f,930]
def LP:Option Func→Md→Nat→Tb→Tm→St→aS
 |some fn,m,f,P,tm,s=>Xc m f fn P tm s
 |none,_,f,_,_,_=>.bad [f,931]
def LQ:aS→Nat→Tm→Ds→Rn→aS
 |.retR m s,f,tm,ds,run=>run (.lv f tm ds (Fa m) s)
 |.bad e,f,_,_,_=>.bad (f::e)
 |_,f,_,_,_=>.bad [f,932]
def Xd(ds:Ds):Tb→Rn→Nat→Tm→Md→St→aS:=List.rec (fun P _ f tm m s=>LP (P.fn.at_ f) m f P tm s) (fun d ds _ _ run f tm m s=>LQ (run (.rfn d.1 d.2 m s)) f tm ds run) ds
def LR(o:Option AV):Bool:=Option.rec false (fun _=>true) o
def Fb:aS→Nat→Func→Tb→aS
 |.okR e tm m s,f,fn,P=>Bool.rec (.bad [f,933]) (.retR m s) (and (tX e) (LR (tU (nE fn.results.toList (cY P f) P tm s))))
 |.bad e,f,_,_=>.bad (f::e)
 |_,f,_,_=>.bad [f,934]
def LS:Option Code→Func→Tb→Rn→Nat→List AV→Md→St→aS
 |some c,fn,P,run,f,args,m,s=>Bool.rec (.bad [f,918]) (Fb (run (.rcode c f (jW args 0 ⟨.leaf,.nil⟩) m s)) f fn P) (Nat.ble (cK args) fn.ntmps)
 |none,_,_,_,f,_,_,_=>.bad [f,912]
def LU:Option Func→Tb→Rn→Nat→List AV→Md→St→aS
 |some fn,P,run,f,args,m,s=>LS fn.body fn P run f args m s
 |none,_,_,f,_,_,_=>.bad [f,909]
def LV:Option Nat→Tb→Rn→Nat→List AV→Md→St→aS
 |some _,_,_,f,_,_,_=>.bad [f,935]
 |none,P,run,f,args,m,s=>LU (P.fn.at_ f) P run f args m s
def Fc:aS→Rn→Code→Nat→aS
 |.okR .normal tm m s,run,b,f=>run (.rcode b f tm m s)
 |r,_,_,_=>r
def LW(v:AV):Rn→Code→Code→Nat→Tm→Md→St→aS:=v.el (fun _ _ _ _ _ _ _=>.bad [902]) (fun _ _ _ _ _ _ _ _ _=>.bad [902]) (fun t=>Bool.rec (fun run _ b f tm m s=>run (.rcode b f tm m s)) (fun run a _ f tm m s=>run (.rcode a f tm m s)) t) (fun _ _ _ _ _ _ _ _=>.bad [902]) (fun _ _ _ _ _ _ _ _=>.bad [902]) (fun _ _ _ _ _ _ _ _ _=>.bad [902]) (fun _ _ _ _ _ _ _ _ _ _ _=>.bad [902]) (fun _ _ _ _ _ _ _ _=>.bad [902]) (fun _ _ _ _ _ _ _ _=>.bad [902]) (fun _ _ _ _ _ _ _ _=>.bad [902]) (fun _ _ _ _ _ _ _ _ _=>.bad [902]) (fun _ _ _ _ _ _ _ _ _ _=>.bad [902])
def qu:aS→Md→aS
 |.ok e tm [] s,m=>.okR e tm m s
 |.bad e,_=>.bad e
 |_,_=>.bad [936]
def Xe(c:Code):Tb→Rn→Nat→Tm→Md→St→aS:=Code.rec (motive:=fun _=>Tb→Rn→Nat→Tm→Md→St→aS)
 (fun _ run f tm m s=>qu (run (.code .skip f tm [] s)) m)
 (fun id ops dr P run f tm m s=>Bool.rec (tW (run (.rops (tS P (cY P f) (ew P f) ops) ⟨tm.g,.nil⟩ m s)) id) (qu (run (.code (.region id ops true) f tm [] s)) m) dr)
 (fun a b _ _ _ run f tm m s=>Fc (run (.rcode a f tm m s)) run b f)
 (fun c a b _ _ P run f tm m s=>LW (ev (mv (cY P f) c) tm) run a b f tm m s)
 (fun id b _ _ run f tm m s=>qu (run (.code (.block id b) f tm [] s)) m)
 (fun b _ _ run f tm m s=>qu (run (.code (.loop b) f tm [] s)) m)
 (fun _ _ _ _ _ _ _ _ _ _ _ _=>.bad [903])
 (fun id _ run f tm m s=>qu (run (.code (.exit id) f tm [] s)) m)
 (fun _ _ _ _ _ _ _ _=>.bad [903])
 (fun _ _ _ _ _ _ _=>.bad [903])
 (fun _ _ _ _ _ _ _=>.bad [903])
 (fun _ run f tm m s=>qu (run (.code .ret f tm [] s)) m)
 (fun _ _ _ _ _ _ _=>.bad [903]) c
def qw:Md→AV×Md
 |.pan v false=>(v,.pan v true)
 |m=>(.lit .nilIface,m)
def Fe:aS→Rn→List MO→MD→Tm→Md→aS
 |.ret v s,run,l,d,tm,m=>run (.rops l (put d v tm) m s)
 |.bad e,_,_,_,_,_=>.bad e
 |_,_,_,_,_,_=>.bad [937]
def LX(x:Nx):cg→Rn→List MO→MD→Tm→Md→aS:=Nx.rec
 (fun v s _ run l d tm m=>run (.rops l (put d v tm) m s))
 (fun f a s o run l d tm m=>Bool.rec (.bad [916]) (Fe (run (.fn f a s)) run l d tm m) (iG o))
 (fun _ _ _ _ _ _ _ _ _=>.bad [938])
 (fun s o run l d tm m=>Bool.rec (.bad [914]) (run (.rops l (put d (qw m).1 tm) (qw m).2 s)) (Nat.beq (pf o) 4))
 (fun _ _ _ _ _ _ _ _=>.bad [939])
 (fun e _ _ _ _ _ _=>.bad [e]) x
def Xf(b:Bool):MO→Rn→List MO→Tm→Md→St→aS:=Bool.rec (fun o run l tm m s=>run (.rops l (put o.dst und tm) m s)) (fun o run l tm m s=>LX (fS o.op tm s) o.op run l o.dst tm m) b
def LY(b:Option Bool):MO→Rn→List MO→Tm→Md→St→aS:=Option.rec (fun _ _ _ _ _ _=>.bad [904]) Xf b
def Xg(l:List MO):Rn→Tm→Md→St→aS:=List.rec (fun _ tm m s=>.okR .normal tm m s) (fun o l _ run tm m s=>LY (nD o.guard tm) o run l tm m s) l
def Xh(t:EM):Tb→Rn→aS:=EM.rec (fun l tm ds s _ run=>WZ l run tm ds s) (fun l rs dn base tm s _ run=>WY l run rs dn base tm s) (fun c f tm ds s P run=>Xa c P run f tm ds s) (fun f args s P run=>EZ (P.ext.at_ f) P run f args s) (fun f tm ds m s P run=>Xd ds P run f tm m s) (fun f args m s P run=>LV (P.ext.at_ f) P run f args m s) (fun c f tm m s P run=>Xe c P run f tm m s) (fun l tm m s _ run=>Xg l run tm m s) t
def run(P:Tb)(n:Nat):Rn:=Nat.rec (fun _=>.bad [900]) (fun _ ih t=>Xh t P ih) n
def zE:Value→Value→Bool
 |.pointer none,.pointer none=>true
 |.slice none 0 0,.slice none 0 0=>true
 |.map none,.map none=>true
 |.nilFunc,.nilFunc=>true
 |.nilIface,.nilIface=>true
 |.complex .f64 a b,.complex .f64 c d=>and (Nat.beq a c) (Nat.beq b d)
 |.float .f64 a,.float .f64 b=>Nat.beq a b
 |_,_=>false
def LZ:Cp→Cp→Bool
 |.ex a,.ex b=>Nat.beq a b
 |.gap a,.gap b=>Nat.beq a b
 |_,_=>false
def Ff(k:IntKind)(n:Int):AV→Bool
 |.int k' m=>and (decide (k=k')) (decide (n=m))
 |_=>false
def Fg(b:Bool):AV→Bool
 |.bool c=>b==c
 |_=>false
def Fh(s:List Nat):AV→Bool
 |.str t=>gA s t
 |_=>false
def Fi(v:Value):AV→Bool
 |.lit u=>zE v u
 |_=>false
def Fj(b o:Nat):AV→Bool
 |.ptr c p=>and (Nat.beq b c) (Nat.beq o p)
 |_=>false
def Fk(b o n:Nat)(c:Cp):AV→Bool
 |.slc b' o' n' c'=>and (and (Nat.beq b b') (Nat.beq o o')) (and (Nat.beq n n') (LZ c c'))
 |_=>false
def Fm(b:Nat):AV→Bool
 |.map c=>Nat.beq b c
 |_=>false
def Fo(ih:List AV→Bool):AV→Bool
 |.agg m=>ih m
 |_=>false
def Fp(ih:List AV→Bool):AV→Bool
 |.tup m=>ih m
 |_=>false
def Fq(t:Nat)(ih:AV→Bool):AV→Bool
 |.ifc u a=>and (Nat.beq t u) (ih a)
 |_=>false
def Fs(f:Nat)(i1 i2:List AV→Bool):AV→Bool
 |.fn g a c=>and (Nat.beq f g) (and (i1 a) (i2 c))
 |_=>false
def Ft:AV→Bool
 |.emp=>true
 |_=>false
def Ma:List AV→Bool
 |[]=>true
 |_=>false
def Mb(i1:AV→Bool)(i2:List AV→Bool):List AV→Bool
 |b::m=>and (i1 b) (i2 m)
 |[]=>false
def mO(x:AV):AV→Bool:=AV.rec (motive_1:=fun _=>AV→Bool) (motive_2:=fun _=>List AV→Bool) (fun _=>true) Ff Fg Fh Fi Fj Fk Fm (fun _ ih=>Fo ih) (fun _ ih=>Fp ih) (fun t _ ih=>Fq t ih) (fun f _ _ i1 i2=>Fs f i1 i2) (fun _ _ _ _=>false) Ft Ma (fun _ _ i1 i2=>Mb i1 i2) x
def jX(l:List AV):List AV→Bool:=AV.rec_1 (motive_1:=fun _=>AV→Bool) (motive_2:=fun _=>List AV→Bool) (fun _=>true) Ff Fg Fh Fi Fj Fk Fm (fun _ ih=>Fo ih) (fun _ ih=>Fp ih) (fun t _ ih=>Fq t ih) (fun f _ _ i1 i2=>Fs f i1 i2) (fun _ _ _ _=>false) Ft Ma (fun _ _ i1 i2=>Mb i1 i2) l
structure OB where
 b:Nat
 rows:List (List AV)
 size:Nat
 t:Nat
 room:Bool
def OB.obj(o:OB):bk:=.cells (fR o.rows 0 .leaf) (cK o.rows) o.size o.t o.room
def zF(lit:List (List AV))(c:T (List AV)):Nat→Bool:=List.rec (fun _=>true) (fun l _ ih i=>and (and (fL l) (Option.rec false (fun m=>jX l m) (c.at_ i))) (ih (i+1))) lit
def zG(o:OB):Option bk→Bool
 |some (.cells c n size t room)=>and (and (zF o.rows c 0) (Nat.beq (cK o.rows) n)) (and (Nat.beq o.size size) (and (Nat.beq o.t t) (o.room==room)))
 |_=>false
def zH(c0:Nat)(h:T bk)(l:List OB):Bool:=List.rec true (fun o _ ih=>and (and (Nat.ble c0 o.b) (zG o (h.at_ o.b))) ih) l
def zI:aS→Bool
 |.ret (.bool true) _=>true
 |_=>false
def Xi:St:=⟨.leaf,1000,[]⟩
def aS.code:aS→List Nat
 |.ret _ _=>[]
 |.ok _ _ _ _=>[1001]
 |.pan _ _ _ _=>[1000]
 |.okR _ _ _ _=>[1002]
 |.retR _ _=>[1003]
 |.bad l=>l
end
end Go.Proofs.YtlpombjidhloiaaGreat.Eng
