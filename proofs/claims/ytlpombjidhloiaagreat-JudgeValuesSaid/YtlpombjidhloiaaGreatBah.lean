/- The judge, in plain words. The judge of whole trees, in plain words. Condition: what each theorem says. -/
import Derived.Test.YtlpombjidhloiaaGreatBag
namespace Go.Proofs.YtlpombjidhloiaaGreat
def paramsF(al:List (Int×Int)→Int→Int→Option (Bool×List (Int×Int))):List (Int×Int)→List (Bool×Int)→List (Bool×Int)→Option (Bool×List (Int×Int))
 |M,p::ps,q::qs=>if p.1=q.1 then
  match al M p.2 q.2 with
  |none=>none
  |some (true,M)=>paramsF al M ps qs
  |some (false,M)=>some (false,M)
   else some (false,M)
 |M,_,_=>some (true,M)
def ko(T:List Ty):Nat→List (Int×Int)→Int→Int→Option (Bool×List (Int×Int))
 |0,_,_,_=>none
 |f+1,M,a,b=>
  let x:=aF T a;let y:=aF T b
  if x.kind=0∨x.kind≠y.kind then some (false,M)
  else if a=b∨(a,b)∈M then some (true,M)
  else if x.kind=11 then some (decide (x.base=y.base),M)
  else if x.kind=16∧x.result=y.result∧x.params.length=y.params.length then paramsF (ko T f) (M++[(a,b)]) x.params y.params
  else some (false,M++[(a,b)])
def wW(T:List Ty)(a b:Int):Bool:=match ko T (T.length*T.length+2) [] a b with|some (r,_)=>r|none=>false
def ey(T:List Ty)(a b:Int):Bool:=
 if aJ T a=0∨aJ T b=0 then false
 else decide (aP T a=aP T b)||mA T a b||mA T b a||(decide (aJ T a=16)&&wW T a b)
def qR(T:List Ty)(i:Int):Int:=let r:=rangeT T (aF T i).index;if !r.2.2 then 0 else max (r.2.1-r.1+1) 0
def nU(T:List Ty)(tg fr:Int)(v:aL):Bool:=
 let text:=decide (aJ T fr=6)
 let fits:=ey T tg fr||(bE T tg&&bE T fr)
 let r:=rangeT T tg
 if aJ T tg=0∨aJ T tg=11∨aJ T tg=5∨aJ T tg=6∨aJ T tg=7 then false
 else match aR v,r.2.2&&(text||bH T fr)with
  |some n,true=>decide (r.1≤n)&&decide (n≤r.2.1)&&(fits||(text&&decide (bP T tg=4)))
  |_,_=>match v,text&&decide (aJ T tg=10)&&decide (bP T (aF T tg).base=4)with
   |.str s,true=>decide ((s.length:Int)≤qR T tg)
   |_,_=>fits
def qN(T:List Ty)(p:Bool×Int)(fr:Int)(v:aL):Bool:=
 let x:=aF T p.2;let y:=aF T fr
 let letter:=match v with|.letter _=>true|_=>false
 if x.kind=11∧(y.kind=10∨y.kind=11)∧y.base=x.base then true
 else if x.kind=11 then !p.1&&decide (x.base=4)&&(decide (y.kind=6)||(decide (y.kind=4)&&letter))
 else if p.1 then decide (y.kind≠0)&&decide (fr=p.2)
 else nU T p.2 fr v
def bm{α β:Type} [DecidableEq α](l:List (α×β))(x:α):Option β:=(l.find? fun p=>decide (p.1=x)).map (·.2)
def fh{α β:Type} [DecidableEq α]:List (α×β)→α→β→List (α×β)
 |[],x,v=>[(x,v)]
 |p::l,x,v=>if p.1=x then(x,v)::l else p::fh l x v
def fitsW(n:Int):Int×Int:=if 32767<n then(0,120)else(n,0)
def nV(sz:List (Int×Int×Int)→Int→Option ((Int×Int)×List (Int×Int×Int))):List (Int×Int×Int)→Int→List (List UInt8×Int×Int)→Option ((Int×Int)×List (Int×Int×Int))
 |K,n,[]=>some ((n,0),K)
 |K,n,p::l=>match sz K p.2.1 with
  |none=>none
  |some ((m,e),K)=>if e≠0 then some ((0,e),K)else if(fitsW (n+m)).2≠0 then some ((0,(fitsW (n+m)).2),K)else nV sz K (fitsW (n+m)).1 l
def jr(T:List Ty):Nat→List (Int×Int×Int)→Int→Option ((Int×Int)×List (Int×Int×Int))
 |0,_,_=>none
 |f+1,K,i=>match bm K i with
  |some r=>some (r,K)
  |none=>
   let x:=aF T i
   let K:=fh K i (0,2)
   let r:Option ((Int×Int)×List (Int×Int×Int)):=
    if bH T i∧x.kind≠5 then some ((1,0),K)
    else if x.kind=13∨x.kind=14∨x.kind=15∨x.kind=16 then some ((1,0),K)
    else if x.kind=11 then some ((2,0),K)
    else if x.kind=10 then
     (if !(rangeT T x.index).2.2 then some ((0,2),K)else match jr T f K x.base with
      |none=>none
      |some ((n,e),K)=>if e≠0 then some ((0,e),K)else some (fitsW (max ((rangeT T x.index).2.1-(rangeT T x.index).1+1) 0*n),K))
    else if x.kind=12 then nV (jr T f) K 0 x.fields
    else some ((0,2),K)
   match r with
   |none=>none
   |some (r,K)=>some (r,fh K i r)
def aN(T:List Ty)(i:Int):Int×Int:=match jr T (T.length+2) [] i with|some (r,_)=>r|none=>(0,2)
structure En where
 name:List UInt8
 kind:Int
 type:Int
 val:aL
 level:Int
 at_:Int
 module:List UInt8
deriving Inhabited,DecidableEq
structure Jd where
 type:Int
 val:aL
 is:Int
deriving Inhabited,DecidableEq
abbrev Jr(α:Type):=Except (cJ×Int) α
structure ea where
 T:List Ty
 find:List UInt8→Option En
 of_:List UInt8→List UInt8→Option En
section
variable (V:ea)
def aI(b:Bool)(x:ao)(e:Int):Jr Unit:=if b then .ok ()else .error (x.pos,e)
def kid(x:ao)(i:Nat):ao:=x.kids.getD i (.mk 0 (0,0) [] 0 [])
def jn(x:ao):Bool:=decide (x.kind=2)&&decide ((kid x 0).kind=1)&&(match V.find (kid x 0).name with|some e=>decide (e.kind=7)|none=>false)
def eX(x:ao):Jr En:=
 if x.kind=1 then(match V.find x.name with|some e=>.ok e|none=>.error (x.pos,250))
 else if jn V x then(match V.of_ (kid x 0).name x.name with|some e=>.ok e|none=>.error (x.pos,250))
 else .error (x.pos,251)
def nameJ(x:ao):Jr Jd:=
 match eX V x with
 |.error e=>.error e
 |.ok e=>
  if e.kind=1 then .ok ⟨e.type,e.val,0⟩
  else if e.kind=3∨e.kind=4 then .ok ⟨e.type,.none,1⟩
  else if e.kind=5 then .ok ⟨e.type,.none,2⟩
  else if e.kind=9 then .ok ⟨e.type,.none,if e.val=.truth true then 2 else 1⟩
  else if e.kind=6 then .ok ⟨e.type,.none,3⟩
  else .error (x.pos,251)
def gj(j:Jd):Bool:=decide (j.is=1∨j.is=2)
def eh(T:List Ty)(v:aL)(t:Int):Bool:=match aR v with|some n=>decide ((rangeT T t).1≤n)&&decide (n≤(rangeT T t).2.1)|none=>true
def bG(T:List Ty)(j:Jd)(t:Int):Jd:=match j.val with
 |.str [c]=>if j.type=6∧bP T t=4 then⟨4,.letter c.toNat,0⟩else j
 |_=>j
def cS(T:List Ty)(x:ao)(t:Int)(r:aL×Int):Jr Jd:=
 if r.2≠0 then .error (x.pos,254)else if bE T t&& !eh T r.1 t then .error (x.pos,254)else .ok ⟨t,r.1,0⟩
def jO(op:Op)(a:aL):aL×Int:=
 if op=bV∨op=bW then(match a with
  |.whole n=>if !dm a then(.none,100)else if op=bW then eQ (-n)else(a,0)
  |_=>(.none,100))
 else if op=pz then(match a with|.truth b=>(.truth (!b),0)|_=>(.none,100))
 else(.none,103)
def lV(k:Int):Bool:=decide (k∈[14,15,7,16])
def cM(T:List Ty)(op:Op)(a b:Int):Bool:=
 if !ey T a b then false else
 let ords:=bH T a&&bH T b
 let whs:=bE T a&&bE T b
 let sets:=decide (aJ T a=13)&&decide (aJ T b=13)
 if op=bV∨op=bW∨op=cP then whs||sets
 else if op=fe then sets
 else if op=eO∨op=eP then whs
 else if op=bQ∨op=bR then decide (bP T a=3)&&decide (bP T b=3)
 else if op=gm∨op=gn then ords
 else if op=fw∨op=fy then ords||sets
 else ords||sets||(lV (aJ T a)&&lV (aJ T b))
def eN(x:ao):Bool:=if x.kind≠1 then true else match V.find x.name with|some e=>decide (e.level=0)|none=>true
def gC(T:List Ty)(x:ao)(a b:Jd):Jr Unit:=
 if !bE T a.type|| !bE T b.type then .ok ()
 else match aI (decide (a.type≠5)||decide (b.type=5)||eh T a.val (aP T b.type)) (kid x 0) 254 with
  |.error e=>.error e
  |.ok _=>aI (decide (b.type≠5)||decide (a.type=5)||eh T b.val (aP T a.type)) (kid x 1) 254
def iV(x:ao)(a b:Jd):Jr Jd:=do
 let op:=x.name
 aI (decide (op=dT∨op=eI)||(decide (a.is≠3)&&decide (b.is≠3))) x 252
 aI (decide (a.is≠3)||eN V (kid x 0)) (kid x 0) 252
 aI (decide (b.is≠3)||eN V (kid x 1)) (kid x 1) 252
 if op=bB then
  aI (decide (aJ V.T b.type=13)) x 252
  let base:=(aF V.T b.type).base
  let a:=bG V.T a base
  aI (bH V.T a.type&&ey V.T base a.type) x 252
  if a.val=.none∨b.val=.none then .ok ⟨3,.none,0⟩else cS V.T x 3 (bC op a.val b.val)
 else if op=dT∨op=eI∨op=gm∨op=fw∨op=gn∨op=fy then
  let a':=bG V.T a b.type
  let b':=bG V.T b a.type
  aI (cM V.T op a'.type b'.type) x 252
  gC V.T x a' b'
  if a'.val=.none∨b'.val=.none then .ok ⟨3,.none,0⟩else cS V.T x 3 (bC op a'.val b'.val)
 else
  aI (cM V.T op a.type b.type) x 252
  gC V.T x a b
  let t:=if aP V.T a.type=5 then aP V.T b.type else aP V.T a.type
  if a.val=.none∨b.val=.none then .ok ⟨t,.none,0⟩else cS V.T x t (bC op a.val b.val)
end
section
variable (V:ea)
def cG(x:ao):Int:=
 let e:=if x.kind=1 then V.find x.name else if jn V x then V.of_ (kid x 0).name x.name else none
 match e with
 |some e=>if e.kind=8 then e.at_ else 0
 |none=>0
def ik(low high:Int)(a:Nat):Nat:=(List.range (high-low+1).toNat).foldl (fun a (i:Nat)=>a ||| (1 <<< ((low+(i:Int))% 16).toNat)) a
def jq(std n:Int):Int:=
 if std=1 then max n (-n)else if std=2 then(if 97≤n∧n≤122 then n-32 else n)else if std=14 then n% 2 else n
def ki(x:ao):Jr Int:=do
 let e ←eX V x
 aI (decide (e.kind=2)) x 251
 aI (bH V.T e.type) x 252
 .ok e.type
mutual
def exprJ:Nat→ao→Jr Jd
 |0,x=>.error (x.pos,251)
 |f+1,x=>do
  let j ←(if x.kind=5 then .ok ⟨5,.whole x.n,0⟩
   else if x.kind=6 then .ok ⟨4,.letter (x.n% 256),0⟩
   else if x.kind=7 then .ok ⟨6,.str x.name,0⟩
   else if x.kind=1 then nameJ V x
   else if x.kind=2 then dotJ f x
   else if x.kind=3 then indexJ f x
   else if x.kind=4 then derefJ f x
   else if x.kind=8 then setJ f x
   else if x.kind=12 then oneJ f x
   else if x.kind=11 then(do let a ←exprJ f (kid x 0);let b ←exprJ f (kid x 1);iV V x a b)
   else if x.kind=10 then funJ f x
   else .error (x.pos,251))
  aI (decide (aJ V.T j.type≠0)) x 252
  .ok j
def dotJ:Nat→ao→Jr Jd
 |0,x=>.error (x.pos,251)
 |f+1,x=>if jn V x then nameJ V x else do
  let j ←exprJ f (kid x 0)
  aI (decide (aJ V.T j.type=12)) x 252
  aI (gj j) x 251
  match(aF V.T j.type).fields.find? (fun p=>p.1=x.name)with
  |some p=>.ok ⟨p.2.1,.none,j.is⟩
  |none=>.error (x.pos,250)
def indexJ:Nat→ao→Jr Jd
 |0,x=>.error (x.pos,251)
 |f+1,x=>do
  let j ←exprJ f (kid x 0)
  let t:=aF V.T j.type
  aI (decide (t.kind=10∨t.kind=11)) x 252
  aI (gj j) x 251
  let y:=kid x 1
  let i ←exprJ f y
  aI (decide (i.is≠3)) y 252
  if t.kind=11 then
   aI (bE V.T i.type) y 252
   aI (decide (0≤(aR i.val).getD 0)) y 254
   .ok ⟨t.base,.none,j.is⟩
  else
   let i:=bG V.T i t.index
   aI (ey V.T t.index i.type||(bE V.T t.index&&bE V.T i.type)) y 252
   aI (eh V.T i.val t.index) y 254
   .ok ⟨t.base,.none,j.is⟩
def derefJ:Nat→ao→Jr Jd
 |0,x=>.error (x.pos,251)
 |f+1,x=>do
  let j ←exprJ f (kid x 0)
  let t:=aF V.T j.type
  aI (decide (t.kind=14∧j.is≠3∧aJ V.T t.base≠17∧aJ V.T t.base≠0)) x 252
  .ok ⟨t.base,.none,1⟩
def elemJ:Nat→ao→Int→Jr (Option Int)
 |0,x,_=>.error (x.pos,251)
 |f+1,x,base=>do
  let j ←exprJ f x
  let j:=bG V.T j base
  aI (decide (j.is≠3)&&bH V.T j.type&&ey V.T base j.type) x 252
  aI (eh V.T j.val base) x 254
  .ok (aR j.val)
def setJ:Nat→ao→Jr Jd
 |0,x=>.error (x.pos,251)
 |f+1,x=>do
  let t:Int ←(if(kid x 0).kind=0 then .ok 9 else do
   let e ←eX V (kid x 0)
   aI (decide (e.kind=2)) (kid x 0) 251
   aI (decide (aJ V.T e.type=13)) (kid x 0) 252
   .ok e.type)
  let r ←ff f (x.kids.drop 1) (aF V.T t).base 0 true
  .ok ⟨t,if r.2 then .bits r.1 else .none,0⟩
def ff:Nat→List ao→Int→Nat→Bool→Jr (Nat×Bool)
 |0,_,_,_,_=>.error ((1,1),251)
 |_+1,[],_,a,k=>.ok (a,k)
 |f+1,y::l,base,a,k=>
  if y.kind=9 then do
   let lo ←elemJ f (kid y 0) base
   let hi ←elemJ f (kid y 1) base
   ff f l base (ik (lo.getD 0) (hi.getD 0) a) (k&&lo.isSome&&hi.isSome)
  else do
   let lo ←elemJ f y base
   ff f l base (ik (lo.getD 0) (lo.getD 0) a) (k&&lo.isSome)
def oneJ:Nat→ao→Jr Jd
 |0,x=>.error (x.pos,251)
 |f+1,x=>do
  let j ←exprJ f (kid x 0)
  let k:=bP V.T j.type
  aI (decide (j.is≠3)&&((bE V.T j.type&&(decide (x.name=bV)||(decide (x.name=bW)&&decide (k≠2))))||(decide (x.name=pz)&&decide (k=3)))) x 252
  if j.val=.none then .ok ⟨aP V.T j.type,.none,0⟩else cS V.T x (aP V.T j.type) (jO x.name j.val)
def funJ:Nat→ao→Jr Jd
 |0,x=>.error (x.pos,251)
 |f+1,x=>do
  let l:=x.kids.drop 1
  let t ←callJ f (kid x 0) l false
  let r:=rangeT V.T t
  let s:=cG V (kid x 0)
  if s=0∨s=8 then .ok ⟨t,.none,0⟩
  else if s=11 then .ok ⟨t,cR (aP V.T t) r.2.1,0⟩
  else if s=12 then .ok ⟨t,cR (aP V.T t) r.1,0⟩
  else if s=16 then do
   let u ←sizedJ f (l.headD (.mk 0 (0,0) [] 0 []))
   .ok ⟨t,.whole (aN V.T u).1,0⟩
  else do
   let j ←exprJ f (l.getLastD (.mk 0 (0,0) [] 0 []))
   match aR j.val with
   |none=>.ok ⟨t,.none,0⟩
   |some n=>do
    let n:=jq s n
    aI (decide (r.1≤n)&&decide (n≤r.2.1)) x 254
    .ok ⟨t,cR (aP V.T t) n,0⟩
def sizedJ:Nat→ao→Jr Int
 |0,x=>.error (x.pos,251)
 |f+1,x=>
  let rest:Jr Int:=do
   let j ←exprJ f x
   aI (gj j) x 252
   .ok j.type
  if x.kind=1∨jn V x then(match eX V x with
   |.error e=>.error e
   |.ok e=>if e.kind=2 then .ok e.type else rest)
  else rest
def callJ:Nat→ao→List ao→Bool→Jr Int
 |0,x,_,_=>.error (x.pos,251)
 |f+1,x,l,d=>
  if 0<cG V x then stdCallJ f x (cG V x) l d
  else do
   let j ←exprJ f x
   let t:=aF V.T j.type
   aI (decide (t.kind=16)) x 252
   aI (decide (l.length=t.params.length)) x 255
   aI (decide (decide (t.result=0)=d)) x 251
   gD f l t.params
   .ok t.result
def gD:Nat→List ao→List (Bool×Int)→Jr Unit
 |0,_,_=>.error ((1,1),251)
 |f+1,y::l,p::ps=>do
  let j ←exprJ f y
  aI (!p.1||decide (j.is=1)) y 256
  let j:=bG V.T j p.2
  aI (qN V.T p j.type j.val) y 252
  aI (decide (j.is≠3)||eN V y) y 252
  gD f l ps
 |_+1,_,_=>.ok ()
def stdCallJ:Nat→ao→Int→List ao→Bool→Jr Int
 |0,x,_,_,_=>.error (x.pos,251)
 |f+1,x,s,l,d=>do
  let ju:=decide (s∈[4,9,6,10,13,5,7,21,18,19,20,22,23])
  aI (decide (ju=d)) x 251
  let m:Nat×Nat:=if s=4∨s=9 then(1,2)else if s=6∨s=10∨s=17 then(2,2)else if s=7∨s=21 then(0,0)else(1,1)
  aI (decide (m.1≤l.length)&&decide (l.length≤m.2)) x 255
  let y:=l.headD (.mk 0 (0,0) [] 0 [])
  if s=1 then(do let j ←wholeJ f y;aI (decide (bP V.T j.type≠2)) y 252;.ok (aP V.T j.type))
  else if s=2 then(do let j ←plainJ f y;aI (decide (bP V.T (bG V.T j 4).type=4)) y 252;.ok 4)
  else if s=3 then(do let _ ←wholeJ f y;.ok 4)
  else if s=14 then(do let _ ←wholeJ f y;.ok 3)
  else if s=8 then(do let j ←exprJ f y;aI (gj j&&decide (aJ V.T j.type=10∨aJ V.T j.type=11)) y 252;.ok 2)
  else if s=11∨s=12 then ki V y
  else if s=15 then(do let j ←plainJ f y;aI (bH V.T (bG V.T j 4).type) y 252;.ok 2)
  else if s=16 then(do let t ←sizedJ f y;aI (decide ((aN V.T t).2=0)&&decide (aJ V.T t≠11)) y 252;.ok 2)
  else if s=17 then(do let t ←ki V y;let j ←plainJ f (l.getD 1 y);aI (bH V.T j.type) (l.getD 1 y) 252;.ok t)
  else .ok 0
def plainJ:Nat→ao→Jr Jd
 |0,x=>.error (x.pos,251)
 |f+1,x=>do
  let j ←exprJ f x
  aI (decide (j.is≠3)) x 252
  .ok j
def wholeJ:Nat→ao→Jr Jd
 |0,x=>.error (x.pos,251)
 |f+1,x=>do
  let j ←plainJ f x
  aI (bE V.T j.type) x 252
  .ok j
end
end
def aaw(z x y:ao)(e:cJ×Int):Prop:=(e.1=z.pos∨e.1=x.pos∨e.1=y.pos)∧(e.2=252∨e.2=254)
def pG{α:Type}(z x y:ao):Jr α→Prop
 |.ok _=>True
 |.error e=>aaw z x y e
theorem lE{α β:Type}{z x y:ao}{a:Jr α}{f:α→Jr β}(h:pG z x y a)(hf:∀v,pG z x y (f v)):pG z x y (a >>= f):=by
 cases a with
 |ok v=>exact hf v
 |error e=>exact h
theorem nW{z x y t:ao}{b:Bool}{e:Int}(h:t.pos=z.pos∨t.pos=x.pos∨t.pos=y.pos)(he:e=252∨e=254):pG z x y (aI b t e):=by
 unfold aI;split
 ·trivial
 ·exact⟨h,he⟩
theorem GR{z x y:ao}(T:List Ty)(t:Int)(r:aL×Int):pG z x y (cS T z t r):=by
 unfold cS;split
 ·exact⟨.inl rfl,.inr rfl⟩
 ·split
  ·exact⟨.inl rfl,.inr rfl⟩
  ·trivial
theorem PL{z x y:ao}(T:List Ty)(hk:z.kids=[x,y])(a b:Jd):pG z x y (gC T z a b):=by
 have k0:kid z 0=x:=by unfold kid;rw[hk];rfl
 have k1:kid z 1=y:=by unfold kid;rw[hk];rfl
 unfold gC;split
 ·trivial
 ·rw[k0,k1];have h0:pG z x y (aI (decide (a.type≠5)||decide (b.type=5)||eh T a.val (aP T b.type)) x 254):=nW (.inr (.inl rfl)) (.inr rfl);split
  ·rename_i e he;rw[he]at h0;exact h0
  ·exact nW (.inr (.inr rfl)) (.inr rfl)
theorem aax(V:ea){z x y:ao}(hk:z.kids=[x,y])(a b:Jd):pG z x y (iV V z a b):=by
 have k0:kid z 0=x:=by unfold kid;rw[hk];rfl
 have k1:kid z 1=y:=by unfold kid;rw[hk];rfl
 unfold iV;rw[k0,k1];refine lE (nW (.inl rfl) (.inl rfl)) fun _=>lE (nW (.inr (.inl rfl)) (.inl rfl)) fun _=>lE (nW (.inr (.inr rfl)) (.inl rfl)) fun _=>?_
 split
 ·refine lE (nW (.inl rfl) (.inl rfl)) fun _=>lE (nW (.inl rfl) (.inl rfl)) fun _=>?_
  split
  ·trivial
  ·exact GR _ _ _
 ·split
  ·refine lE (nW (.inl rfl) (.inl rfl)) fun _=>lE (PL _ hk _ _) fun _=>?_
   split
   ·trivial
   ·exact GR _ _ _
  ·refine lE (nW (.inl rfl) (.inl rfl)) fun _=>lE (PL _ hk _ _) fun _=>?_
   split
   all_goals
    dsimp only;split
    ·trivial
    ·exact GR _ _ _
theorem aay(V:ea)(N:Nat)(p:cJ)(op:List UInt8)(x y:ao):
 (∀e,exprJ V N x=.error e→exprJ V (N+1) (.mk 11 p op 0 [x,y])=.error e)∧
  (∀j e,exprJ V N x=.ok j→exprJ V N y=.error e→exprJ V (N+1) (.mk 11 p op 0 [x,y])=.error e)∧
  (∀j k,exprJ V N x=.ok j→exprJ V N y=.ok k→pG (.mk 11 p op 0 [x,y]) x y (exprJ V (N+1) (.mk 11 p op 0 [x,y]))):=by
 have k0:kid (.mk 11 p op 0 [x,y]) 0=x:=rfl;have k1:kid (.mk 11 p op 0 [x,y]) 1=y:=rfl;have h:exprJ V (N+1) (.mk 11 p op 0 [x,y])=(do
  let j ←(do let a ←exprJ V N x;let b ←exprJ V N y;iV V (.mk 11 p op 0 [x,y]) a b)
  aI (decide (aJ V.T j.type≠0)) (.mk 11 p op 0 [x,y]) 252
  .ok j):=by
  rw[exprJ];simp[ao.kind,k0,k1]
 rw[h];refine⟨fun e he=>?_,fun j e hj he=>?_,fun j k hj hk=>?_⟩
 ·rw[he];rfl
 ·rw[hj,he];rfl
 ·rw[hj,hk];refine lE (lE (a:=.ok j) trivial fun a=>lE (a:=.ok k) trivial fun b=>aax V rfl a b) fun v=>lE (nW (.inl rfl) (.inl rfl)) fun _=>trivial
structure It where
 en:En
 exports:List En
deriving Inhabited
structure Lv where
 closed:Bool
 items:List (List UInt8×It)
deriving Inhabited
def eW(L:List Lv)(nm:List UInt8):Nat→Option It
 |0=>bm (L.getD 0 ⟨false,[]⟩).items nm
 |k+1=>match bm (L.getD (k+1) ⟨false,[]⟩).items nm with
  |some x=>some x
  |none=>if(L.getD (k+1) ⟨false,[]⟩).closed then bm (L.getD 0 ⟨false,[]⟩).items nm else eW L nm k
def kI(L:List Lv)(nm:List UInt8):Option It:=if L=[]then none else eW L nm (L.length-1)
def jL(L:List Lv)(nm:List UInt8):Option En:=(kI L nm).map (·.en)
def iU(L:List Lv)(u nm:List UInt8):Option En:=match kI L u with
 |some x=>if x.en.kind=7 then x.exports.find? fun e=>decide (e.name=nm)else none
 |none=>none
def aj(T:List Ty)(L:List Lv):ea:=⟨T,jL L,iU L⟩
def aby:List Ty:=[
 dg,{dg with kind:=1,name:=[73,78,84,69,71,69,82]},{dg with kind:=2,name:=[67,65,82,68,73,78,65,76]},{dg with kind:=3,name:=[66,79,79,76,69,65,78]},{dg with kind:=4,name:=[67,72,65,82]},{dg with kind:=5},{dg with kind:=6},{dg with kind:=7},
 {dg with kind:=9,base:=2,high:=15},{dg with kind:=13,name:=[66,73,84,83,69,84],base:=8}]
def abz:List Ty:=[
 {dg with kind:=9,base:=2,low:=1,high:=3},{dg with kind:=8,names:=[[114,101,100],[98,108,117,101]],high:=1},{dg with kind:=10,base:=1,index:=10},
 {dg with kind:=12,fields:=[([102],1,0),([103],12,0),([116],11,1),([104],4,2)],arms:=[([0],[0],false)]},{dg with kind:=14,base:=13},{dg with kind:=13,base:=11},{dg with kind:=11,base:=4},
 {dg with kind:=16,params:=[(false,1),(true,2)]},{dg with kind:=16,params:=[(false,16)],result:=3},{dg with kind:=10,base:=4,index:=10},
 {dg with kind:=15,module:=[77],name:=[84]},{dg with kind:=16,params:=[(false,1),(true,2)]},{dg with kind:=17,name:=[108,97,116,101,114]},{dg with kind:=14,base:=22}]
def worldT:List Ty:=aby++abz
def bI:En:=⟨[],0,0,.none,0,0,[]⟩
def ee:List En:=[{bI with name:=[73,78,84,69,71,69,82],kind:=2,type:=1},
 {bI with name:=[67,65,82,68,73,78,65,76],kind:=2,type:=2},
 {bI with name:=[66,79,79,76,69,65,78],kind:=2,type:=3},
 {bI with name:=[67,72,65,82],kind:=2,type:=4},
 {bI with name:=[66,73,84,83,69,84],kind:=2,type:=9}]
def constEns:List En:=[{bI with name:=[70,65,76,83,69],kind:=1,type:=3,val:=.truth false},
 {bI with name:=[84,82,85,69],kind:=1,type:=3,val:=.truth true},
 {bI with name:=[78,73,76],kind:=1,type:=7,val:=.null}]
def stdEns:List En:=[{bI with name:=[65,66,83],kind:=8,at_:=1},
 {bI with name:=[67,65,80],kind:=8,at_:=2},
 {bI with name:=[67,72,82],kind:=8,at_:=3},
 {bI with name:=[68,69,67],kind:=8,at_:=4},
 {bI with name:=[68,73,83,80,79,83,69],kind:=8,at_:=5},
 {bI with name:=[69,88,67,76],kind:=8,at_:=6},
 {bI with name:=[72,65,76,84],kind:=8,at_:=7},
 {bI with name:=[72,73,71,72],kind:=8,at_:=8},
 {bI with name:=[73,78,67],kind:=8,at_:=9},
 {bI with name:=[73,78,67,76],kind:=8,at_:=10},
 {bI with name:=[77,65,88],kind:=8,at_:=11},
 {bI with name:=[77,73,78],kind:=8,at_:=12},
 {bI with name:=[78,69,87],kind:=8,at_:=13},
 {bI with name:=[79,68,68],kind:=8,at_:=14},
 {bI with name:=[79,82,68],kind:=8,at_:=15},
 {bI with name:=[83,73,90,69],kind:=8,at_:=16},
 {bI with name:=[86,65,76],kind:=8,at_:=17}]
def nameEns:List En:=[{bI with name:=[83],kind:=2,type:=10},
 {bI with name:=[69],kind:=2,type:=11},
 {bI with name:=[82],kind:=2,type:=13},
 {bI with name:=[83,101,116],kind:=2,type:=15},
 {bI with name:=[114,101,100],kind:=1,type:=11,val:=.item 11 0},
 {bI with name:=[98,108,117,101],kind:=1,type:=11,val:=.item 11 1},
 {bI with name:=[107],kind:=1,type:=5,val:=.whole 40000},
 {bI with name:=[99],kind:=1,type:=2,val:=.whole 7},
 {bI with name:=[109],kind:=1,type:=1,val:=.whole (-3)},
 {bI with name:=[105],kind:=3,type:=1},
 {bI with name:=[110],kind:=3,type:=2},
 {bI with name:=[98],kind:=3,type:=3},
 {bI with name:=[99,104],kind:=3,type:=4},
 {bI with name:=[115],kind:=4,type:=10},
 {bI with name:=[101],kind:=3,type:=11},
 {bI with name:=[97],kind:=3,type:=12},
 {bI with name:=[114],kind:=3,type:=13},
 {bI with name:=[112],kind:=3,type:=14},
 {bI with name:=[122],kind:=3,type:=15},
 {bI with name:=[120],kind:=3,type:=9},
 {bI with name:=[111],kind:=5,type:=16},
 {bI with name:=[113],kind:=3,type:=17},
 {bI with name:=[116],kind:=3,type:=19},
 {bI with name:=[104,105,100],kind:=3,type:=20},
 {bI with name:=[108,97,116,101],kind:=3,type:=23},
 {bI with name:=[102],kind:=9,type:=1,level:=1},
 {bI with name:=[103],kind:=9,type:=12,level:=1,val:=.truth true},
 {bI with name:=[100,111],kind:=6,type:=17},
 {bI with name:=[97,115,107],kind:=6,type:=18,level:=1},
 {bI with name:=[108,105,107,101],kind:=6,type:=21},
 {bI with name:=[98,97,100],kind:=3,type:=99}]
def unitEns:List En:=[{bI with name:=[84],kind:=2,type:=20},
 {bI with name:=[118],kind:=3,type:=2,module:=[77]},
 {bI with name:=[112,114],kind:=6,type:=17,module:=[77]},
 {bI with name:=[116,119,111],kind:=1,type:=5,val:=.whole 2},
 {bI with name:=[82,101,97,100],kind:=8,at_:=18},
 {bI with name:=[87,114,105,116,101],kind:=8,at_:=19},
 {bI with name:=[87,114,105,116,101,83,116,114,105,110,103],kind:=8,at_:=20},
 {bI with name:=[87,114,105,116,101,76,110],kind:=8,at_:=21},
 {bI with name:=[87,114,105,116,101,73,110,116],kind:=8,at_:=22},
 {bI with name:=[87,114,105,116,101,67,97,114,100],kind:=8,at_:=23}]
def unitEn:En:={bI with name:=[77],kind:=7}
def BS(e:En):List UInt8×It:=(e.name,⟨e,[]⟩)
def ux(tys:List En):Lv:=⟨false,(tys++constEns++stdEns).map BS⟩
def lvl1:Lv:=⟨false,nameEns.map BS++[(unitEn.name,⟨unitEn,unitEns⟩)]⟩
def dS(tys:List En):List Lv:=[ux tys,lvl1]
theorem nX{i:Int}(h:aJ worldT i≠0):∃n:Fin 24,i=(n.val:Int):=by
 unfold aJ aF at h;by_cases h0:i<0
 ·rw[if_pos h0]at h;exact absurd rfl h
 ·rw[if_neg h0]at h;by_cases h1:i.toNat<24
  ·exact⟨⟨i.toNat,h1⟩,by simp only;omega⟩
  ·have:worldT.getD i.toNat dg=dg:=by
    rw[List.getD_eq_getElem?_getD,List.getElem?_eq_none (show worldT.length≤i.toNat by have:worldT.length=24:=rfl;omega)];rfl
   rw[this]at h;exact absurd rfl h
theorem aaz:∀a b:Fin 24,ey worldT (a.val:Int) (b.val:Int)=ey worldT (b.val:Int) (a.val:Int):=by decide +kernel
theorem aaA(a b:Int):ey worldT a b=ey worldT b a:=by
 by_cases ha:aJ worldT a=0
 ·unfold ey;rw[if_pos (.inl ha),if_pos (.inr ha)]
 ·by_cases hb:aJ worldT b=0
  ·unfold ey;rw[if_pos (.inr hb),if_pos (.inl hb)]
  ·obtain⟨n,rfl⟩:=nX ha;obtain⟨m,rfl⟩:=nX hb;exact aaz n m
theorem aaB:∀a b:Fin 24,ey worldT (a.val:Int) (b.val:Int)=true→(bE worldT a.val=true∧bE worldT b.val=true∨aJ worldT a.val=13∧aJ worldT b.val=13∨bP worldT a.val=3∧bP worldT b.val=3)→
 (if aP worldT (a.val:Int)=5 then aP worldT (b.val:Int)else aP worldT (a.val:Int))=(if aP worldT (b.val:Int)=5 then aP worldT (a.val:Int)else aP worldT (b.val:Int)):=by decide +kernel
theorem PN(op:Op)(a b:Int):cM worldT op a b=cM worldT op b a:=by
 unfold cM;rw[aaA a b,Bool.and_comm (bH worldT a),Bool.and_comm (bE worldT a),Bool.and_comm (decide (aJ worldT a=13)),Bool.and_comm (decide (bP worldT a=3)),Bool.and_comm (lV (aJ worldT a))]
end Go.Proofs.YtlpombjidhloiaaGreat
