/- Sums, products and questions are the same either way about. Condition: what each theorem says. -/
import Derived.Test.YtlpombjidhloiaaGreatSd
import Derived.Test.YtlpombjidhloiaaGreatBah
namespace Go.Proofs.YtlpombjidhloiaaGreat
def sideOps:List Op:=[bV,cP,dT,eI,bQ,bR,fe]
def jQ:Jr Jd→Option (Int×aL)
 |.ok j=>some (j.type,j.val)
 |.error _=>none
theorem BI{b:Bool}{t:ao}{e:Int}{f:Unit→Jr Jd}:jQ (aI b t e >>= f)=if b then jQ (f ())else none:=by
 cases b<;>rfl
theorem PQ(T:List Ty)(x:ao)(t:Int)(r:aL×Int):jQ (cS T x t r)=if r.2≠0 then none else if bE T t&& !eh T r.1 t then none else some (t,r.1):=by
 unfold cS;split
 ·rfl
 ·split<;>rfl
def pH(T:List Ty)(a b:Jd):Bool:=!bE T a.type|| !bE T b.type||((decide (a.type≠5)||decide (b.type=5)||eh T a.val (aP T b.type))&&(decide (b.type≠5)||decide (a.type=5)||eh T b.val (aP T a.type)))
theorem PR(T:List Ty)(x:ao)(a b:Jd)(f:Unit→Jr Jd):jQ (gC T x a b >>= f)=if pH T a b then jQ (f ())else none:=by
 unfold gC pH;exact PS
theorem PT(T:List Ty)(a b:Jd):pH T a b=pH T b a:=by
 unfold pH;exact PS
def mN(T:List Ty)(op:Op)(t:Int)(a b:Jd):Option (Int×aL):=
 if a.val=.none∨b.val=.none then some (t,.none)else if(bC op a.val b.val).2≠0 then none else if bE T t&& !eh T (bC op a.val b.val).1 t then none else some (t,(bC op a.val b.val).1)
def wX(V:ea)(u v:ao)(op:Op)(a b:Jd):Option (Int×aL):=
 if !(decide (op=dT∨op=eI)||(decide (a.is≠3)&&decide (b.is≠3)))then none
 else if !(decide (a.is≠3)||eN V u)then none
 else if !(decide (b.is≠3)||eN V v)then none
 else if op=dT∨op=eI∨op=gm∨op=fw∨op=gn∨op=fy then
  let a':=bG V.T a b.type
  let b':=bG V.T b a.type
  if !cM V.T op a'.type b'.type then none else if !pH V.T a' b' then none else mN V.T op 3 a' b'
 else if !cM V.T op a.type b.type then none else if !pH V.T a b then none else mN V.T op (if aP V.T a.type=5 then aP V.T b.type else aP V.T a.type) a b
theorem PU(V:ea)(p:cJ)(op:Op)(x y:ao)(a b:Jd)(hop:op≠bB):jQ (iV V (.mk 11 p op 0 [x,y]) a b)=wX V x y op a b:=by
 have hn:(ao.mk 11 p op 0 [x,y]).name=op:=rfl;have k0:kid (.mk 11 p op 0 [x,y]) 0=x:=rfl;have k1:kid (.mk 11 p op 0 [x,y]) 1=y:=rfl;unfold iV wX;rw[hn,k0,k1];simp only[BI,hop,if_false];cases(decide (op=dT∨op=eI)||(decide (a.is≠3)&&decide (b.is≠3)))
 ·rfl
 cases(decide (a.is≠3)||eN V x)
 ·rfl
 cases(decide (b.is≠3)||eN V y)
 ·rfl
 simp only[if_true,Bool.not_true,Bool.false_eq_true,if_false];split
 ·simp only[BI,PR];cases cM V.T op (bG V.T a b.type).type (bG V.T b a.type).type
  ·rfl
  cases pH V.T (bG V.T a b.type) (bG V.T b a.type)
  ·rfl
  simp only[if_true,Bool.not_true,Bool.false_eq_true,if_false];unfold mN;split
  ·rfl
  ·exact PQ ..
 ·simp only[BI,PR];cases cM V.T op a.type b.type
  ·rfl
  cases pH V.T a b
  ·rfl
  simp only[if_true,Bool.not_true,Bool.false_eq_true,if_false];unfold mN;split
  ·split<;>rfl
  ·split
   all_goals
    rw[PQ]
theorem GS(v:aL):aR (aT v)=aR v:=by
 unfold aT;split
 ·rfl
 ·rfl
structure GT(op:Op):Prop where
 notIn:op≠bB
 ask:∀n m,gE op n m=gE op m n
 reck:∀n m,fB op n m=fB op m n
 set:∀n m,eY op n m=eY op m n
theorem PV{op:Op}(h:op∈sideOps):GT op:=by
 simp only[sideOps,List.mem_cons,List.not_mem_nil,or_false]at h;rcases h with rfl|rfl|rfl|rfl|rfl|rfl|rfl
 all_goals
  refine⟨by decide,fun n m=>?_,fun n m=>?_,fun n m=>?_⟩
  ·simp[gE,bV,cP,fe,dT,eI,gm,fw,gn,fy,bQ,bR,eq_comm (a:=n) (b:=m)]
  ·simp[fB,bV,bW,cP,fe,eO,eP,dT,eI,bQ,bR,Int.add_comm n m,Int.mul_comm n m]
  ·simp[eY,bV,bW,cP,fe,dT,eI,fw,fy,bQ,bR,Nat.or_comm n m,Nat.and_comm n m,Nat.xor_comm n m,eq_comm (a:=n) (b:=m)]
theorem aaC(a b:aL):dz a b=dz b a:=by
 cases a<;>cases b<;>simp[dz,eq_comm]
theorem aaD{op:Op}(h:GT op)(a b:aL):bC op a b=bC op b a:=by
 unfold bC;simp only[h.notIn,decide_false,Bool.not_false,if_false];split
 ·rfl
 rw[Bool.or_comm (!dm a)];split
 ·rfl
 simp only[GS];rw[←GS a,←GS b];generalize aT a=x;generalize aT b=y;rw[aaC x y];have hs:=h.set;have hr:=h.reck;have ha:=h.ask;cases x<;>cases y<;>simp only[dz,Bool.not_false,Bool.not_true,if_true,Bool.false_eq_true,if_false,aR,Bool.not_eq_true',decide_eq_false_iff_not]
 all_goals first
  |rfl
  |(cases eY op 0 0<;>rfl)
  |skip
 case whole.whole n m=>
  simp only[reduceCtorEq,false_and,if_false];by_cases p: -32768≤n∧n≤65535
  ·by_cases q: -32768≤m∧m≤65535
   ·simp only[if_pos p,if_pos q];rw[hr n m,ha n m];cases fB op m n<;>rfl
   ·simp only[if_pos p,if_neg q]
  ·by_cases q: -32768≤m∧m≤65535
   ·simp only[if_neg p,if_pos q]
   ·simp only[if_neg p,if_neg q]
 case letter.letter n m=>simp only[reduceCtorEq,false_and,if_false,ha (n:Int) m]
 case truth.truth n m=>cases n<;>cases m<;>simp only[reduceCtorEq,false_and,if_false,if_true,Bool.false_eq_true,ha 0 1,Int.add_comm 0 1]
 case bits.bits n m=>cases eY op 0 0<;>simp only[hs n m]
 case item.item t n u m=>simp only[reduceCtorEq,false_and,if_false,ha n m]
theorem PY(T:List Ty){op:Op}(h:GT op)(t:Int)(a b:Jd):mN T op t a b=mN T op t b a:=by
 unfold mN;rw[aaD h a.val b.val];simp only[or_comm (a:=a.val=.none)]
theorem aaE(V:ea)(hT:V.T=worldT){op:Op}(h:op∈sideOps)(x y:ao)(a b:Jd):wX V x y op a b=wX V y x op b a:=by
 have he:=PV h;unfold wX;rw[Bool.and_comm (decide (a.is≠3)),hT];split
 ·rfl
 by_cases p:(decide (a.is≠3)||eN V x)=true
 ·by_cases q:(decide (b.is≠3)||eN V y)=true
  ·simp only[p,q,Bool.not_true,Bool.false_eq_true,if_false];split
   ·rw[PN,PT,PY worldT he]
   ·rw[PN op a.type,PT];split
    ·rfl
    split
    ·rfl
    rename_i hf _;rw[PY worldT he];congr 1;have hf:cM worldT op b.type a.type=true:=by simpa using hf
    have hc:ey worldT b.type a.type=true:=by
     unfold cM at hf;cases hcc:ey worldT b.type a.type
     ·rw[hcc]at hf;exact absurd hf (by simp)
     ·rfl
    have hk:aJ worldT b.type≠0∧aJ worldT a.type≠0:=by
     unfold ey at hc;constructor
     ·intro h0;rw[if_pos (.inl h0)]at hc;cases hc
     ·intro h0;rw[if_pos (.inr h0)]at hc;cases hc
    have hsort:(bE worldT b.type=true∧bE worldT a.type=true∨aJ worldT b.type=13∧aJ worldT a.type=13∨bP worldT b.type=3∧bP worldT a.type=3):=by
     unfold cM at hf;rw[hc]at hf;rename_i hno _ _;simp only[Bool.not_true,Bool.false_eq_true,if_false]at hf;simp only[sideOps,List.mem_cons,List.not_mem_nil,or_false]at h;rcases h with rfl|rfl|rfl|rfl|rfl|rfl|rfl
     all_goals simp[bV,bW,cP,fe,eO,eP,dT,eI,gm,fw,gn,fy,bQ,bR]at hf hno ⊢
     all_goals first
      |exact hf.elim .inl (fun h=>.inr (.inl h))
      |exact .inr (.inr hf)
      |exact .inr (.inl hf)
    obtain⟨n,hn⟩:=nX hk.1;obtain⟨m,hm⟩:=nX hk.2;rw[hn,hm]at hc hsort ⊢;exact(aaB n m hc hsort).symm
  ·rw[if_neg (by rw[p];simp),if_pos (by rw[Bool.eq_false_iff.2 q];rfl),if_pos (by rw[Bool.eq_false_iff.2 q];rfl)]
 ·rw[if_pos (by rw[Bool.eq_false_iff.2 p];rfl)];split
  ·rfl
  ·rw[if_pos (by rw[Bool.eq_false_iff.2 p];rfl)]
theorem aaF(V:ea)(hT:V.T=worldT)(N:Nat)(p:cJ)(op:List UInt8)(hop:op∈sideOps)(x y:ao):jQ (exprJ V (N+1) (.mk 11 p op 0 [x,y]))=jQ (exprJ V (N+1) (.mk 11 p op 0 [y,x])):=by
 have h:∀x y,exprJ V (N+1) (.mk 11 p op 0 [x,y])=(do
  let j ←(do let a ←exprJ V N x;let b ←exprJ V N y;iV V (.mk 11 p op 0 [x,y]) a b)
  aI (decide (aJ V.T j.type≠0)) (.mk 11 p op 0 [x,y]) 252
  .ok j):=by
  intro x y;have k0:kid (.mk 11 p op 0 [x,y]) 0=x:=rfl;have k1:kid (.mk 11 p op 0 [x,y]) 1=y:=rfl;rw[exprJ];simp[ao.kind,k0,k1]
 have last:∀(r:Jr Jd) (z:ao),jQ (do let j ←r;aI (decide (aJ V.T j.type≠0)) z 252;.ok j)=(match jQ r with|none=>none|some (t,v)=>if aJ V.T t≠0 then some (t,v)else none):=by
  intro r z;cases r with
  |error e=>rfl
  |ok j=>
   show jQ (aI (decide (aJ V.T j.type≠0)) z 252 >>= fun _=>.ok j)=_;rw[BI];simp[jQ]
 rw[h x y,h y x,last,last];have hn:=(PV hop).notIn;cases hx:exprJ V N x with
 |error e=>
  cases hy:exprJ V N y with
  |error e'=>rfl
  |ok k=>rfl
 |ok j=>
  cases hy:exprJ V N y with
  |error e'=>rfl
  |ok k=>
   show(match jQ (iV V (.mk 11 p op 0 [x,y]) j k)with|none=>none|some (t,v)=>if aJ V.T t≠0 then some (t,v)else none)=(match jQ (iV V (.mk 11 p op 0 [y,x]) k j)with|none=>none|some (t,v)=>if aJ V.T t≠0 then some (t,v)else none);rw[PU V p op x y j k hn,PU V p op y x k j hn,aaE V hT hop]
end Go.Proofs.YtlpombjidhloiaaGreat
